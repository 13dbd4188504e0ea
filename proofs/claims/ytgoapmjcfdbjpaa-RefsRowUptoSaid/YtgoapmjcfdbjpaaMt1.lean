/- Texts of ours joined. -/
import Derived.Below
import Derived.WalkKit
import Derived.Deep.AppendLies
import Derived.Laws.BytesArg
import Derived.Test.YtgoapmjcfdbjpaaChecked
import Derived.WalkSpells
import Derived.WalkLawsBesides
import Derived.Lib.Hide
import Derived.KernelRfl
import Derived.Laws.AppendOwn
import Derived.Laws.AppendOwnNone
import Derived.Deep.Strs
import Derived.Test.YtgoapmjcfdbjpaaRows
import Derived.Maps.OwnSet
import Derived.Maps.RangeWalk
import Derived.ArgAppend
import Derived.Maps.AppendAt
import Derived.Deep.Upon
import Derived.Laws.OwnMore
import Derived.StillTail
import Derived.StillTactics
import Derived.Deep.RegionHeld3
import Derived.Laws.Tables
import Derived.Laws.Rows
import Derived.Test.YtgoapmjcfdbjpaaShelf
set_option linter.unusedVariables false
set_option linter.unusedSimpArgs false
namespace Go.Proofs.Ytgoapmjcfdbjpaa
namespace Rf
variable {α : Type} [DecidableEq α]
theorem nodup_len : ∀ {l ks : List α}, l.Nodup → (∀ x, x ∈ l → x ∈ ks) → l.length ≤ ks.length
  | [], _, _, _ => Nat.zero_le _
  | a :: r, ks, h, hs => by
    obtain ⟨h1, h2⟩ := List.nodup_cons.1 h
    have ha := hs a (List.mem_cons_self ..)
    have ih := nodup_len (ks := ks.erase a) h2 fun x hx => (List.mem_erase_of_ne (fun e => h1 (by rw [← e]; exact hx))).2 (hs x (List.mem_cons_of_mem _ hx))
    rw [List.length_erase_of_mem ha] at ih
    have := List.length_pos_of_mem ha
    rw [List.length_cons]; omega
structure C (α : Type) where
  uid : α
  own : List α
def uids (l : List (C α)) : List α := l.map C.uid
def ownsL (l : List (C α)) (o : α) : List α := (l.filter (fun x => decide (o ∈ x.own))).map C.uid
theorem mem_owns {l : List (C α)} {o u : α} : u ∈ ownsL l o ↔ ∃ x ∈ l, o ∈ x.own ∧ x.uid = u := by
  unfold ownsL
  simp only [List.mem_map, List.mem_filter, decide_eq_true_eq]
  constructor
  · rintro ⟨x, ⟨h1, h2⟩, h3⟩; exact ⟨x, h1, h2, h3⟩
  · rintro ⟨x, h1, h2, h3⟩; exact ⟨x, ⟨h1, h2⟩, h3⟩
theorem owns_uids {l : List (C α)} {o u : α} (h : u ∈ ownsL l o) : u ∈ uids l := by
  obtain ⟨x, h1, _, rfl⟩ := mem_owns.1 h
  exact List.mem_map_of_mem h1
theorem owns_sub (l : List (C α)) (o : α) : (ownsL l o).Sublist (uids l) := (List.filter_sublist).map _
theorem owns_nodup {l : List (C α)} (h : (uids l).Nodup) (o : α) : (ownsL l o).Nodup := (owns_sub l o).nodup h
theorem uid_one {β : Type} : ∀ {l : List (C β)}, (uids l).Nodup → ∀ {x y : C β}, x ∈ l → y ∈ l → x.uid = y.uid → x = y
  | [], _, _, _, hx, _, _ => by cases hx
  | z :: r, hn, x, y, hx, hy, he => by
    have hn' : z.uid ∉ uids r ∧ (uids r).Nodup := List.nodup_cons.1 hn
    rcases List.mem_cons.1 hx with rfl | hx' <;> rcases List.mem_cons.1 hy with rfl | hy'
    · rfl
    · exact (hn'.1 (he ▸ List.mem_map_of_mem hy')).elim
    · exact (hn'.1 (he ▸ List.mem_map_of_mem hx')).elim
    · exact uid_one hn'.2 hx' hy' he
def Cnt (S : α → Prop) (n : Nat) : Prop := ∃ s : List α, s.Nodup ∧ (∀ o, o ∈ s ↔ S o) ∧ s.length = n
theorem Cnt.congr {β : Type} {S T : β → Prop} {n : Nat} (h : Cnt S n) (hst : ∀ o, S o ↔ T o) : Cnt T n := let ⟨s, h1, h2, h3⟩ := h; ⟨s, h1, fun o => (h2 o).trans (hst o), h3⟩
theorem Cnt.zero {β : Type} {S : β → Prop} (h : ∀ o, ¬ S o) : Cnt S 0 := ⟨[], List.nodup_nil, fun o => ⟨fun h' => (by cases h'), fun h' => (h o h').elim⟩, rfl⟩
theorem Cnt.none {β : Type} {S : β → Prop} (h : Cnt S 0) (o : β) : ¬ S o := by
  obtain ⟨s, _, h2, h3⟩ := h
  have : s = [] := List.eq_nil_of_length_eq_zero h3
  subst this
  intro ho
  have := (h2 o).2 ho
  cases this
theorem Cnt.eq_zero {β : Type} {S : β → Prop} {n : Nat} (h : Cnt S n) (hs : ∀ o, ¬ S o) : n = 0 := by
  obtain ⟨s, _, h2, rfl⟩ := h
  cases s with
  | nil => rfl
  | cons a r => exact (hs a ((h2 a).1 (List.mem_cons_self ..))).elim
theorem Cnt.add {β : Type} {S : β → Prop} {n : Nat} {u : β} (h : Cnt S n) (hu : ¬ S u) : Cnt (fun o => S o ∨ o = u) (n + 1) := by
  obtain ⟨s, h1, h2, rfl⟩ := h
  refine ⟨u :: s, List.nodup_cons.2 ⟨fun hm => hu ((h2 u).1 hm), h1⟩, fun o => ?_, rfl⟩
  rw [List.mem_cons, h2]
  exact or_comm
theorem Cnt.drop {S : α → Prop} {n : Nat} {u : α} (h : Cnt S n) (hu : S u) : 1 ≤ n ∧ Cnt (fun o => S o ∧ o ≠ u) (n - 1) := by
  obtain ⟨s, h1, h2, rfl⟩ := h
  have hm : u ∈ s := (h2 u).2 hu
  have hlen := List.length_erase_of_mem hm
  have hpos : 0 < s.length := List.length_pos_of_mem hm
  refine ⟨hpos, s.erase u, h1.erase u, fun o => ?_, by omega⟩
  rw [h1.mem_erase_iff, h2]
  exact and_comm
theorem Cnt.le {S : α → Prop} {n : Nat} {m : List α} (h : Cnt S n) (hm : ∀ o, S o → o ∈ m) : n ≤ m.length := by
  obtain ⟨s, h1, h2, rfl⟩ := h
  exact nodup_len h1 fun o ho => hm o ((h2 o).1 ho)
theorem Cnt.of {β : Type} {l : List β} (h : l.Nodup) : Cnt (· ∈ l) l.length := ⟨l, h, fun _ => Iff.rfl, rfl⟩
inductive Gone (l : List (C α)) : α → Prop
  | mk (x : C α) (hx : x ∈ l) (hne : x.own ≠ []) (h : ∀ o ∈ x.own, o ∈ uids l → Gone l o) : Gone l x.uid
theorem Gone.uid {β : Type} {l : List (C β)} {u : β} (h : Gone l u) : u ∈ uids l := by
  cases h with | mk x hx _ _ => exact List.mem_map_of_mem hx
structure GInv (l : List (C α)) (W : α → Nat) (Q : List α) (D : α → α → Prop) : Prop where
  nodup : Q.Nodup
  gone : ∀ u ∈ Q, Gone l u
  cnt : ∀ x ∈ l, Cnt (fun o => o ∈ x.own ∧ o ∈ uids l ∧ ¬ D o x.uid) (W x.uid)
  inq : ∀ x ∈ l, x.own ≠ [] → (W x.uid = 0 ↔ x.uid ∈ Q)
  dq : ∀ o u, D o u → o ∈ Q
theorem GInv.congr {β : Type} {l : List (C β)} {W : β → Nat} {Q : List β} {D D' : β → β → Prop} (h : GInv l W Q D) (hD : ∀ x ∈ l, ∀ o ∈ x.own, o ∈ uids l → (D o x.uid ↔ D' o x.uid)) (hq : ∀ o u, D' o u → o ∈ Q) : GInv l W Q D' :=
  ⟨h.nodup, h.gone, fun x hx => (h.cnt x hx).congr fun o => ⟨fun ⟨a, b, c⟩ => ⟨a, b, fun d => c ((hD x hx o a b).2 d)⟩, fun ⟨a, b, c⟩ => ⟨a, b, fun d => c ((hD x hx o a b).1 d)⟩⟩, h.inq, hq⟩
def upd (W : α → Nat) (u : α) (n : Nat) : α → Nat := fun z => if z = u then n else W z
theorem upd_same (W : α → Nat) (u : α) (n : Nat) : upd W u n u = n := if_pos rfl
theorem upd_other (W : α → Nat) {u z : α} (n : Nat) (h : z ≠ u) : upd W u n z = W z := if_neg h
theorem GInv.step {l : List (C α)} (hn : (uids l).Nodup) {W : α → Nat} {Q : List α} {D : α → α → Prop} (h : GInv l W Q D) {o u : α} (ho : o ∈ Q) (hu : u ∈ ownsL l o) (hD : ¬ D o u) :
    1 ≤ W u ∧ GInv l (upd W u (W u - 1)) (if W u - 1 = 0 then Q ++ [u] else Q) (fun a b => D a b ∨ (a = o ∧ b = u)) := by
  obtain ⟨x, hx, hox, rfl⟩ := mem_owns.1 hu
  have hol : o ∈ uids l := (h.gone o ho).uid
  obtain ⟨h1, h2⟩ := (h.cnt x hx).drop ⟨hox, hol, hD⟩
  have hne : x.own ≠ [] := fun e => by rw [e] at hox; cases hox
  have hxq : x.uid ∉ Q := fun hq => by have := (h.inq x hx hne).2 hq; omega
  have hsub : ∀ z ∈ Q, z ∈ (if W x.uid - 1 = 0 then Q ++ [x.uid] else Q) := fun z hz => by
    split
    · exact List.mem_append_left _ hz
    · exact hz
  have hcnt : ∀ y ∈ l, Cnt (fun z => z ∈ y.own ∧ z ∈ uids l ∧ ¬ (D z y.uid ∨ (z = o ∧ y.uid = x.uid))) (upd W x.uid (W x.uid - 1) y.uid) := by
    intro y hy
    by_cases hyx : y.uid = x.uid
    · obtain rfl := uid_one hn hy hx hyx
      rw [upd_same]
      refine h2.congr fun z => ?_
      constructor
      · rintro ⟨⟨a, b, c⟩, d⟩
        exact ⟨a, b, fun e => e.elim c fun e => d e.1⟩
      · rintro ⟨a, b, c⟩
        exact ⟨⟨a, b, fun e => c (.inl e)⟩, fun e => c (.inr ⟨e, rfl⟩)⟩
    · rw [upd_other _ _ hyx]
      refine (h.cnt y hy).congr fun z => ?_
      constructor
      · rintro ⟨a, b, c⟩
        exact ⟨a, b, fun e => e.elim c fun e => hyx e.2⟩
      · rintro ⟨a, b, c⟩
        exact ⟨a, b, fun e => c (.inl e)⟩
  refine ⟨h1, ?_, ?_, hcnt, ?_, ?_⟩
  · split
    · exact List.nodup_append.2 ⟨h.nodup, by simp, fun a ha b hb e => by simp only [List.mem_singleton] at hb; subst hb; subst e; exact hxq ha⟩
    · exact h.nodup
  · intro z hz
    by_cases hw : W x.uid - 1 = 0
    · rw [if_pos hw] at hz
      rcases List.mem_append.1 hz with hz | hz
      · exact h.gone z hz
      · simp only [List.mem_singleton] at hz
        subst hz
        have h3 := hcnt x hx
        rw [upd_same, hw] at h3
        refine .mk x hx hne fun a ha hal => ?_
        have h4 := h3.none a
        have h5 : D a x.uid ∨ (a = o ∧ x.uid = x.uid) := Classical.byContradiction fun e => h4 ⟨ha, hal, e⟩
        rcases h5 with h5 | h5
        · exact h.gone a (h.dq _ _ h5)
        · rw [h5.1]; exact h.gone o ho
    · rw [if_neg hw] at hz
      exact h.gone z hz
  · intro y hy hyn
    by_cases hyx : y.uid = x.uid
    · rw [hyx, upd_same]
      constructor
      · intro e; rw [if_pos e]; simp
      · intro e
        by_cases hw : W x.uid - 1 = 0
        · exact hw
        · rw [if_neg hw] at e; exact (hxq e).elim
    · rw [upd_other _ _ hyx, h.inq y hy hyn]
      constructor
      · exact fun e => hsub _ e
      · intro e
        split at e
        · rcases List.mem_append.1 e with e | e
          · exact e
          · simp only [List.mem_singleton] at e; exact (hyx e).elim
        · exact e
  · rintro a b (e | e)
    · exact hsub _ (h.dq _ _ e)
    · rw [e.1]; exact hsub _ ho
theorem GInv.all {β : Type} {l : List (C β)} {W : β → Nat} {Q : List β} (h : GInv l W Q (fun o _ => o ∈ Q)) (u : β) : u ∈ Q ↔ Gone l u := by
  refine ⟨h.gone u, fun hg => ?_⟩
  induction hg with
  | mk x hx hne _ ih =>
    refine (h.inq x hx hne).1 ((h.cnt x hx).eq_zero ?_)
    rintro o ⟨a, b, c⟩
    exact c (ih o a b)
def IsGone (l : List (C α)) (g : List α) : Prop := g.Nodup ∧ ∀ u, u ∈ g ↔ Gone l u
structure GPre (l : List (C α)) (i : Nat) (W : α → Nat) (Q : List α) : Prop where
  nodup : Q.Nodup
  cnt : ∀ x ∈ l.take i, Cnt (fun o => o ∈ x.own ∧ o ∈ uids l) (W x.uid)
  rest : ∀ x ∈ l.drop i, W x.uid = 0
  inq : ∀ u, u ∈ Q ↔ ∃ x ∈ l.take i, x.uid = u ∧ x.own ≠ [] ∧ W x.uid = 0
theorem take_succ {β : Type} {l : List β} {i : Nat} {x : β} (hx : l[i]? = some x) : l.take (i + 1) = l.take i ++ [x] := by rw [List.take_add_one, hx]; rfl
theorem drop_succ {β : Type} {l : List β} {i : Nat} {x : β} (hx : l[i]? = some x) : l.drop i = x :: l.drop (i + 1) := by
  have hi := (List.getElem?_eq_some_iff.1 hx)
  obtain ⟨h1, h2⟩ := hi
  rw [List.drop_eq_getElem_cons h1, h2]
theorem uid_apart {β : Type} {l : List (C β)} (hn : (uids l).Nodup) {i : Nat} {x : C β} (hx : l[i]? = some x) : (∀ y ∈ l.take i, y.uid ≠ x.uid) ∧ ∀ y ∈ l.drop (i + 1), y.uid ≠ x.uid := by
  have h1 : l = l.take i ++ (x :: l.drop (i + 1)) := by rw [← drop_succ hx, List.take_append_drop]
  have hn2 : ((l.take i).map C.uid ++ (x.uid :: (l.drop (i + 1)).map C.uid)).Nodup := by
    have : uids l = (l.take i).map C.uid ++ (x.uid :: (l.drop (i + 1)).map C.uid) := by
      conv => lhs; rw [h1]
      simp [uids]
    rw [← this]; exact hn
  obtain ⟨_, h3, h4⟩ := List.nodup_append.1 hn2
  refine ⟨fun y hy e => h4 _ (List.mem_map_of_mem hy) _ (List.mem_cons_self ..) e, fun y hy e => (List.nodup_cons.1 h3).1 (e ▸ List.mem_map_of_mem hy)⟩
theorem GPre.step {l : List (C α)} (hn : (uids l).Nodup) {i : Nat} {W : α → Nat} {Q : List α} (h : GPre l i W Q) {x : C α} (hx : l[i]? = some x) {c : Nat} (hc : Cnt (fun o => o ∈ x.own ∧ o ∈ uids l) c) :
    GPre l (i + 1) (upd W x.uid c) (if x.own ≠ [] ∧ c = 0 then Q ++ [x.uid] else Q) := by
  obtain ⟨hA, hB⟩ := uid_apart hn hx
  have hxq : x.uid ∉ Q := fun e => by obtain ⟨y, hy, he, _⟩ := (h.inq _).1 e; exact hA y hy he
  refine ⟨?_, ?_, ?_, ?_⟩
  · split
    · exact List.nodup_append.2 ⟨h.nodup, by simp, fun a ha b hb e => by simp only [List.mem_singleton] at hb; subst hb; subst e; exact hxq ha⟩
    · exact h.nodup
  · intro y hy
    rw [take_succ hx] at hy
    rcases List.mem_append.1 hy with hy | hy
    · rw [upd_other _ _ (hA y hy)]; exact h.cnt y hy
    · simp only [List.mem_singleton] at hy
      subst hy
      rw [upd_same]; exact hc
  · intro y hy
    rw [upd_other _ _ (hB y hy)]
    exact h.rest y (by rw [drop_succ hx]; exact List.mem_cons_of_mem _ hy)
  · intro u
    rw [take_succ hx]
    have old : (∃ y ∈ l.take i, y.uid = u ∧ y.own ≠ [] ∧ upd W x.uid c y.uid = 0) ↔ u ∈ Q := by
      rw [h.inq]
      constructor
      · rintro ⟨y, h1, h2, h3, h4⟩
        rw [upd_other _ _ (hA y h1)] at h4
        exact ⟨y, h1, h2, h3, h4⟩
      · rintro ⟨y, h1, h2, h3, h4⟩
        refine ⟨y, h1, h2, h3, ?_⟩
        rw [upd_other _ _ (hA y h1)]; exact h4
    constructor
    · intro hu
      split at hu
      · rename_i hcc
        rcases List.mem_append.1 hu with hu | hu
        · obtain ⟨y, h1, h2⟩ := old.2 hu
          exact ⟨y, List.mem_append_left _ h1, h2⟩
        · simp only [List.mem_singleton] at hu
          subst hu
          exact ⟨x, by simp, rfl, hcc.1, by rw [upd_same]; exact hcc.2⟩
      · obtain ⟨y, h1, h2⟩ := old.2 hu
        exact ⟨y, List.mem_append_left _ h1, h2⟩
    · rintro ⟨y, h1, h2, h3, h4⟩
      rcases List.mem_append.1 h1 with h1 | h1
      · have := old.1 ⟨y, h1, h2, h3, h4⟩
        split
        · exact List.mem_append_left _ this
        · exact this
      · simp only [List.mem_singleton] at h1
        subst h1
        rw [upd_same] at h4
        rw [if_pos ⟨h3, h4⟩]
        subst h2
        simp
theorem GPre.inv {β : Type} {l : List (C β)} (hn : (uids l).Nodup) {W : β → Nat} {Q : List β} (h : GPre l l.length W Q) : GInv l W Q (fun _ _ => False) := by
  have ht : l.take l.length = l := List.take_of_length_le (Nat.le_refl _)
  have hc := h.cnt
  have hq := h.inq
  rw [ht] at hc hq
  refine ⟨h.nodup, fun u hu => ?_, fun x hx => (hc x hx).congr fun o => by simp, fun x hx hne => ?_, fun _ _ e => e.elim⟩
  · obtain ⟨x, hx, rfl, hne, h0⟩ := (hq u).1 hu
    have h1 := hc x hx
    rw [h0] at h1
    exact .mk x hx hne fun o ho hol => (h1.none o ⟨ho, hol⟩).elim
  · rw [hq]
    constructor
    · exact fun e => ⟨x, hx, rfl, hne, e⟩
    · rintro ⟨y, hy, he, _, h0⟩
      obtain rfl := uid_one hn hy hx he
      exact h0
inductive Comes (l : List (C α)) (a : α) : α → Prop
  | first (u : α) (h : u ∈ ownsL l a) : Comes l a u
  | more (v u : α) (h : Comes l a v) (hu : u ∈ ownsL l v) : Comes l a u
theorem Comes.trans {l : List (C α)} {a b c : α} (h : Comes l a b) (k : Comes l b c) : Comes l a c := by
  induction k with
  | first u hu => exact .more b u h hu
  | more v u _ hu ih => exact .more v u ih hu
theorem Comes.uid {l : List (C α)} {a u : α} (h : Comes l a u) : u ∈ uids l := by
  cases h with
  | first _ h => exact owns_uids h
  | more _ _ _ h => exact owns_uids h
structure UInv (l : List (C α)) (a : α) (sn : List α) (k j : Nat) : Prop where
  nodup : sn.Nodup
  comes : ∀ u ∈ sn, Comes l a u
  done : ∀ (i : Nat) (v : α), i < k → (a :: sn)[i]? = some v → ∀ u ∈ ownsL l v, u ∈ sn
  part : ∀ v, (a :: sn)[k]? = some v → ∀ u ∈ (ownsL l v).take j, u ∈ sn
theorem uinv_zero (l : List (C α)) (a : α) : UInv l a [] 0 0 := ⟨List.nodup_nil, fun _ h => (by cases h), fun i v h => by omega, fun v _ u hu => by simp at hu⟩
theorem UInv.here {l : List (C α)} {a : α} {sn : List α} {k j : Nat} (h : UInv l a sn k j) {v : α} (hv : (a :: sn)[k]? = some v) {u : α} (hu : u ∈ ownsL l v) : Comes l a u := by
  cases k with
  | zero => simp only [List.getElem?_cons_zero, Option.some.injEq] at hv; subst hv; exact .first u hu
  | succ k => exact .more v u (h.comes v (List.mem_of_getElem? (by simpa using hv))) hu
theorem get_app {β : Type} {l : List β} {x y : β} {i : Nat} (h : l[i]? = some x) : (l ++ [y])[i]? = some x := by
  rw [List.getElem?_append_left (List.getElem?_eq_some_iff.1 h).1]; exact h
theorem get_app_lt {β : Type} {l : List β} {y x : β} {i : Nat} (hi : i < l.length) (h : (l ++ [y])[i]? = some x) : l[i]? = some x := by
  rwa [List.getElem?_append_left hi] at h
theorem UInv.seen {l : List (C α)} {a : α} {sn : List α} {k j : Nat} (h : UInv l a sn k j) {v u : α} (hv : (a :: sn)[k]? = some v) (hu : (ownsL l v)[j]? = some u) (hin : u ∈ sn) : UInv l a sn k (j + 1) :=
  ⟨h.nodup, h.comes, h.done, fun v' hv' z hz => by
    rw [hv] at hv'
    cases hv'
    rw [take_succ hu] at hz
    rcases List.mem_append.1 hz with hz | hz
    · exact h.part v hv z hz
    · simp only [List.mem_singleton] at hz; subst hz; exact hin⟩
theorem UInv.push {l : List (C α)} {a : α} {sn : List α} {k j : Nat} (h : UInv l a sn k j) {v u : α} (hv : (a :: sn)[k]? = some v) (hu : (ownsL l v)[j]? = some u) (hin : u ∉ sn) : UInv l a (sn ++ [u]) k (j + 1) := by
  have hk : k < (a :: sn).length := (List.getElem?_eq_some_iff.1 hv).1
  have e : a :: (sn ++ [u]) = (a :: sn) ++ [u] := rfl
  refine ⟨List.nodup_append.2 ⟨h.nodup, by simp, fun x hx y hy e' => by simp only [List.mem_singleton] at hy; subst hy; subst e'; exact hin hx⟩, fun z hz => ?_, fun i z hi hz w hw => ?_, fun v' hv' z hz => ?_⟩
  · rcases List.mem_append.1 hz with hz | hz
    · exact h.comes z hz
    · simp only [List.mem_singleton] at hz; subst hz; exact h.here hv (List.mem_of_getElem? hu)
  · rw [e] at hz
    exact List.mem_append_left _ (h.done i z hi (get_app_lt (by omega) hz) w hw)
  · rw [e] at hv'
    have := get_app_lt hk hv'
    rw [hv] at this
    cases this
    rw [take_succ hu] at hz
    rcases List.mem_append.1 hz with hz | hz
    · exact List.mem_append_left _ (h.part v hv z hz)
    · exact List.mem_append_right _ hz
theorem UInv.next {l : List (C α)} {a : α} {sn : List α} {k j : Nat} (h : UInv l a sn k j) {v : α} (hv : (a :: sn)[k]? = some v) (hj : (ownsL l v).length ≤ j) : UInv l a sn (k + 1) 0 :=
  ⟨h.nodup, h.comes, fun i z hi hz u hu => by
    by_cases hik : i < k
    · exact h.done i z hik hz u hu
    · obtain rfl : i = k := by omega
      rw [hv] at hz
      cases hz
      exact h.part v hv u (by rw [List.take_of_length_le hj]; exact hu), fun v' _ u hu => by simp at hu⟩
theorem UInv.len {l : List (C α)} {a : α} {sn : List α} {k j : Nat} (h : UInv l a sn k j) : sn.length ≤ l.length := by
  have := nodup_len h.nodup (fun u hu => (h.comes u hu).uid)
  simpa [uids] using this
theorem UInv.all {l : List (C α)} {a : α} {sn : List α} {k j : Nat} (h : UInv l a sn k j) (hk : sn.length + 1 ≤ k) (u : α) : u ∈ sn ↔ Comes l a u := by
  refine ⟨h.comes u, fun hc => ?_⟩
  induction hc with
  | first u hu => exact h.done 0 a (by omega) rfl u hu
  | more v u _ hu ih =>
    obtain ⟨i, hi, hiv⟩ := List.getElem_of_mem ih
    exact h.done (i + 1) v (by omega) (by simp [hi, hiv]) u hu
structure OInv (l : List (C α)) (L : α → Option Nat) (out : List α) (E : α → α → Prop) : Prop where
  nodup : out.Nodup
  sub : ∀ u ∈ out, u ∈ uids l
  left : ∀ u, (L u).isSome = true ↔ u ∈ uids l ∧ u ∉ out
  cnt : ∀ u n, L u = some n → Cnt (fun v => v ∈ ownsL l u ∧ ¬ E u v) n
  eout : ∀ u v, E u v → v ∈ out
  row : ∀ u ∈ out, ∀ v ∈ ownsL l u, v ∈ out ∧ out.idxOf v < out.idxOf u
theorem oinv_zero {l : List (C α)} (hn : (uids l).Nodup) {L : α → Option Nat} (hL : ∀ u, L u = if u ∈ uids l then some (ownsL l u).length else none) : OInv l L [] (fun _ _ => False) := by
  refine ⟨List.nodup_nil, fun _ h => (by cases h), fun u => ?_, fun u n h => ?_, fun _ _ h => h.elim, fun _ h => (by cases h)⟩
  · rw [hL]; by_cases h : u ∈ uids l <;> simp [h]
  · rw [hL] at h
    by_cases hu : u ∈ uids l
    · rw [if_pos hu] at h
      cases h
      exact (Cnt.of (owns_nodup hn u)).congr fun o => by simp
    · rw [if_neg hu] at h; cases h
def delO (L : α → Option Nat) (u : α) : α → Option Nat := fun z => if z = u then none else L z
def setO (L : α → Option Nat) (u : α) (n : Nat) : α → Option Nat := fun z => if z = u then some n else L z
theorem OInv.take {l : List (C α)} {L : α → Option Nat} {out : List α} (h : OInv l L out (fun _ v => v ∈ out)) {a : α} (ha : L a = some 0) : OInv l (delO L a) (out ++ [a]) (fun _ v => v ∈ out) := by
  obtain ⟨hal, hao⟩ := (h.left a).1 (by rw [ha]; rfl)
  refine ⟨List.nodup_append.2 ⟨h.nodup, by simp, fun x hx y hy e => by simp only [List.mem_singleton] at hy; subst hy; subst e; exact hao hx⟩, fun u hu => ?_, fun u => ?_, fun u n hu => ?_, fun u v hv => List.mem_append_left _ hv, fun u hu v hv => ?_⟩
  · rcases List.mem_append.1 hu with hu | hu
    · exact h.sub u hu
    · simp only [List.mem_singleton] at hu; subst hu; exact hal
  · unfold delO
    by_cases hu : u = a
    · subst hu; simp
    · rw [if_neg hu, h.left]; simp [hu]
  · unfold delO at hu
    by_cases hua : u = a
    · rw [if_pos hua] at hu; cases hu
    · rw [if_neg hua] at hu; exact h.cnt u n hu
  · rcases List.mem_append.1 hu with hu | hu
    · obtain ⟨h1, h2⟩ := h.row u hu v hv
      exact ⟨List.mem_append_left _ h1, by rw [List.idxOf_append, List.idxOf_append, if_pos h1, if_pos hu]; exact h2⟩
    · simp only [List.mem_singleton] at hu
      subst hu
      have h1 : v ∈ out := Classical.byContradiction fun e => (h.cnt u 0 ha).none v ⟨hv, e⟩
      refine ⟨List.mem_append_left _ h1, ?_⟩
      rw [List.idxOf_append, List.idxOf_append, if_pos h1, if_neg hao]
      have := List.idxOf_lt_length_of_mem h1
      omega
theorem OInv.tell {l : List (C α)} {L : α → Option Nat} {out : List α} {E : α → α → Prop} (h : OInv l L out E) {a o : α} {n : Nat} (hn : L o = some n) (ha : a ∈ out) (hao : a ∈ ownsL l o) (hE : ¬ E o a) :
    1 ≤ n ∧ OInv l (setO L o (n - 1)) out (fun u v => E u v ∨ (u = o ∧ v = a)) := by
  obtain ⟨h1, h2⟩ := (h.cnt o n hn).drop (u := a) ⟨hao, hE⟩
  refine ⟨h1, h.nodup, h.sub, fun u => ?_, fun u m hu => ?_, fun u v hv => hv.elim (h.eout u v) fun e => e.2 ▸ ha, h.row⟩
  · rw [← h.left]
    unfold setO
    by_cases hu : u = o
    · subst hu; simp [hn]
    · rw [if_neg hu]
  · unfold setO at hu
    by_cases huo : u = o
    · rw [if_pos huo] at hu
      cases hu
      subst huo
      refine h2.congr fun z => ?_
      constructor
      · rintro ⟨⟨p, q⟩, r⟩
        exact ⟨p, fun e => e.elim q fun e => r e.2⟩
      · rintro ⟨p, q⟩
        exact ⟨⟨p, fun e => q (.inl e)⟩, fun e => q (.inr ⟨rfl, e⟩)⟩
    · rw [if_neg huo] at hu
      refine (h.cnt u m hu).congr fun z => ?_
      constructor
      · rintro ⟨p, q⟩
        exact ⟨p, fun e => e.elim q fun e => huo e.1⟩
      · rintro ⟨p, q⟩
        exact ⟨p, fun e => q (.inl e)⟩
theorem OInv.congr {l : List (C α)} {L : α → Option Nat} {out : List α} {E E' : α → α → Prop} (h : OInv l L out E) (hE : ∀ u v, (L u).isSome = true → v ∈ ownsL l u → (E u v ↔ E' u v)) (he : ∀ u v, E' u v → v ∈ out) : OInv l L out E' :=
  ⟨h.nodup, h.sub, h.left, fun u n hu => (h.cnt u n hu).congr fun v => ⟨fun ⟨a, b⟩ => ⟨a, fun c => b ((hE u v (by rw [hu]; rfl) a).2 c)⟩, fun ⟨a, b⟩ => ⟨a, fun c => b ((hE u v (by rw [hu]; rfl) a).1 c)⟩⟩, he, h.row⟩
theorem OInv.len {l : List (C α)} {L : α → Option Nat} {out : List α} {E : α → α → Prop} (h : OInv l L out E) : out.length ≤ l.length := by
  have := nodup_len h.nodup h.sub
  simpa [uids] using this
def IsRow (l : List (C α)) (out : List α) : Prop := out.Nodup ∧ (∀ u, u ∈ out ↔ u ∈ uids l) ∧ ∀ u ∈ out, ∀ v ∈ ownsL l u, v ∈ out ∧ out.idxOf v < out.idxOf u
theorem OInv.all {l : List (C α)} {L : α → Option Nat} {out : List α} {E : α → α → Prop} (h : OInv l L out E) (h0 : ∀ u, L u = none) : IsRow l out :=
  ⟨h.nodup, fun u => ⟨h.sub u, fun hu => Classical.byContradiction fun e => by have := (h.left u).2 ⟨hu, e⟩; rw [h0 u] at this; cases this⟩, h.row⟩
theorem IsRow.len {l : List (C α)} (hn : (uids l).Nodup) {out : List α} (h : IsRow l out) : out.length = l.length := by
  have h1 := nodup_len h.1 (fun u hu => (h.2.1 u).1 hu)
  have h2 := nodup_len hn (fun u hu => (h.2.1 u).2 hu)
  simp only [uids, List.length_map] at h1 h2
  omega
theorem IsRow.comes {l : List (C α)} {out : List α} (h : IsRow l out) {a u : α} (ha : a ∈ out) (hc : Comes l a u) : u ∈ out ∧ out.idxOf u < out.idxOf a := by
  induction hc with
  | first u hu => exact h.2.2 a ha u hu
  | more v u _ hu ih =>
    obtain ⟨h1, h2⟩ := ih
    obtain ⟨h3, h4⟩ := h.2.2 v h1 u hu
    exact ⟨h3, by omega⟩
theorem IsRow.self {l : List (C α)} {out : List α} (h : IsRow l out) {a : α} (ha : a ∈ out) : ¬ Comes l a a := fun hc => by have := (h.comes ha hc).2; omega
theorem uids_filter {β : Type} {l : List (C β)} (hn : (uids l).Nodup) (p : C β → Bool) : (uids (l.filter p)).Nodup := ((List.filter_sublist).map C.uid).nodup hn
theorem closed {l : List (C α)} (hn : (uids l).Nodup) {g : List α} (hg : IsGone l g) {p : C α → Bool} (hp : ∀ x, p x = decide (x.uid ∉ g)) {h : List α} (hh : IsGone (l.filter p) h) :
    h = [] ∧ (l.filter p).length + g.length = l.length ∧ ∀ x ∈ l.filter p, x.own = [] ∨ ∃ o ∈ x.own, o ∈ uids (l.filter p) := by
  have hmem : ∀ u, u ∈ uids (l.filter p) ↔ u ∈ uids l ∧ u ∉ g := by
    intro u
    simp only [uids, List.mem_map, List.mem_filter, hp, decide_eq_true_eq]
    constructor
    · rintro ⟨x, ⟨h1, h2⟩, rfl⟩; exact ⟨⟨x, h1, rfl⟩, h2⟩
    · rintro ⟨⟨x, h1, rfl⟩, h2⟩; exact ⟨x, ⟨h1, h2⟩, rfl⟩
  have hgone : ∀ u, Gone (l.filter p) u → Gone l u := by
    intro u hu
    induction hu with
    | mk x hx hne _ ih =>
      refine .mk x ((List.mem_filter.1 hx).1) hne fun o ho hol => ?_
      by_cases hog : o ∈ g
      · exact (hg.2 o).1 hog
      · exact ih o ho ((hmem o).2 ⟨hol, hog⟩)
  refine ⟨?_, ?_, ?_⟩
  · cases h with
    | nil => rfl
    | cons u r =>
      have h1 := (hh.2 u).1 (List.mem_cons_self ..)
      exact (((hmem u).1 h1.uid).2 ((hg.2 u).2 (hgone u h1))).elim
  · have h1 : (uids (l.filter p) ++ g).Nodup := List.nodup_append.2 ⟨uids_filter hn p, hg.1, fun a ha b hb e => by subst e; exact ((hmem a).1 ha).2 hb⟩
    have h2 := nodup_len h1 (ks := uids l) (fun u hu => by
      rcases List.mem_append.1 hu with hu | hu
      · exact ((hmem u).1 hu).1
      · exact ((hg.2 u).1 hu).uid)
    have h3 := nodup_len hn (ks := uids (l.filter p) ++ g) (fun u hu => by
      by_cases hug : u ∈ g
      · exact List.mem_append_right _ hug
      · exact List.mem_append_left _ ((hmem u).2 ⟨hu, hug⟩))
    simp only [List.length_append, uids, List.length_map] at h2 h3
    omega
  · intro x hx
    by_cases hne : x.own = []
    · exact .inl hne
    · right
      apply Classical.byContradiction
      intro hno
      have hxm := (List.mem_filter.1 hx).1
      have hxu : x.uid ∈ uids (l.filter p) := List.mem_map_of_mem hx
      refine ((hmem x.uid).1 hxu).2 ((hg.2 _).2 (.mk x hxm hne fun o ho hol => ?_))
      by_cases hog : o ∈ g
      · exact (hg.2 o).1 hog
      · exact (hno ⟨o, ho, (hmem o).2 ⟨hol, hog⟩⟩).elim
theorem more {l : List (C α)} (_hn : (uids l).Nodup) {x : C α} {p : C α → Bool} (hp : ∀ y, p y = decide (y.uid ≠ x.uid)) {g h : List α} (hg : IsGone l g) (hh : IsGone (l.filter p) h) :
    (∀ u ∈ g, u ≠ x.uid → u ∈ h) ∧ ∀ u ∈ h, u ∈ g ∨ Comes l x.uid u := by
  have hmem : ∀ u, u ∈ uids (l.filter p) ↔ u ∈ uids l ∧ u ≠ x.uid := by
    intro u
    simp only [uids, List.mem_map, List.mem_filter, hp, decide_eq_true_eq]
    constructor
    · rintro ⟨y, ⟨h1, h2⟩, rfl⟩; exact ⟨⟨y, h1, rfl⟩, h2⟩
    · rintro ⟨⟨y, h1, rfl⟩, h2⟩; exact ⟨y, ⟨h1, h2⟩, rfl⟩
  constructor
  · intro u hu hne
    rw [hh.2]
    have hu' := (hg.2 u).1 hu
    clear hu
    revert hne
    induction hu' with
    | mk y hy hyn _ ih =>
      intro hne
      refine .mk y (List.mem_filter.2 ⟨hy, by rw [hp]; exact decide_eq_true hne⟩) hyn fun o ho hol => ?_
      obtain ⟨h1, h2⟩ := (hmem o).1 hol
      exact ih o ho h1 h2
  · intro u hu
    have hu' := (hh.2 u).1 hu
    clear hu
    rw [hg.2]
    induction hu' with
    | mk y hy hyn _ ih =>
      have hyl := (List.mem_filter.1 hy).1
      by_cases hxo : x.uid ∈ y.own
      · exact .inr (.first _ (mem_owns.2 ⟨y, hyl, hxo, rfl⟩))
      · by_cases hu : ∃ o ∈ y.own, Comes l x.uid o
        · obtain ⟨o, ho, hc⟩ := hu
          exact .inr (.more o _ hc (mem_owns.2 ⟨y, hyl, ho, rfl⟩))
        · left
          refine .mk y hyl hyn fun o ho hol => ?_
          have := ih o ho ((hmem o).2 ⟨hol, fun e => hxo (e ▸ ho)⟩)
          rcases this with h1 | h1
          · exact h1
          · exact (hu ⟨o, ho, h1⟩).elim
end Rf
end Go.Proofs.Ytgoapmjcfdbjpaa
namespace Go.Proofs.Ytgoapmjcfdbjpaa.NameP
def edge (c : Nat) : Bool := decide (97 ≤ c ∧ c ≤ 122) || decide (65 ≤ c ∧ c ≤ 90) || decide (48 ≤ c ∧ c ≤ 57)
def low (c : Nat) : Bool := edge c && (decide (c < 65) || decide (90 < c))
def dash (c : Nat) : Bool := c == 45
def made (e v : Nat → Bool) (l : List UInt8) : Bool :=
  match l with
  | [] => false
  | x :: r => e x.toNat && e ((x :: r).getLast (by simp)).toNat && (x :: r).all fun c => e c.toNat || v c.toNat
def isName (l : List UInt8) : Bool := made low dash l
def judge (n most : Nat) (is : Bool) : Int := if most < n then 2 else if is then 0 else 6
def check (l : List UInt8) : Int := judge l.length 63 (isName l)
end Go.Proofs.Ytgoapmjcfdbjpaa.NameP
namespace Go.Proofs.Ytgoapmjcfdbjpaa
open Go.RowKit
theorem take_snoc (s : ByteArray) (k : Nat) (h : k < s.size) : s.data.toList.take (k + 1) = s.data.toList.take k ++ [s[k]] := by
  rw [List.take_succ_eq_append_getElem (by simpa using h)]; rfl
theorem run_callFunc_body {P : Program} {f : FuncId} {fn : Func} (hf : P.funcs[f]? = some fn) (hname : (fn.name == "runtime.NumGoroutine") = false) (hb : fn.body.isNone = false) (args : Array Value) (w : World) :
    (callFunc f args).run P w = .ok (.enter f args) w := by
  have h1 : fn.name ≠ "runtime.NumGoroutine" := by simpa using hname
  have h2 : ¬ fn.body = none := fun e => by rw [e] at hb; cases hb
  simp [callFunc, hf, h1, h2]
theorem heap_alloc_old {w : World} {o x : Obj} {n : Nat} (h : w.heap[n]? = some x) : (w.alloc o).heap[n]? = some x := by
  have hn : n < w.heap.size := by
    rcases Nat.lt_or_ge n w.heap.size with h1 | h1
    · exact h1
    · rw [Array.getElem?_eq_none h1] at h; cases h
  exact (Below.heap_alloc w o n hn).trans h
theorem cell_block {w : World} {g : Nat} {cs : Array Value} {t : TypeId} {fr : Nat × Nat} (h : w.heap[g]? = some (.cells cs t fr)) (i : Nat) : w.cell? ⟨g, i, none⟩ = cs[i]? := by simp [World.cell?, h]
theorem free_block {w : World} {g : Nat} {cs : Array Value} {t : TypeId} (h : w.heap[g]? = some (.cells cs t (0, 0))) (i : Nat) : w.frozen? ⟨g, i, none⟩ = false := by simp [World.frozen?, h]
end Go.Proofs.Ytgoapmjcfdbjpaa
namespace Go.Proofs.Ytgoapmjcfdbjpaa
open Go.RowKit
theorem byteRanges (c : Nat) : c < 48 ∨ (48 ≤ c ∧ c ≤ 57) ∨ (57 < c ∧ c < 65) ∨ (65 ≤ c ∧ c ≤ 90) ∨ (90 < c ∧ c < 97) ∨ (97 ≤ c ∧ c ≤ 122) ∨ 122 < c := by omega
set_option maxHeartbeats 800000 in
theorem isEdge_any (c : Nat) (w : World) (_h8 : c < 256) :
    Calls Try.prog 68 #[.int .u8 (c : Int)] w fun e w' => e = .returned (.bool (NameP.edge c)) ∧ w = w' := by
  rcases byteRanges c with h | ⟨h, h'⟩ | ⟨h, h'⟩ | ⟨h, h'⟩ | ⟨h, h'⟩ | ⟨h, h'⟩ | h
  all_goals
    go_enter Try.func68, Try.ntmps68
    go_wp2
    go_ret
    exact ⟨congrArg (fun b => Ending.returned (.bool b)) (by unfold NameP.edge; rw [Bool.eq_iff_iff]; simp; omega), rfl⟩
set_option maxHeartbeats 800000 in
theorem isLow_any (c : Nat) (w : World) (h8 : c < 256) :
    Calls Try.prog 59 #[.int .u8 (c : Int)] w fun e w' => e = .returned (.bool (NameP.low c)) ∧ w = w' := by
  cases he : NameP.edge c with
  | false =>
    have He := Lib.hid he; clear he
    go_enter Try.func59, Try.ntmps59
    go_wp2_with fail
    refine (isEdge_any c _ h8).mono ?_
    rintro e w' ⟨rfl, rfl⟩
    rw [He.out]
    go_wp2
    go_ret
    exact ⟨congrArg (fun b => Ending.returned (.bool b)) (by simp [NameP.low, He.out]), rfl⟩
  | true =>
    have He := Lib.hid he; clear he
    by_cases h1 : c < 65
    · go_enter Try.func59, Try.ntmps59
      go_wp2_with fail
      refine (isEdge_any c _ h8).mono ?_
      rintro e w' ⟨rfl, rfl⟩
      rw [He.out]
      go_wp2
      go_ret
      exact ⟨congrArg (fun b => Ending.returned (.bool b)) (by unfold NameP.low; rw [He.out, Bool.eq_iff_iff]; simp; omega), rfl⟩
    · by_cases h2 : 90 < c
      · go_enter Try.func59, Try.ntmps59
        go_wp2_with fail
        refine (isEdge_any c _ h8).mono ?_
        rintro e w' ⟨rfl, rfl⟩
        rw [He.out]
        go_wp2
        go_ret
        exact ⟨congrArg (fun b => Ending.returned (.bool b)) (by unfold NameP.low; rw [He.out, Bool.eq_iff_iff]; simp; omega), rfl⟩
      · go_enter Try.func59, Try.ntmps59
        go_wp2_with fail
        refine (isEdge_any c _ h8).mono ?_
        rintro e w' ⟨rfl, rfl⟩
        rw [He.out]
        go_wp2
        go_ret
        exact ⟨congrArg (fun b => Ending.returned (.bool b)) (by unfold NameP.low; rw [He.out, Bool.eq_iff_iff]; simp; omega), rfl⟩
theorem dash_any (c : Nat) (w : World) (_h8 : c < 256) :
    Calls Try.prog 60 #[.int .u8 (c : Int)] w fun e w' => e = .returned (.bool (NameP.dash c)) ∧ w = w' := by
  by_cases h : c = 45
  · subst h
    go_enter Try.func60, Try.ntmps60
    go_wp2
    go_ret
    exact ⟨rfl, rfl⟩
  · have hc : ((c : Int) == 45) = false := by rw [beq_eq_false_iff_ne]; omega
    have Hc := Lib.hid h; clear h
    go_enter Try.func60, Try.ntmps60
    go_wp2
    go_ret
    exact ⟨congrArg (fun b => Ending.returned (.bool b)) (by simp [NameP.dash]; exact Hc.out), rfl⟩
end Go.Proofs.Ytgoapmjcfdbjpaa
namespace Go.Proofs.Ytgoapmjcfdbjpaa
open Go.RowKit
structure Tells (f : FuncId) (p : Nat → Bool) : Prop where
  enter : ∀ (a : Array Value) (w : World), (callFunc f a).run Try.prog w = .ok (.enter f a) w
  calls : ∀ (c : Nat) (w : World), c < 256 → Calls Try.prog f #[.int .u8 (c : Int)] w fun e w' => e = .returned (.bool (p c)) ∧ w = w'
theorem low_tells : Tells 59 NameP.low := ⟨run_callFunc_body Try.func59 (by kernel_rfl) (by kernel_rfl), fun c w h => isLow_any c w h⟩
theorem dash_tells : Tells 60 NameP.dash := ⟨run_callFunc_body Try.func60 (by kernel_rfl) (by kernel_rfl), fun c w h => dash_any c w h⟩
theorem made_nil {e v : Nat → Bool} {s : ByteArray} (h : s.toList = []) : NameP.made e v s.data.toList = false := by
  rw [ByteArray.toList_eq] at h; rw [h]; rfl
theorem made_cons {p q : Nat → Bool} (s : ByteArray) (h : 1 ≤ s.size) :
    NameP.made p q s.data.toList = (p s[0].toNat && p s[s.size - 1].toNat && s.data.toList.all fun c => p c.toNat || q c.toNat) := by
  have hl : s.data.toList.length = s.size := by simp
  have h0 : s.data.toList[0]? = some s[0] := by rw [List.getElem?_eq_getElem (by omega)]; rfl
  have h1 : s.data.toList.getLast? = some s[s.size - 1] := by
    rw [List.getLast?_eq_getElem?, hl, List.getElem?_eq_getElem (by omega)]; rfl
  cases hd : s.data.toList with
  | nil => rw [hd] at hl; simp at hl; omega
  | cons x r =>
    rw [hd] at h0 h1
    simp only [List.getElem?_cons_zero, Option.some.injEq] at h0
    rw [List.getLast?_eq_some_getLast (by simp)] at h1
    simp only [Option.some.injEq] at h1
    unfold NameP.made
    rw [← h0, ← h1]
theorem all_snocM {s : ByteArray} {k : Nat} {f : UInt8 → Bool} (h : k < s.size) (ha : Hid ((s.data.toList.take k).all f = true)) (hk : f s[k] = true) : Hid ((s.data.toList.take (k + 1)).all f = true) := by
  show _ = _
  rw [take_snoc s k h, List.all_append, ha.out]
  simp [hk]
theorem all_not {s : ByteArray} {k : Nat} {f : UInt8 → Bool} (h : k < s.size) (hk : f s[k] = false) : s.data.toList.all f = false := by
  rw [List.all_eq_false]
  refine ⟨s[k], ?_, by rw [hk]; simp⟩
  have : s[k] = s.data.toList[k]'(by simpa using h) := rfl
  rw [this]
  exact List.getElem_mem _
set_option maxRecDepth 100000 in
set_option maxHeartbeats 1600000 in
theorem made_any {ef vf : FuncId} {p q : Nat → Bool} (hp : Tells ef p) (hq : Tells vf q) (s : ByteArray) (w : World) (hs : s.size ≤ 1099511627776) :
    Calls Try.prog 58 #[.string s, .func (.func ef) #[] #[], .func (.func vf) #[] #[]] w fun e w' => e = .returned (.bool (NameP.made p q s.data.toList)) ∧ w = w' := by
  by_cases h0 : s.size = 0
  · have hl : s.toList = [] := by rw [ByteArray.toList_eq]; exact List.eq_nil_of_length_eq_zero (by simpa using h0)
    have Hm := Lib.hid (made_nil (e := p) (v := q) hl)
    have hle : s.toList.isEmpty = true := by rw [hl]; rfl
    clear h0
    go_enter Try.func58, Try.ntmps58
    go_wp2
    go_ret
    exact ⟨by rw [Hm.out]; rfl, rfl⟩
  · have h1 : 1 ≤ s.size := by omega
    have hne : (!s.toList.isEmpty) = true := by
      rw [ByteArray.toList_eq]
      have hl : s.data.toList.length = s.size := by simp
      cases hd : s.data.toList with | nil => rw [hd] at hl; simp at hl; omega | cons x r => rfl
    have hne2 : s.toList.isEmpty = false := by simpa using hne
    have HM := Lib.hid (made_cons (p := p) (q := q) s h1)
    clear h0
    have c0 : s[0].toNat < 256 := s[0].toNat_lt
    have cl : s[s.size - 1].toNat < 256 := s[s.size - 1].toNat_lt
    have i0 : (0 : Int) < (s.size : Int) := by omega
    have i1 : (0 : Int) ≤ (s.size : Int) - 1 := by omega
    have i2 : (s.size : Int) - 1 < (s.size : Int) := by omega
    have i3 : ((s.size : Int) - 1).toNat = s.size - 1 := by omega
    have ep := hp.enter
    have eq := hq.enter
    cases h2 : p s[0].toNat with
    | false =>
      have H2 := Lib.hid h2; clear h2
      go_enter Try.func58, Try.ntmps58
      go_wp2_with fail
      refine (hp.calls _ _ c0).mono ?_
      rintro e w' ⟨rfl, rfl⟩
      rw [H2.out]
      go_wp2_with fail
      go_ret
      exact ⟨congrArg (fun b => Ending.returned (.bool b)) (by rw [HM.out, H2.out]; rfl), rfl⟩
    | true =>
      have H2 := Lib.hid h2; clear h2
      cases h3 : p s[s.size - 1].toNat with
      | false =>
        have H3 := Lib.hid h3; clear h3
        go_enter Try.func58, Try.ntmps58
        go_wp2_with fail
        refine (hp.calls _ _ c0).mono ?_
        rintro e w' ⟨rfl, rfl⟩
        rw [H2.out]
        go_wp2_with fail
        refine (hp.calls _ _ cl).mono ?_
        rintro e w' ⟨rfl, rfl⟩
        rw [H3.out]
        go_wp2_with fail
        go_ret
        exact ⟨congrArg (fun b => Ending.returned (.bool b)) (by rw [HM.out, H2.out, H3.out]; rfl), rfl⟩
      | true =>
        have H3 := Lib.hid h3; clear h3
        go_enter Try.func58, Try.ntmps58
        go_wp2_with fail
        refine (hp.calls _ _ c0).mono ?_
        rintro e w' ⟨rfl, rfl⟩
        rw [H2.out]
        go_wp2_with fail
        refine (hp.calls _ _ cl).mono ?_
        rintro e w' ⟨rfl, rfl⟩
        rw [H3.out]
        go_wp2_with fail
        go_loop [29] (fun i => ∃ k : Nat, k ≤ s.size ∧ i = .int .i64 k ∧ Hid (((s.data.toList.take k).all fun c => p c.toNat || q c.toNat) = true)) (fun i => s.size - (intOf i).toNat)
        case atStart => exact ⟨0, Nat.zero_le _, rfl, by show _ = _; simp⟩
        case round =>
          obtain ⟨k, hk, rfl, HA⟩ := hrel
          by_cases hlt : k < s.size
          · have ck : s[k].toNat < 256 := s[k].toNat_lt
            have j0 : (0 : Int) ≤ (k : Int) := by omega
            have j1 : (k : Int) < (s.size : Int) := by omega
            cases h4 : p s[k].toNat with
            | true =>
              have H4 := Lib.hid h4; clear h4
              go_wp2_with fail
              refine (hp.calls _ _ ck).mono ?_
              rintro e w' ⟨rfl, rfl⟩
              rw [H4.out]
              go_wp2_with fail
              go_round
              case rel => exact ⟨k + 1, by omega, by go_num, all_snocM hlt HA (by rw [H4.out]; rfl)⟩
              case measure => simp [intOf]; omega
            | false =>
              have H4 := Lib.hid h4; clear h4
              cases h5 : q s[k].toNat with
              | true =>
                have H5 := Lib.hid h5; clear h5
                go_wp2_with fail
                refine (hp.calls _ _ ck).mono ?_
                rintro e w' ⟨rfl, rfl⟩
                rw [H4.out]
                go_wp2_with fail
                refine (hq.calls _ _ ck).mono ?_
                rintro e w' ⟨rfl, rfl⟩
                rw [H5.out]
                go_wp2_with fail
                go_round
                case rel => exact ⟨k + 1, by omega, by go_num, all_snocM hlt HA (by rw [H4.out, H5.out]; rfl)⟩
                case measure => simp [intOf]; omega
              | false =>
                have H5 := Lib.hid h5; clear h5
                go_wp2_with fail
                refine (hp.calls _ _ ck).mono ?_
                rintro e w' ⟨rfl, rfl⟩
                rw [H4.out]
                go_wp2_with fail
                refine (hq.calls _ _ ck).mono ?_
                rintro e w' ⟨rfl, rfl⟩
                rw [H5.out]
                go_wp2_with fail
                go_ret
                exact ⟨congrArg (fun b => Ending.returned (.bool b)) (by rw [HM.out, all_not hlt (by rw [H4.out, H5.out]; rfl)]; simp), rfl⟩
          · go_wp2_with fail
            go_ret
            refine ⟨congrArg (fun b => Ending.returned (.bool b)) ?_, rfl⟩
            have := HA.out
            rw [List.take_of_length_le (by simp; omega)] at this
            rw [HM.out, H2.out, H3.out, this]; rfl
set_option maxHeartbeats 800000 in
theorem judge_any (s : ByteArray) (most : Nat) (b : Bool) (w : World) (_hs : s.size ≤ 1099511627776) (_hm : most ≤ 1000) :
    Calls Try.prog 39 #[.string s, .int .i64 (most : Int), .bool b] w fun e w' => e = .returned (.int .i64 (NameP.judge s.size most b)) ∧ w = w' := by
  by_cases h : most < s.size
  · go_enter Try.func39, Try.ntmps39
    go_wp2
    go_ret
    exact ⟨congrArg (fun b => Ending.returned (.int .i64 b)) (by unfold NameP.judge; rw [if_pos h]), rfl⟩
  · cases b
    all_goals
      go_enter Try.func39, Try.ntmps39
      go_wp2
      go_ret
      exact ⟨congrArg (fun b => Ending.returned (.int .i64 b)) (by unfold NameP.judge; rw [if_neg h]; rfl), rfl⟩
theorem isName_any (s : ByteArray) (w : World) (hs : s.size ≤ 1099511627776) :
    Calls Try.prog 40 #[.string s] w fun e w' => e = .returned (.bool (NameP.isName s.data.toList)) ∧ w = w' := by
  go_enter Try.func40, Try.ntmps40
  go_wp2_with fail
  refine (made_any low_tells dash_tells s _ hs).mono ?_
  rintro e w' ⟨rfl, rfl⟩
  go_wp2_with fail
  go_ret
  exact ⟨rfl, rfl⟩
theorem check_any (s : ByteArray) (w : World) (hs : s.size ≤ 1099511627776) :
    Calls Try.prog 27 #[.string s] w fun e w' => e = .returned (.int .i64 (NameP.check s.data.toList)) ∧ w = w' := by
  go_enter Try.func27, Try.ntmps27
  go_wp2_with fail
  refine (isName_any s _ hs).mono ?_
  rintro e w' ⟨rfl, rfl⟩
  go_wp2_with fail
  refine (judge_any s 63 _ _ hs (by omega)).mono ?_
  rintro e w' ⟨rfl, rfl⟩
  go_wp2_with fail
  go_ret
  exact ⟨by simp [NameP.check], rfl⟩
end Go.Proofs.Ytgoapmjcfdbjpaa
namespace Go.Proofs.Ytgoapmjcfdbjpaa
open Go.RowKit
def strs (l : List ByteArray) : List Value := l.map Value.string
theorem strs_length (l : List ByteArray) : (strs l).length = l.length := by simp [strs]
theorem strs_append (l m : List ByteArray) : strs (l ++ m) = strs l ++ strs m := by simp [strs]
theorem strs_get {l : List ByteArray} {j : Nat} {x : ByteArray} (h : l[j]? = some x) : (strs l)[j]? = some (.string x) := by simp [strs, h]
def StrAt (w : World) (v : Value) (l : List ByteArray) : Prop :=
  (v = .slice none 0 0 ∧ l = []) ∨ ∃ a c, v = .slice (some a) l.length c ∧ l.length ≤ c ∧ c ≤ maxLen ∧ ∀ j x, l[j]? = some x → w.cell? (a.add j) = some (.string x)
section
variable {w w' : World} {v : Value} {l : List ByteArray}
theorem StrAt.nil (w : World) : StrAt w (.slice none 0 0) [] := .inl ⟨rfl, rfl⟩
theorem StrAt.len (h : StrAt w v l) : ∃ ao c, v = .slice ao l.length c ∧ l.length ≤ c ∧ c ≤ maxLen := by
  rcases h with ⟨rfl, rfl⟩ | ⟨a, c, rfl, h1, h2, _⟩
  · exact ⟨_, _, rfl, by simp, by simp⟩
  · exact ⟨_, _, rfl, h1, h2⟩
theorem spot_none {a : Addr} {x : Value} (h : w.cell? a = some x) : a = ⟨a.block, a.off, none⟩ := by
  obtain ⟨b, o, s⟩ := a
  cases s with
  | none => rfl
  | some s =>
    unfold World.cell? at h
    simp only at h
    split at h
    · simp at h
    · cases h
theorem add_plain' (b o j : Nat) : (⟨b, o, none⟩ : Addr).add j = ⟨b, o + j, none⟩ := by unfold Addr.add; split <;> simp_all
theorem StrAt.form (h : StrAt w v l) (hl : 0 < l.length) :
    ∃ b o c, v = .slice (some ⟨b, o, none⟩) l.length c ∧ l.length ≤ c ∧ c ≤ maxLen ∧ b < w.heap.size ∧ ∀ j x, l[j]? = some x → w.cell? ⟨b, o + j, none⟩ = some (.string x) := by
  rcases h with ⟨_, rfl⟩ | ⟨a, c, rfl, h1, h2, h3⟩
  · simp at hl
  · have h0 := h3 0 l[0] (by simp [hl])
    rw [show a.add 0 = a from by simp [Addr.add]] at h0
    have ha := spot_none h0
    refine ⟨a.block, a.off, c, by rw [← ha], h1, h2, World.block_lt_of_cell? w _ h0, fun j x hx => ?_⟩
    have h4 := h3 j x hx
    rw [ha, add_plain'] at h4
    exact h4
theorem StrAt.keep (h : StrAt w v l) (hk : ∀ p x, w.cell? p = some x → w'.cell? p = some x) : StrAt w' v l := by
  rcases h with ⟨rfl, rfl⟩ | ⟨a, c, rfl, h1, h2, h3⟩
  · exact .inl ⟨rfl, rfl⟩
  · exact .inr ⟨a, c, rfl, h1, h2, fun j x hx => hk _ _ (h3 j x hx)⟩
theorem StrAt.below (h : StrAt w v l) (hb : Below w.heap.size w w') : StrAt w' v l :=
  h.keep fun p x hp => by rw [← hp]; exact hb.cell (World.block_lt_of_cell? w _ hp)
theorem StrAt.drew (h : StrAt w v l) : StrAt w.drew v l := h
end
end Go.Proofs.Ytgoapmjcfdbjpaa
namespace Go.Proofs.Ytgoapmjcfdbjpaa
open Go.RowKit Go.ChangeShapes Go.WideShapes
def total (l : List ByteArray) : Nat := (l.map fun s => s.size + 1).sum
theorem total_mem {l : List ByteArray} {x : ByteArray} (h : x ∈ l) : x.size + 1 ≤ total l := by
  induction l with
  | nil => cases h
  | cons y r ih =>
    simp only [total, List.map_cons, List.sum_cons]
    rcases List.mem_cons.1 h with rfl | h
    · omega
    · have := ih h
      simp only [total] at this
      omega
theorem total_length (l : List ByteArray) : l.length ≤ total l := by
  induction l with
  | nil => simp
  | cons y r ih =>
    simp only [total, List.map_cons, List.sum_cons, List.length_cons] at *
    omega
end Go.Proofs.Ytgoapmjcfdbjpaa
namespace Go.Proofs.Ytgoapmjcfdbjpaa
theorem Try.infoStr : (Try.prog.info? 9).map (fun i => (i.zero, i.size, i.bytes)) = some (some (.string ByteArray.empty), 1, 16) := by kernel_rfl
end Go.Proofs.Ytgoapmjcfdbjpaa
namespace Go.Proofs.Ytgoapmjcfdbjpaa
open Go.RowKit Go.ChangeShapes Go.WideShapes
abbrev Rd (α : Type) := World → List Value → α → Prop
abbrev Keeps (w w' : World) : Prop := ∀ p v, w.cell? p = some v → w'.cell? p = some v
def Stays {α : Type} (R : Rd α) : Prop := ∀ w w' cs a, Keeps w w' → R w cs a → R w' cs a
theorem keeps_below {w w' : World} (h : Below w.heap.size w w') : Keeps w w' := fun _ _ hp => (h.cell (World.block_lt_of_cell? w _ hp)).trans hp
def RString : Rd ByteArray := fun _ cs s => cs = [.string s]
def RStrs : Rd (List ByteArray) := fun w cs l => ∃ v, cs = [v] ∧ StrAt w v l
def RowAt {α : Type} (R : Rd α) (k : Nat) (w : World) (v : Value) (l : List α) : Prop :=
  (v = .slice none 0 0 ∧ l = []) ∨ ∃ a c, v = .slice (some a) l.length c ∧ l.length ≤ c ∧ c ≤ maxLen ∧
    ∀ j x, l[j]? = some x → ∃ cs, cs.length = k ∧ (∀ i u, cs[i]? = some u → w.cell? (a.add (j * k + i)) = some u) ∧ R w cs x
def RRow {α : Type} (R : Rd α) (k : Nat) : Rd (List α) := fun w cs l => ∃ v, cs = [v] ∧ RowAt R k w v l
theorem stays_string : Stays RString := fun _ _ _ _ _ h => h
section
variable {α : Type} {R : Rd α} {k : Nat} {w w' : World} {v : Value} {l : List α}
theorem RowAt.keep (hs : Stays R) (h : RowAt R k w v l) (hk : Keeps w w') : RowAt R k w' v l := by
  rcases h with h | ⟨a, c, h1, h2, h3, h4⟩
  · exact .inl h
  · exact .inr ⟨a, c, h1, h2, h3, fun j x hx => by
      obtain ⟨cs, g1, g2, g3⟩ := h4 j x hx
      exact ⟨cs, g1, fun i u hu => hk _ _ (g2 i u hu), hs _ _ _ _ hk g3⟩⟩
theorem RowAt.below (hs : Stays R) (h : RowAt R k w v l) (hb : Below w.heap.size w w') : RowAt R k w' v l := h.keep hs (keeps_below hb)
theorem RowAt.nil (w : World) : RowAt R k w (.slice none 0 0) [] := .inl ⟨rfl, rfl⟩
theorem RowAt.len (h : RowAt R k w v l) : ∃ ao c, v = .slice ao l.length c ∧ l.length ≤ c ∧ c ≤ maxLen := by
  rcases h with ⟨rfl, rfl⟩ | ⟨a, c, rfl, h1, h2, _⟩
  · exact ⟨_, _, rfl, by simp, by simp⟩
  · exact ⟨_, _, rfl, h1, h2⟩
theorem RowAt.form (h : RowAt R k w v l) (hl : 0 < l.length) (hk : 0 < k) :
    ∃ b o c, v = .slice (some ⟨b, o, none⟩) l.length c ∧ l.length ≤ c ∧ c ≤ maxLen ∧ b < w.heap.size ∧
      ∀ j x, l[j]? = some x → ∃ cs, cs.length = k ∧ (∀ i u, cs[i]? = some u → w.cell? ⟨b, o + j * k + i, none⟩ = some u) ∧ R w cs x := by
  rcases h with ⟨_, rfl⟩ | ⟨a, c, rfl, h1, h2, h3⟩
  · simp at hl
  · obtain ⟨cs, g1, g2, _⟩ := h3 0 l[0] (by simp [hl])
    have h0 := g2 0 cs[0] (by simp)
    rw [show a.add (0 * k + 0) = a from by simp [Addr.add]] at h0
    have ha := spot_none h0
    refine ⟨a.block, a.off, c, by rw [← ha], h1, h2, World.block_lt_of_cell? w _ h0, fun j x hx => ?_⟩
    obtain ⟨cs, g1, g2, g3⟩ := h3 j x hx
    refine ⟨cs, g1, fun i u hu => ?_, g3⟩
    have h4 := g2 i u hu
    rw [ha, add_plain', ← Nat.add_assoc] at h4
    exact h4
end
theorem RowAt.strs {w : World} {v : Value} {l : List ByteArray} (h : RowAt RString 1 w v l) : StrAt w v l := by
  rcases h with ⟨rfl, rfl⟩ | ⟨a, c, rfl, h1, h2, h3⟩
  · exact .inl ⟨rfl, rfl⟩
  · refine .inr ⟨a, c, rfl, h1, h2, fun j x hx => ?_⟩
    obtain ⟨cs, _, g2, rfl⟩ := h3 j x hx
    simpa using g2 0 _ rfl
theorem StrAt.row {w : World} {v : Value} {l : List ByteArray} (h : StrAt w v l) : RowAt RString 1 w v l := by
  rcases h with ⟨rfl, rfl⟩ | ⟨a, c, rfl, h1, h2, h3⟩
  · exact .inl ⟨rfl, rfl⟩
  · refine .inr ⟨a, c, rfl, h1, h2, fun j x hx => ⟨[.string x], rfl, fun i u hu => ?_, rfl⟩⟩
    match i, hu with
    | 0, hu => simp only [List.getElem?_cons_zero, Option.some.injEq] at hu; subst hu; simpa using h3 j x hx
theorem sum_ge_length {α : Type} (μ : α → Nat) (h : ∀ x, 1 ≤ μ x) (l : List α) : l.length ≤ (l.map μ).sum := by
  induction l with
  | nil => simp
  | cons x r ih => have := h x; simp only [List.length_cons, List.map_cons, List.sum_cons]; omega
def Opens (P : Program) (t : TypeId) {α : Type} (R : Rd α) (μ : α → Nat) : Prop :=
  ∀ (H : Type) (enc : TypeId × Value → H) (w : World) (base : Nat) (spare : Nat → Bool) (held : Bool) (fuel : Nat) (cs : List Value) (x : DataW H × List MemPlace),
    DataW.trod enc P w base spare held fuel t cs = some x → ∃ a, R w cs a ∧ μ a ≤ Rows.uptoBulk x.1
section
variable {P : Program} {t e : TypeId}
theorem opens_string (ht : P.underlying t = some .string) : Opens P t RString (fun s => s.size + 1) := fun _ _ _ _ _ _ _ _ _ h => by
  obtain ⟨s, rfl, rfl, _⟩ := DataW.trod_string ht h
  exact ⟨s, rfl, by simp [Rows.uptoBulk]⟩
theorem uptoBulkAll_append {H : Type} (l m : List (DataW H)) : Rows.uptoBulkAll (l ++ m) = Rows.uptoBulkAll l + Rows.uptoBulkAll m := by
  induction l with
  | nil => simp [Rows.uptoBulkAll]
  | cons d r ih => simp only [List.cons_append, Rows.uptoBulkAll, ih]; omega
theorem list_of_each {α : Type} {H : Type} (Q : Nat → α → Prop) (μ : α → Nat) (D : Nat → DataW H) : ∀ n : Nat, (∀ i, i < n → ∃ a, Q i a ∧ μ a ≤ Rows.uptoBulk (D i)) →
    ∃ l : List α, l.length = n ∧ (∀ i x, l[i]? = some x → Q i x) ∧ (l.map μ).sum ≤ Rows.uptoBulkAll ((List.range n).map D)
  | 0, _ => ⟨[], rfl, fun i x h => by simp at h, by simp⟩
  | n + 1, h => by
    obtain ⟨l, h1, h2, h3⟩ := list_of_each Q μ D n fun i hi => h i (by omega)
    obtain ⟨a, ha, hm⟩ := h n (by omega)
    refine ⟨l ++ [a], by simp [h1], fun i x hx => ?_, ?_⟩
    · by_cases hi : i < n
      · rw [List.getElem?_append_left (by omega)] at hx
        exact h2 i x hx
      · have : i = n := by have := (List.getElem?_eq_some_iff.1 hx).1; simp [h1] at this; omega
        subst this
        rw [List.getElem?_append_right (by omega), h1] at hx
        simp at hx
        subst hx
        exact ha
    · rw [List.range_succ, List.map_append (l₁ := List.range n), uptoBulkAll_append, List.map_append, List.sum_append]
      simp only [List.map_cons, List.map_nil, List.sum_cons, List.sum_nil, Rows.uptoBulkAll]
      omega
theorem opens_row {α : Type} {R : Rd α} {μ : α → Nat} {k : Nat} (ht : P.underlying t = some (.slice e)) (hC : P.cellsOf e = k) (h : Opens P e R μ) : Opens P t (RRow R k) (fun l => (l.map μ).sum + 1) := fun H enc w base spare held fuel cs x hx => by
  rcases Deep.open_slice ht hx with ⟨rfl, rfl⟩ | ⟨a, len, cap, m, n, D, Pl, rfl, _, hl, hm, hmm, rfl, hel⟩
  · exact ⟨[], ⟨_, rfl, .inl ⟨rfl, rfl⟩⟩, by simp [Rows.uptoBulk]⟩
  · have hlm : len ≤ m := by rw [hmm]; split <;> omega
    obtain ⟨l, h1, h2, h3⟩ := list_of_each (fun i y => ∃ cs, cs.length = k ∧ (∀ j u, cs[j]? = some u → w.cell? (a.add (i * k + j)) = some u) ∧ R w cs y) μ D len fun i hi => by
      obtain ⟨cs', hc, ht'⟩ := hel i (by omega)
      rw [hC] at hc
      obtain ⟨_, hcl, hat⟩ := World.cells?_some hc
      obtain ⟨y, hy, hb⟩ := h _ _ _ _ _ _ _ _ _ ht'
      refine ⟨y, ⟨cs', hcl, fun j u hu => ?_, hy⟩, hb⟩
      have hjk : j < k := by have := (List.getElem?_eq_some_iff.1 hu).1; omega
      rw [← Deep.add_add, hat j hjk]
      exact hu
    subst h1
    refine ⟨l, ⟨_, rfl, .inr ⟨a, cap, rfl, hl, hm, h2⟩⟩, ?_⟩
    simp only [Rows.uptoBulk]
    omega
theorem opens_strs (ht : P.underlying t = some (.slice e)) (he : P.underlying e = some .string) (hC : P.cellsOf e = 1) : Opens P t RStrs (fun l => total l + 1) := fun H enc w base spare held fuel cs x hx => by
  obtain ⟨l, ⟨v, rfl, h1⟩, h2⟩ := opens_row ht hC (opens_string he) H enc w base spare held fuel cs x hx
  exact ⟨l, ⟨v, rfl, h1.strs⟩, h2⟩
theorem Opens.at {α : Type} {R : Rd α} {μ : α → Nat} (h : Opens P t R μ) {H : Type} {enc : TypeId × Value → H} {w : World} {base : Nat} {spare : Nat → Bool} {held : Bool} {fuel k o : Nat} {cs ds : List Value} {x : DataW H × List MemPlace}
    (hx : DataW.trod enc P w base spare held fuel t ((cs.drop o).take (P.cellsOf t)) = some x) (hk : P.cellsOf t = k) (hd : (cs.drop o).take k = ds) : ∃ a, R w ds a ∧ μ a ≤ Rows.uptoBulk x.1 := by
  rw [hk, hd] at hx
  exact h _ _ _ _ _ _ _ _ _ hx
end
end Go.Proofs.Ytgoapmjcfdbjpaa
namespace Go.Proofs.Ytgoapmjcfdbjpaa
open Go.RowKit Go.ChangeShapes Go.WideShapes
structure GCard where
  uid : ByteArray
  owners : List ByteArray
def CardR : Rd GCard := fun w cs x => ∃ v1, cs = [.string x.uid, v1] ∧ StrAt w v1 x.owners
theorem stays_card : Stays CardR := fun _ _ _ _ hk ⟨v1, h, g1⟩ => ⟨v1, h, g1.keep hk⟩
def cardB (x : GCard) : Nat := ((x.uid.size + 1) + ((total x.owners + 1) + 0)) + 1
set_option maxRecDepth 10000 in
theorem opens_card : Opens Try.prog 31 CardR cardB := by
  intro H enc w base spare held fuel cs x h
  obtain ⟨xs, n, _, rfl, hl, hx, hf⟩ := DataW.trod_struct Try.underlying31 h
  have hl2 : cs.length = 2 := hl.trans (by kernel_rfl)
  clear hl h
  match cs, hl2, xs, hx, hf with
  | [c0, c1], _, [x0, x1], _, hf =>
    obtain ⟨a0, r0, m0⟩ := (opens_string Try.underlying9).at (o := 0) (cs := [c0, c1]) (ds := [c0]) (x := x0) (hf 0 _ rfl) (k := 1) (by kernel_rfl) rfl
    obtain ⟨a1, r1, m1⟩ := (opens_strs Try.underlying23 Try.underlying9 (by kernel_rfl)).at (o := 1) (cs := [c0, c1]) (ds := [c1]) (x := x1) (hf 1 _ rfl) (k := 1) (by kernel_rfl) rfl
    clear hf
    obtain rfl : c0 = .string a0 := by simpa [RString] using r0
    obtain ⟨v1, r1, s1⟩ := r1
    obtain rfl : c1 = v1 := by simpa using r1
    refine ⟨⟨a0, a1⟩, ⟨c1, rfl, s1⟩, ?_⟩
    simp only [List.map_cons, List.map_nil, Rows.uptoBulk, Rows.uptoBulkAll, cardB]
    omega
end Go.Proofs.Ytgoapmjcfdbjpaa
namespace Go.Proofs.Ytgoapmjcfdbjpaa
open Go.RowKit Go.ChangeMaps Go.MapKept
open Go.WideMaps
open Go.WideElems (Fit rd rg pl rd_val rd_key rg_of)
open Go.Maps (Keyed)
abbrev KB := List UInt8
def kb (k : KB) : Lit := .string k
def rawE (v : Value) : Option (DataW Value × List MemPlace) := some (.held v, [])
def rawOf : DataW Value → Option Value
  | .held v => some v
  | _ => none
def lookD (D : DataW Value) (k : KB) : Option Value := if Maps.has D (kb k) = true then rawOf (D.atKey (kb k) .nil) else none
def MapS (P : Program) (K : TypeId) (w : World) (b n : Nat) (f : KB → Option Value) : Prop := ∃ D : DataW Value, w.ownsMap P K rawE b n D ∧ ∀ k, f k = lookD D k
def updF (f : KB → Option Value) (k : KB) (v : Value) : KB → Option Value := fun z => if z = k then some v else f z
def delF (f : KB → Option Value) (k : KB) : KB → Option Value := fun z => if z = k then none else f z
theorem kb_key (k : KB) : WideAt.IsKeyLit (kb k) := trivial
theorem kb_inj {a b : KB} (h : kb a = kb b) : a = b := by unfold kb at h; injection h
theorem kb_same (a b : KB) : (kb a).sameKey (kb b) = decide (a = b) := by
  by_cases h : a = b
  · subst h; rw [WideAt.sameKey_self (kb_key _)]; simp
  · rw [Maps.sameKey_ne (fun e => h (kb_inj e))]; simp [h]
theorem atKey_mem {es : List (Lit × DataW Value)} {k : Lit} (h : Maps.has (DataW.map es) k = true) : ∃ q ∈ es, ∀ z, (DataW.map es).atKey k z = q.2 := by
  rw [Maps.has_eq] at h
  obtain ⟨p, h1, h2⟩ := List.any_eq_true.1 h
  cases hf : es.find? (fun p => p.1.sameKey k) with
  | none => exact absurd h2 (by simpa using List.find?_eq_none.1 hf p h1)
  | some q => exact ⟨q, List.mem_of_find?_eq_some hf, fun z => by unfold DataW.atKey; simp only [hf]⟩
theorem atKey_find {D : DataW Value} {k : Lit} (h : Maps.has D k = true) : ∃ y, ∀ z, D.atKey k z = y := by
  cases D with
  | map es => obtain ⟨q, _, hq⟩ := atKey_mem h; exact ⟨_, hq⟩
  | _ => cases h
section
variable {P : Program} {K e t : TypeId} {w w' : World} {b n : Nat} {f : KB → Option Value}
theorem mapS_made (P : Program) (K : TypeId) (w : World) : MapS P K (w.alloc (.map #[] 0)) w.heap.size 0 fun _ => none :=
  ⟨.map [], World.ownsMap_made w P K rawE, fun _ => rfl⟩
theorem MapS.mono {n' : Nat} (h : MapS P K w b n f) (hn : n ≤ n') : MapS P K w b n' f := let ⟨D, h1, h2⟩ := h; ⟨D, h1.mono hn, h2⟩
theorem MapS.lt (h : MapS P K w b n f) : b < w.heap.size := let ⟨_, h1, _⟩ := h; h1.lt
theorem MapS.kept {row : Option Nat} (h : MapS P K w b n f) (hg : w.grownBy w' row) (hne : some b ≠ row) : MapS P K w' b n f := let ⟨D, h1, h2⟩ := h; ⟨D, h1.kept hg hne, h2⟩
theorem MapS.block (h : MapS P K w b n f) (hb : w'.heap[b]? = w.heap[b]?) : MapS P K w' b n f := by
  obtain ⟨D, ⟨es, clock, h1, h2⟩, h3⟩ := h
  exact ⟨D, ⟨es, clock, hb.trans h1, h2⟩, h3⟩
theorem MapS.below {B : Nat} (h : MapS P K w b n f) (hb : Below B w w') (hB : b < B) : MapS P K w' b n f := h.block (hb.block b hB)
theorem MapS.belowW (h : MapS P K w b n f) (hb : Below w.heap.size w w') : MapS P K w' b n f := h.block (hb.block b h.lt)
theorem MapS.alloc (h : MapS P K w b n f) (o : Obj) : MapS P K (w.alloc o) b n f := let ⟨D, h1, h2⟩ := h; ⟨D, h1.alloc o, h2⟩
theorem MapS.setCell (h : MapS P K w b n f) {a : Addr} (ha : b ≠ a.block) (u : Value) : MapS P K (w.setCell a u) b n f := let ⟨D, h1, h2⟩ := h; ⟨D, h1.setCell ha u, h2⟩
theorem MapS.isMap (h : MapS P K w b n f) : ∃ es clock, w.heap[b]? = some (.map es clock) := let ⟨_, ⟨es, clock, h1, _⟩, _⟩ := h; ⟨es, clock, h1⟩
theorem MapS.ne (h : MapS P K w b n f) {g : Nat} {cs : Array Value} {T : TypeId} {fr : Nat × Nat} (hg : w.heap[g]? = some (.cells cs T fr)) : b ≠ g := by
  rintro rfl
  obtain ⟨es, clock, h1⟩ := h.isMap
  rw [h1] at hg; cases hg
theorem lookD_at {D : DataW Value} (hown : w.ownsMap P K rawE b n D) (hk : P.underlying K = some .string) (ht : P.underlying t = some (.map K e)) {z : Value} (hz : (zeroValue e).run P w = .ok z w) (s : ByteArray) (hs : s.size ≤ maxLen) :
    (Instr.lookup t (.map (some b)) (.string s) true).run P w = .ok (.tuple #[(lookD D s.data.toList).getD z, .bool (lookD D s.data.toList).isSome]) w ∧ (Instr.lookup t (.map (some b)) (.string s) false).run P w = .ok ((lookD D s.data.toList).getD z) w := by
  have key := keyOf_string_mk (P := P) hk hs
  obtain ⟨v, ps, hrun, hv⟩ := hown.look_ok (Maps.string_keyed hk) ht hz (zd := .held z) (zp := []) rfl key
  obtain ⟨v', ps', hrun', hv'⟩ := hown.lookup (Maps.string_keyed hk) ht hz (zd := .held z) (zp := []) rfl key
  have e1 : DataW.held v = D.atKey (kb s.data.toList) (.held z) := by unfold rawE at hv; exact (Prod.mk.inj (Option.some.inj hv)).1
  have e2 : DataW.held v' = D.atKey (kb s.data.toList) (.held z) := by unfold rawE at hv'; exact (Prod.mk.inj (Option.some.inj hv')).1
  have ev : v = v' := by have := e1.trans e2.symm; injection this
  rw [hrun, hrun', ← ev]
  cases hh : Maps.has D (kb s.data.toList) with
  | false =>
    have h0 : lookD D s.data.toList = none := by unfold lookD; rw [hh]; simp
    rw [Maps.atKey_of_not_has hh] at e1
    injection e1 with e1
    rw [h0, e1]
    exact ⟨by rw [show (Maps.has D (.string s.data.toList)) = false from hh]; rfl, rfl⟩
  | true =>
    obtain ⟨y, hy⟩ := atKey_find hh
    have h0 : lookD D s.data.toList = some v := by
      unfold lookD
      rw [if_pos hh, hy, ← hy (.held z), ← e1]; rfl
    rw [h0]
    exact ⟨by rw [show (Maps.has D (.string s.data.toList)) = true from hh]; rfl, rfl⟩
theorem MapS.look (h : MapS P K w b n f) (hk : P.underlying K = some .string) (ht : P.underlying t = some (.map K e)) {z : Value} (hz : (zeroValue e).run P w = .ok z w) (s : ByteArray) (hs : s.size ≤ maxLen) :
    (Instr.lookup t (.map (some b)) (.string s) true).run P w = .ok (.tuple #[(f s.data.toList).getD z, .bool (f s.data.toList).isSome]) w ∧ (Instr.lookup t (.map (some b)) (.string s) false).run P w = .ok ((f s.data.toList).getD z) w := by
  obtain ⟨D, h1, h2⟩ := h
  rw [h2]
  exact lookD_at h1 hk ht hz s hs
theorem lookD_put {D : DataW Value} (hD : Maps.IsMap D) (k z : KB) (v : Value) : lookD (D.put (kb k) (.held v)) z = updF (lookD D) k v z := by
  unfold updF
  by_cases hz : z = k
  · subst hz
    rw [if_pos rfl]
    unfold lookD
    rw [Maps.has_put_same hD (kb_key _), if_pos rfl, Maps.atKey_put_same hD (kb_key _)]; rfl
  · rw [if_neg hz]
    unfold lookD
    have hne : kb z ≠ kb k := fun e => hz (kb_inj e)
    rw [Maps.has_put_other hne, Maps.atKey_put_other hne]
theorem lookD_del (D : DataW Value) (k z : KB) : lookD (D.del (kb k)) z = delF (lookD D) k z := by
  unfold delF
  by_cases hz : z = k
  · subst hz
    rw [if_pos rfl]
    unfold lookD
    rw [Maps.has_del_same]; rfl
  · rw [if_neg hz]
    unfold lookD
    have hne : kb z ≠ kb k := fun e => hz (kb_inj e)
    rw [Maps.has_del_other hne, Maps.atKey_del_other hne]
theorem MapS.store (h : MapS P K w b n f) (hk : P.underlying K = some .string) (ht : P.underlying t = some (.map K e)) (hn : n < maxLen) (s : ByteArray) (hs : s.size ≤ maxLen) (v : Value) :
    ∃ w', (Instr.mapUpdate t (.map (some b)) (.string s) v).run P w = .ok () w' ∧ MapS P K w' b (n + 1) (updF f s.data.toList v) ∧ w.mapTurned w' b := by
  obtain ⟨D, h1, h2⟩ := h
  obtain ⟨w', r1, r2, r3⟩ := h1.store (Maps.string_keyed hk) ht hn (keyOf_string_mk hk hs) (val := v) (d := .held v) (ps := []) rfl
  refine ⟨w', r1, ⟨_, r2, fun z => ?_⟩, r3⟩
  rw [show (Lit.string s.data.toList) = kb s.data.toList from rfl, lookD_put h1.isMap]
  unfold updF
  rw [h2]
theorem MapS.drop (h : MapS P K w b n f) (hk : P.underlying K = some .string) (ht : P.underlying t = some (.map K e)) (s : ByteArray) (hs : s.size ≤ maxLen) (ty : TypeId) :
    ∃ w', (Builtin.delete_ #[t, K] ty #[.map (some b), .string s]).run P w = .ok (.tuple #[]) w' ∧ MapS P K w' b n (delF f s.data.toList) ∧ w.mapTurned w' b := by
  obtain ⟨D, h1, h2⟩ := h
  obtain ⟨w', r1, r2, r3⟩ := h1.drop (Maps.string_keyed hk) ht (keyOf_string_mk hk hs) ty
  refine ⟨w', r1, ⟨_, r2, fun z => ?_⟩, r3⟩
  rw [show (Lit.string s.data.toList) = kb s.data.toList from rfl, lookD_del]
  unfold delF
  rw [h2]
theorem keyed_is (hk : P.underlying K = some .string) {v : Value} {l : Lit} (h : keyOf P K v = some l) : ∃ s : ByteArray, v = .string s ∧ l = kb s.data.toList ∧ s.size ≤ maxLen := by
  rw [keyOf_string hk] at h
  unfold mapKey at h
  rw [hk] at h
  cases v <;> simp at h
  obtain ⟨h1, rfl⟩ := h
  exact ⟨_, rfl, rfl, h1⟩
theorem MapS.keys (h : MapS P K w b n f) (hk : P.underlying K = some .string) : ∃ ks : List KB, ks.Nodup ∧ (∀ k, k ∈ ks ↔ (f k).isSome = true) ∧ ks.length ≤ n ∧ ∀ (t e ty : TypeId), P.underlying t = some (.map K e) → (Builtin.len_ #[t] ty #[.map (some b)]).run P w = .ok (.int .i64 ks.length) w := by
  obtain ⟨D, h1, h2⟩ := h
  obtain ⟨es, hD, hap, hkk⟩ := h1.entries (Maps.string_keyed hk)
  obtain ⟨ms, clock, hb, F, hs, hD2⟩ := id h1
  have hform : ∀ p ∈ es, ∃ k v, p = (kb k, .held v) := fun p hp => by
    have hp2 : p ∈ (ms.toList.map (rg P K rawE)).foldr DataW.insert [] := by
      have := hD.symm.trans hD2
      injection this with this
      rw [← this]; exact hp
    obtain ⟨x, hx, hx2⟩ := List.mem_map.1 (mem_sorted.1 hp2)
    obtain ⟨y, hy⟩ := F.reads x hx
    obtain ⟨s, hs1, hs2, _⟩ := keyed_is hk (rd_key hy)
    obtain ⟨z, hz, hz2⟩ := rd_val hy
    rw [rg_of hy] at hx2
    refine ⟨s.data.toList, x.val, ?_⟩
    rw [← hx2]
    refine Prod.ext hs2 ?_
    rw [hz2]
    unfold rawE at hz
    rw [← Option.some.inj hz]
  refine ⟨es.map fun p => match p.1 with | .string s => s | _ => [], ?_, fun k => ?_, ?_, fun t e ty ht => ?_⟩
  · rw [List.nodup_iff_pairwise_ne, List.pairwise_map]
    refine hap.imp_of_mem fun {a c} ha hc hne he => hne ?_
    obtain ⟨k1, v1, rfl⟩ := hform a ha
    obtain ⟨k2, v2, rfl⟩ := hform c hc
    exact congrArg kb he
  · rw [h2]
    have hhas : Maps.has D (kb k) = true ↔ ∃ p ∈ es, p.1 = kb k := by
      rw [hD, Maps.has_eq, List.any_eq_true]
      constructor
      · rintro ⟨p, h1, h2⟩; exact ⟨p, h1, WideAt.sameKey_eq h2⟩
      · rintro ⟨p, h1, h2⟩; exact ⟨p, h1, by rw [h2]; exact WideAt.sameKey_self (kb_key _)⟩
    constructor
    · intro hm
      obtain ⟨p, hp, hpk⟩ := List.mem_map.1 hm
      obtain ⟨k1, v1, rfl⟩ := hform p hp
      have h9 : k1 = k := hpk
      subst h9
      have hh := hhas.2 ⟨_, hp, rfl⟩
      rw [hD] at hh
      obtain ⟨q, hq, hq2⟩ := atKey_mem hh
      obtain ⟨k2, v2, rfl⟩ := hform q hq
      unfold lookD
      rw [hD, if_pos hh, hq2]; rfl
    · intro hm
      unfold lookD at hm
      by_cases hh : Maps.has D (kb k) = true
      · obtain ⟨p, hp, hpk⟩ := hhas.1 hh
        obtain ⟨k1, v1, rfl⟩ := hform p hp
        exact List.mem_map.2 ⟨_, hp, kb_inj hpk⟩
      · rw [if_neg hh] at hm; cases hm
  · rw [List.length_map]
    have := h1.size_le
    rw [hD, Maps.size_eq] at this
    exact this
  · rw [h1.len ht ty, hD, Maps.size_eq, List.length_map]
end
end Go.Proofs.Ytgoapmjcfdbjpaa
namespace Go.Proofs.Ytgoapmjcfdbjpaa
open Go.RowKit Go.ChangeMaps Go.MapKept Go.WideMaps
open Go.WideElems (Fit rd rg pl rd_val rd_key rg_of rd_mk other_key)
open Go.Maps (Keyed)
section
variable {P : Program} (w : World) {ops : Array Oper} {rest : List Oper} {o : Oper} {a : Act} {Q : Exit → Act → World → Prop}
theorem wpList_store_mapS (hg : o.guard = none) (m x v : Operand) (t : TypeId) (hop : o.op = Op.mapUpdate t m x v) (K e : TypeId) (hk : P.underlying K = some .string) (ht : P.underlying t = some (.map K e)) (b n : Nat) (f : KB → Option Value)
    (hm : a.eval m = .map (some b)) (h : MapS P K w b n f) (hn : n < maxLen) (s : ByteArray) (hs : s.size ≤ maxLen) (hx : a.eval x = .string s) (u : Value) (hv : a.eval v = u)
    (hK : ∀ w', MapS P K w' b (n + 1) (updF f s.data.toList u) → w.mapTurned w' b → wpList P ops Q rest (a.put o.dst undef) w') : wpList P ops Q (o :: rest) a w := by
  refine wpList_plain hg fun K' hK' => ?_
  obtain ⟨w', hrun, r1, r2⟩ := h.store hk ht hn s hs u
  unfold Oper.wp
  simp [execOp, hop, hm, hx, hv, hrun, Result.andThen]
  exact hK' _ _ (hK w' r1 r2)
end
def RangeS (P : Program) (K : TypeId) (w : World) (b r n : Nat) (f : KB → Option Value) (left : KB → Bool) (cnt : Nat) : Prop := ∃ (D : DataW Value) (L : Lit → Bool), w.ranges P K rawE b r n D L cnt ∧ (∀ k, f k = lookD D k) ∧ ∀ k, left k = L (kb k)
theorem lookD_has {P : Program} {K : TypeId} (hk : P.underlying K = some .string) {w : World} {b n : Nat} {D : DataW Value} (h : w.ownsMap P K rawE b n D) (k : KB) : (lookD D k).isSome = Maps.has D (kb k) := by
  obtain ⟨ks, _, h2, _⟩ := MapS.keys (f := lookD D) ⟨D, h, fun _ => rfl⟩ hk
  cases hh : Maps.has D (kb k) with
  | false => unfold lookD; rw [hh]; rfl
  | true =>
    obtain ⟨ms, clock, hb, F, hs, hD2⟩ := h
    rw [hD2] at hh
    obtain ⟨q, hq, hq2⟩ := atKey_mem hh
    obtain ⟨x, hx, hx2⟩ := List.mem_map.1 (mem_sorted.1 hq)
    obtain ⟨y, hy⟩ := F.reads x hx
    obtain ⟨z, hz, hz2⟩ := rd_val hy
    rw [rg_of hy] at hx2
    unfold lookD
    rw [hD2, if_pos hh, hq2, ← hx2, hz2]
    unfold rawE at hz
    rw [← Option.some.inj hz]; rfl
section
variable {P : Program} {K e t : TypeId} {w w' : World} {b r n cnt : Nat} {f : KB → Option Value} {left : KB → Bool}
theorem RangeS.map (h : RangeS P K w b r n f left cnt) : MapS P K w b n f := let ⟨D, _, h1, h2, _⟩ := h; ⟨D, h1.owns, h2⟩
theorem RangeS.ne (h : RangeS P K w b r n f left cnt) : r ≠ b := let ⟨_, _, h1, _⟩ := h; h1.ne
theorem RangeS.lt (h : RangeS P K w b r n f left cnt) : r < w.heap.size := let ⟨_, _, h1, _⟩ := h; h1.lt
theorem RangeS.kept {row : Option Nat} (h : RangeS P K w b r n f left cnt) (hg : w.grownBy w' row) (hb : some b ≠ row) (hr : some r ≠ row) : RangeS P K w' b r n f left cnt := let ⟨D, L, h1, h2⟩ := h; ⟨D, L, h1.kept hg hb hr, h2⟩
theorem RangeS.block (h : RangeS P K w b r n f left cnt) (hb : w'.heap[b]? = w.heap[b]?) (hr : w'.heap[r]? = w.heap[r]?) : RangeS P K w' b r n f left cnt := by
  obtain ⟨D, L, ⟨es, clock, since, seen, c0, h1, h3, h4, h5, h6, h7⟩, h2⟩ := h
  exact ⟨D, L, ⟨es, clock, since, seen, c0, hb.trans h1, h3, h4, h5, hr.trans h6, h7⟩, h2⟩
theorem RangeS.belowW (h : RangeS P K w b r n f left cnt) (hb : Below w.heap.size w w') : RangeS P K w' b r n f left cnt := h.block (hb.block b h.map.lt) (hb.block r h.lt)
theorem MapS.range (h : MapS P K w b n f) (hk : P.underlying K = some .string) (ht : P.underlying t = some (.map K e)) :
    ∃ w', (Instr.range t (.map (some b))).run P w = .ok (.pointer (some ⟨w.heap.size, 0, none⟩)) w' ∧ (∃ cnt, RangeS P K w' b w.heap.size n f (fun k => (f k).isSome) cnt) ∧ w.grownBy w' none ∧ w'.heap.size = w.heap.size + 1 := by
  obtain ⟨D, h1, h2⟩ := h
  obtain ⟨w', r1, r2, r3, r4⟩ := h1.range (Maps.string_keyed hk) ht
  exact ⟨w', r1, ⟨_, D, _, r2, h2, fun k => by show (f k).isSome = _; rw [h2, lookD_has hk h1]⟩, r3, r4⟩
theorem RangeS.next (h : RangeS P K w b r n f left cnt) (hk : P.underlying K = some .string) (ty : TypeId) :
    ((∀ k, left k = false) ∧ (Instr.next (.pointer (some ⟨r, 0, none⟩)) false ty).run P w = .ok (.tuple #[.bool false]) w) ∨
    ∃ (s : ByteArray) (v : Value) (w' : World) (cnt' : Nat), s.size ≤ maxLen ∧ left s.data.toList = true ∧ f s.data.toList = some v ∧ (Instr.next (.pointer (some ⟨r, 0, none⟩)) false ty).run P w = .ok (.tuple #[.bool true, .string s, v]) w' ∧
      RangeS P K w' b r n f (fun k => left k && !decide (k = s.data.toList)) cnt' ∧ cnt' < cnt ∧ w.grownBy w' (some r) ∧ w'.heap.size = w.heap.size ∧ (Instr.entry (.pointer (some ⟨r, 0, none⟩))).run P w' = .ok (.tuple #[.string s, v]) w' := by
  obtain ⟨D, L, h1, h2, h3⟩ := h
  rcases h1.next (Maps.string_keyed hk) ty with ⟨_, hl, hrun⟩ | ⟨key, v, kl, y, w', cnt', hkey, hlk, hv, hat, hrun, hrg, hlt, hgr, hsz, hen⟩
  · exact .inl ⟨fun k => by rw [h3]; exact hl _, hrun⟩
  · obtain ⟨s, rfl, rfl, hs⟩ := keyed_is hk hkey
    refine .inr ⟨s, v, w', cnt', hs, by rw [h3]; exact hlk, ?_, hrun, ⟨D, _, hrg, h2, fun k => ?_⟩, hlt, hgr, hsz, hen⟩
    · have hy : y.1 = .held v := by unfold rawE at hv; rw [← Option.some.inj hv]
      have hh : Maps.has D (kb s.data.toList) = true := by
        cases hh : Maps.has D (kb s.data.toList) with
        | true => rfl
        | false =>
          have h4 := hat .nil
          rw [Maps.atKey_of_not_has hh, hy] at h4
          cases h4
      rw [h2]
      unfold lookD
      rw [if_pos hh, hat, hy]; rfl
    · show (left k && _) = (L (kb k) && _)
      rw [h3, kb_same]
theorem leftOf_size (es : Array MapEntry) (seen : Array Nat) : (leftOf es seen).size = es.toList.countP fun e => !seen.contains e.born := by
  unfold leftOf
  rw [List.countP_eq_length_filter, ← Array.toList_filter, Array.length_toList]
theorem countP_set {α : Type} (p : α → Bool) : ∀ (l : List α) (j : Nat) (x y : α), l[j]? = some x → p y = p x → (l.set j y).countP p = l.countP p
  | [], _, _, _, h, _ => by simp at h
  | z :: r, 0, x, y, h, hp => by simp at h; subst h; rw [List.set_cons_zero, List.countP_cons, List.countP_cons, hp]
  | z :: r, j + 1, x, y, h, hp => by
    rw [List.getElem?_cons_succ] at h
    rw [List.set_cons_succ, List.countP_cons, List.countP_cons, countP_set p r j x y h hp]
theorem RangeS.store (h : RangeS P K w b r n f left cnt) (hk : P.underlying K = some .string) (ht : P.underlying t = some (.map K e)) (hn : n < maxLen) (s : ByteArray) (hs : s.size ≤ maxLen) (hf : (f s.data.toList).isSome = true) (v : Value) :
    ∃ w', (Instr.mapUpdate t (.map (some b)) (.string s) v).run P w = .ok () w' ∧ RangeS P K w' b r n (updF f s.data.toList v) left cnt ∧ w.mapTurned w' b := by
  have hK := Maps.string_keyed (P := P) hk
  have hkey := keyOf_string_mk (P := P) hk hs
  obtain ⟨D, L, h1, h2, h3⟩ := h
  have hown := h1.owns
  have hhas : Maps.has D (kb s.data.toList) = true := by rw [← lookD_has hk hown, ← h2]; exact hf
  have hput := fun z => lookD_put (D := D) hown.isMap s.data.toList z v
  have hne := h1.ne
  obtain ⟨es, clock, since, seen, c0, hb, F, hsz, hD, hr, hold, hcnt, hl1, hl2, hsc, hsk⟩ := h1
  obtain ⟨es', clock', hrun, F', hsort, _⟩ := Maps.fit_store (R' := rawE) hK ht hb F (Nat.lt_of_le_of_lt hsz hn) (fun _ _ _ _ hz => hz) hkey (val := v) (yv := (.held v, [])) rfl
  rcases hK.find w hkey es.toList F.keys with ⟨q1, q2⟩ | ⟨j, e0, q1, q2, q3⟩
  · exfalso
    rw [hD] at hhas
    obtain ⟨q, hq, hsame⟩ := List.any_eq_true.1 hhas
    obtain ⟨x, hx, hx2⟩ := List.mem_map.1 (mem_sorted.1 hq)
    obtain ⟨y, hy⟩ := F.reads x hx
    rw [rg_of hy] at hx2
    have h8 := WideAt.sameKey_eq hsame
    rw [← hx2] at h8
    have h7 := rd_key hy
    rw [h8] at h7
    exact q2 x hx (hK.inj h7 hkey)
  · have hj : es[j]? = some e0 := by simpa using q2
    have hrun2 : (Instr.mapUpdate t (.map (some b)) (.string s) v).run P w = .ok () (setBlock w b (.map (es.modify j fun e' => { e' with key := .string s, val := v }) clock)) := by
      simp [Instr.mapUpdate, run_underlying ht, MapKept.run_getObj_map hb, hK.check w false hkey, q1, hj, q3, hK.stays w hkey, MapKept.run_setObj_map _ hb, Result.andThen, setBlock]
    have heq : es' = (es.modify j fun e' => { e' with key := .string s, val := v }) ∧ clock' = clock := by
      have := hrun.symm.trans hrun2
      injection this with _ this
      have h9 := heap_setBlock_same (o := .map es' clock') hb
      rw [this, heap_setBlock_same hb] at h9
      cases h9; exact ⟨rfl, rfl⟩
    obtain ⟨rfl, rfl⟩ := heq
    have hlist : (es.modify j (fun e' => { e' with key := .string s, val := v })).toList = es.toList.set j { e0 with key := .string s, val := v } := by rw [Array.toList_modify, modify_eq_set _ _ _ _ q2]
    have hjl : j < es.toList.length := (List.getElem?_eq_some_iff.1 q2).1
    have he0 : e0 ∈ es.toList := List.mem_of_getElem? q2
    have hrg0 : (rg P K rawE e0).1 = kb s.data.toList := by
      obtain ⟨y, hy⟩ := F.reads e0 he0
      have := rd_key hy
      rw [q3, hkey] at this
      rw [rg_of hy]; exact (Option.some.inj this).symm
    have hrg1 : (rg P K rawE ({ e0 with key := .string s, val := v } : MapEntry)).1 = kb s.data.toList := by rw [rg_of (rd_mk hkey (yv := (.held v, [])) rfl)]; rfl
    have who : ∀ x ∈ es.toList.set j { e0 with key := .string s, val := v }, x = { e0 with key := .string s, val := v } ∨ x ∈ es.toList := by
      intro x hx
      rcases List.mem_or_eq_of_mem_set hx with h | h
      · exact .inr h
      · exact .inl h
    refine ⟨_, hrun, ⟨D.put (kb s.data.toList) (.held v), L, ⟨_, _, since, seen, c0, heap_setBlock_same hb _, F', ?_, ?_, (heap_setBlock_other hb _ hne).trans hr, ?_, ?_, ?_, ?_, hsc, hsk⟩, fun z => ?_, h3⟩, ⟨es, _, _, _, hb, rfl⟩⟩
    · simpa using hsz
    · rw [hD, DataW.put_eq, hsort]; rfl
    · intro x hx
      rw [hlist] at hx
      rcases who x hx with rfl | hx'
      · exact hold e0 he0
      · exact hold x hx'
    · rw [leftOf_size, hlist, countP_set _ _ j e0 ({ e0 with key := .string s, val := v } : MapEntry) q2 rfl, ← leftOf_size]; exact hcnt
    · intro x hx
      rw [hlist] at hx
      rcases who x hx with rfl | hx'
      · rw [hrg1, ← hrg0]; exact hl1 e0 he0
      · exact hl1 x hx'
    · intro kl hkl
      obtain ⟨x, hx, hxk⟩ := hl2 kl hkl
      rw [hlist]
      obtain ⟨i, hi⟩ := List.getElem?_of_mem hx
      by_cases hij : i = j
      · subst hij
        rw [q2] at hi
        cases hi
        exact ⟨_, List.mem_set (by simpa using hjl) _, by rw [hrg1, ← hrg0]; exact hxk⟩
      · exact ⟨x, List.mem_of_getElem? (i := i) (by rw [List.getElem?_set_ne (Ne.symm hij)]; exact hi), hxk⟩
    · rw [hput]; unfold updF; rw [h2]
end
section
variable {P : Program} (w : World) {ops : Array Oper} {rest : List Oper} {o : Oper} {a : Act} {Q : Exit → Act → World → Prop}
theorem wpList_range_mapS (hg : o.guard = none) (m : Operand) (t : TypeId) (hop : o.op = Op.range t m) (K e : TypeId) (hk : P.underlying K = some .string) (ht : P.underlying t = some (.map K e)) (b n : Nat) (f : KB → Option Value)
    (hm : a.eval m = .map (some b)) (h : MapS P K w b n f)
    (hK : ∀ w' cnt, RangeS P K w' b w.heap.size n f (fun k => (f k).isSome) cnt → w.grownBy w' none → w'.heap.size = w.heap.size + 1 → wpList P ops Q rest (a.put o.dst (.pointer (some ⟨w.heap.size, 0, none⟩))) w') :
    wpList P ops Q (o :: rest) a w := by
  refine wpList_plain hg fun K' hK' => ?_
  obtain ⟨w', hrun, ⟨cnt, r1⟩, r2, r3⟩ := h.range hk ht
  unfold Oper.wp
  simp [execOp, hop, hm, hrun, Result.andThen]
  exact hK' _ _ (hK w' cnt r1 r2 r3)
theorem wpList_next_rangeS (hg : o.guard = none) (it : Operand) (hop : o.op = Op.next it false) (K : TypeId) (hk : P.underlying K = some .string) (b r n : Nat) (f : KB → Option Value) (left : KB → Bool) (cnt : Nat)
    (hit : a.eval it = .pointer (some ⟨r, 0, none⟩)) (h : RangeS P K w b r n f left cnt)
    (hDone : (∀ k, left k = false) → wpList P ops Q rest (a.put o.dst (.tuple #[.bool false])) w)
    (hMore : ∀ (s : ByteArray) (v : Value) (w' : World) (cnt' : Nat), s.size ≤ maxLen → left s.data.toList = true → f s.data.toList = some v → RangeS P K w' b r n f (fun k => left k && !decide (k = s.data.toList)) cnt' → cnt' < cnt →
      w.grownBy w' (some r) → w'.heap.size = w.heap.size → (Instr.entry (.pointer (some ⟨r, 0, none⟩))).run P w' = .ok (.tuple #[.string s, v]) w' → wpList P ops Q rest (a.put o.dst (.tuple #[.bool true, .string s, v])) w') :
    wpList P ops Q (o :: rest) a w := by
  refine wpList_plain hg fun K' hK' => ?_
  unfold Oper.wp
  rcases h.next hk o.type with ⟨hl, hrun⟩ | ⟨s, v, w', cnt', hs, hlk, hv, hrun, hrg, hlt, hgr, hsz, hen⟩
  · simp [execOp, hop, hit, hrun, Result.andThen]
    exact hK' _ _ (hDone hl)
  · simp [execOp, hop, hit, hrun, Result.andThen]
    exact hK' _ _ (hMore s v w' cnt' hs hlk hv hrg hlt hgr hsz hen)
end
end Go.Proofs.Ytgoapmjcfdbjpaa
namespace Go.Proofs.Ytgoapmjcfdbjpaa
open Go.RowKit
theorem own_below' {w w' : World} {B n k : Nat} {e : TypeId} {v : Value} {xs : List Value} (h : w.ownsRow B e k v n xs) (hb : Below w.heap.size w w') : w'.ownsRow B e k v n xs := by
  refine ⟨h.1, ?_⟩
  rcases h.2 with h0 | ⟨g, cap, cur, hv, hB, hh, hr⟩
  · exact .inl h0
  · have hg : g < w.heap.size := by
      rcases Nat.lt_or_ge g w.heap.size with h1 | h1
      · exact h1
      · rw [Array.getElem?_eq_none h1] at hh; cases hh
    exact .inr ⟨g, cap, cur, hv, hB, (hb.block g hg).trans hh, hr⟩
theorem flat_get {β : Type} {k : Nat} : ∀ {css : List (List β)}, (∀ cs ∈ css, cs.length = k) → ∀ {m : Nat} {u : β}, css.flatten[m]? = some u → ∃ j i cs, m = j * k + i ∧ css[j]? = some cs ∧ cs[i]? = some u
  | [], _, m, u, h => by simp at h
  | c :: r, hk, m, u, h => by
    have hc : c.length = k := hk c (List.mem_cons_self ..)
    rw [List.flatten_cons] at h
    by_cases hm : m < c.length
    · rw [List.getElem?_append_left hm] at h
      exact ⟨0, m, c, by omega, rfl, h⟩
    · rw [List.getElem?_append_right (by omega)] at h
      obtain ⟨j, i, cs, h1, h2, h3⟩ := flat_get (fun cs hcs => hk cs (List.mem_cons_of_mem _ hcs)) h
      exact ⟨j + 1, i, cs, by rw [Nat.add_mul]; omega, by simpa using h2, h3⟩
theorem get_flat {β : Type} {k : Nat} : ∀ {css : List (List β)}, (∀ cs ∈ css, cs.length = k) → ∀ {j i : Nat} {cs : List β} {u : β}, css[j]? = some cs → cs[i]? = some u → css.flatten[j * k + i]? = some u
  | [], _, j, i, cs, u, h, _ => by simp at h
  | c :: r, hk, j, i, cs, u, h, hi => by
    have hc : c.length = k := hk c (List.mem_cons_self ..)
    rw [List.flatten_cons]
    cases j with
    | zero =>
      simp only [List.getElem?_cons_zero, Option.some.injEq] at h
      subst h
      have := (List.getElem?_eq_some_iff.1 hi).1
      rw [Nat.zero_mul, Nat.zero_add, List.getElem?_append_left this]
      exact hi
    | succ j =>
      have h' : r[j]? = some cs := by simpa using h
      rw [Nat.add_mul, Nat.one_mul, List.getElem?_append_right (by omega), show j * k + k + i - c.length = j * k + i by omega]
      exact get_flat (fun cs hcs => hk cs (List.mem_cons_of_mem _ hcs)) h' hi
theorem flat_len {β : Type} {k : Nat} : ∀ {css : List (List β)}, (∀ cs ∈ css, cs.length = k) → css.flatten.length = css.length * k
  | [], _ => by simp
  | c :: r, hk => by
    rw [List.flatten_cons, List.length_append, flat_len fun cs hcs => hk cs (List.mem_cons_of_mem _ hcs), hk c (List.mem_cons_self ..), List.length_cons, Nat.add_mul]
    omega
theorem pick_each {β : Type} (Q : Nat → β → Prop) : ∀ n : Nat, (∀ i, i < n → ∃ y, Q i y) → ∃ ys : List β, ys.length = n ∧ ∀ i y, ys[i]? = some y → Q i y
  | 0, _ => ⟨[], rfl, fun i y h => by simp at h⟩
  | n + 1, h => by
    obtain ⟨ys, h1, h2⟩ := pick_each Q n fun i hi => h i (by omega)
    obtain ⟨y, hy⟩ := h n (by omega)
    refine ⟨ys ++ [y], by simp [h1], fun i z hz => ?_⟩
    by_cases hi : i < n
    · rw [List.getElem?_append_left (by omega)] at hz
      exact h2 i z hz
    · have : i = n := by have := (List.getElem?_eq_some_iff.1 hz).1; simp [h1] at this; omega
      subst this
      rw [List.getElem?_append_right (by omega), h1] at hz
      simp at hz
      subst hz
      exact hy
def OneR {α : Type} (R : Rd α) : Prop := ∀ w cs x, R w cs x → ∀ u ∈ cs, u.oneCell' = true
section
variable {α : Type} {R : Rd α} {k : Nat} {w w' : World} {v : Value} {l m : List α} {B : Nat} {e : TypeId}
theorem RowAt.cells (h : RowAt R k w v l) {a : Addr} {n c : Nat} (hv : v = .slice (some a) n c) :
    n = l.length ∧ ∃ css : List (List Value), css.length = l.length ∧ (∀ cs ∈ css, cs.length = k) ∧ (∀ (j : Nat) (u : Value), css.flatten[j]? = some u → w.cell? (a.add j) = some u) ∧ ∀ (j : Nat) (cs : List Value) (x : α), css[j]? = some cs → l[j]? = some x → R w cs x := by
  rcases h with ⟨rfl, rfl⟩ | ⟨a', c', rfl, _, _, h4⟩
  · cases hv
  · cases hv
    refine ⟨rfl, ?_⟩
    obtain ⟨css, h1, h2⟩ := pick_each (fun j cs => ∃ x, l[j]? = some x ∧ cs.length = k ∧ (∀ i u, cs[i]? = some u → w.cell? (a.add (j * k + i)) = some u) ∧ R w cs x) l.length (fun j hj => by
      obtain ⟨cs, g1, g2, g3⟩ := h4 j l[j] (by simp [hj])
      exact ⟨cs, l[j], by simp [hj], g1, g2, g3⟩)
    have hk : ∀ cs ∈ css, cs.length = k := fun cs hcs => by
      obtain ⟨j, hj, rfl⟩ := List.getElem_of_mem hcs
      obtain ⟨x, _, g, _⟩ := h2 j _ (List.getElem?_eq_getElem hj)
      exact g
    refine ⟨css, h1, hk, fun j u hu => ?_, fun j cs x hcs hx => ?_⟩
    · obtain ⟨q, i, cs, rfl, hq, hi⟩ := flat_get hk hu
      obtain ⟨x, _, _, g, _⟩ := h2 q cs hq
      exact g i u hi
    · obtain ⟨y, hy, _, _, g⟩ := h2 j cs hcs
      rw [hx] at hy
      cases hy
      exact g
def OwnAt (R : Rd α) (k : Nat) (w : World) (B : Nat) (e : TypeId) (v : Value) (l : List α) : Prop :=
  ∃ css : List (List Value), css.length = l.length ∧ (∀ cs ∈ css, cs.length = k) ∧ w.ownsRow B e k v l.length css.flatten ∧ ∀ (j : Nat) (cs : List Value) (x : α), css[j]? = some cs → l[j]? = some x → R w cs x
theorem OwnAt.nil (w : World) : OwnAt R k w B e (.slice none 0 0) [] := ⟨[], rfl, fun _ h => (by cases h), World.ownsRow_nil _ _ _ _, fun j cs x h => (by simp at h)⟩
theorem OwnAt.form (h : OwnAt R k w B e v l) : (v = .slice none 0 0 ∧ l = []) ∨ ∃ g c, v = .slice (some ⟨g, 0, none⟩) l.length c ∧ B ≤ g ∧ g < w.heap.size ∧ l.length ≤ c ∧ c ≤ maxLen := by
  obtain ⟨css, _, _, h3, _⟩ := h
  rcases h3.2 with ⟨h4, h5⟩ | ⟨g, cap, cur, h4, h5, h6, h7, h8, _⟩
  · exact .inl ⟨h4, List.eq_nil_of_length_eq_zero h5⟩
  · refine .inr ⟨g, cap, h4, h5, ?_, h7, h8⟩
    rcases Nat.lt_or_ge g w.heap.size with h1 | h1
    · exact h1
    · rw [Array.getElem?_eq_none h1] at h6; cases h6
theorem OwnAt.at (h : OwnAt R k w B e v l) {g : Nat} (hg : v.ownBlock = some g) : B ≤ g ∧ g < w.heap.size ∧ ∃ cur, w.heap[g]? = some (.cells cur e (0, 0)) := by
  obtain ⟨css, _, _, h3, _⟩ := h
  rcases h3.2 with ⟨rfl, _⟩ | ⟨g', cap, cur, rfl, h5, h6, _⟩
  · cases hg
  · obtain rfl : g' = g := by simpa [Value.ownBlock] using hg
    refine ⟨h5, ?_, cur, h6⟩
    rcases Nat.lt_or_ge g' w.heap.size with h1 | h1
    · exact h1
    · rw [Array.getElem?_eq_none h1] at h6; cases h6
theorem OwnAt.other {β : Type} {R' : Rd β} {k' : Nat} {B' : Nat} {e' : TypeId} {v' : Value} {l' : List β} (h : OwnAt R k w B e v l) (h' : OwnAt R' k' w B' e' v' l') (hne : e ≠ e') {g : Nat} (hg : v.ownBlock = some g) : v'.ownBlock ≠ some g := fun hg' => by
  obtain ⟨_, _, cur, h1⟩ := h.at hg
  obtain ⟨_, _, cur', h2⟩ := h'.at hg'
  rw [h1] at h2
  cases h2
  exact hne rfl
theorem OwnAt.row (h : OwnAt R k w B e v l) : RowAt R k w v l := by
  obtain ⟨css, h1, h2, h3, h4⟩ := h
  rcases h3.2 with ⟨h5, h6⟩ | ⟨g, cap, cur, h5, _, _, h7, h8, _, hc⟩
  · exact .inl ⟨h5, List.eq_nil_of_length_eq_zero h6⟩
  · refine .inr ⟨_, cap, h5, h7, h8, fun j x hx => ?_⟩
    have hj : j < css.length := by rw [h1]; exact (List.getElem?_eq_some_iff.1 hx).1
    have hcs : css[j]? = some css[j] := List.getElem?_eq_getElem hj
    exact ⟨css[j], h2 _ (List.getElem_mem hj), fun i u hu => h3.cells (by rw [h5]; rfl) (j * k + i) u (get_flat h2 hcs hu), h4 j _ x hcs hx⟩
theorem OwnAt.keepRow (hs : Stays R) (h : OwnAt R k w B e v l) (hk : Keeps w w') (ho : ∀ xs, w.ownsRow B e k v l.length xs → w'.ownsRow B e k v l.length xs) : OwnAt R k w' B e v l := by
  obtain ⟨css, h1, h2, h3, h4⟩ := h
  exact ⟨css, h1, h2, ho _ h3, fun j cs x hcs hx => hs _ _ _ _ hk (h4 j cs x hcs hx)⟩
theorem OwnAt.below (hs : Stays R) (h : OwnAt R k w B e v l) (hb : Below w.heap.size w w') : OwnAt R k w' B e v l := h.keepRow hs (keeps_below hb) fun _ ho => own_below' ho hb
theorem OwnAt.mono {B' : Nat} (h : OwnAt R k w B e v l) (hB : B' ≤ B) : OwnAt R k w B' e v l := by
  obtain ⟨css, h1, h2, h3, h4⟩ := h
  exact ⟨css, h1, h2, h3.mono hB, h4⟩
theorem OwnAt.alloc (hs : Stays R) (h : OwnAt R k w B e v l) (o : Obj) : OwnAt R k (w.alloc o) B e v l := h.below hs ((Below.refl _ _).alloc (Nat.le_refl _) o)
theorem RowAt.one {b : Nat} {cs : Array Value} {fr : Nat × Nat} (hb : w.heap[b]? = some (.cells cs e fr)) (hk : cs.size = k) {x : α} (h : R w cs.toList x) : RowAt R k w (.slice (some ⟨b, 0, none⟩) 1 1) [x] := by
  refine .inr ⟨_, 1, rfl, Nat.le_refl _, by unfold maxLen; decide, fun j y hy => ?_⟩
  have hj : j < 1 := (List.getElem?_eq_some_iff.1 hy).1
  obtain rfl : j = 0 := by omega
  simp only [List.getElem?_cons_zero, Option.some.injEq] at hy
  subst hy
  refine ⟨cs.toList, by simpa using hk, fun i u hu => ?_, h⟩
  rw [Nat.zero_mul, Nat.zero_add, add_plain', Nat.zero_add]
  have hi : i < cs.size := by have := (List.getElem?_eq_some_iff.1 hu).1; simpa using this
  have : w.cell? ⟨b, i, none⟩ = cs[i]? := by unfold World.cell?; simp [hb]
  rw [this]
  simpa using hu
end
def Flat {α : Type} (R : Rd α) : Prop := ∀ w w' cs x, R w cs x → R w' cs x
theorem Flat.stays {α : Type} {R : Rd α} (h : Flat R) : Stays R := fun _ _ _ _ _ hR => h _ _ _ _ hR
section
variable {P : Program} {α : Type} {R : Rd α} {k : Nat} {l m : List α} {B : Nat} {e : TypeId}
theorem OwnAt.grown (hf : Flat R) {w w' : World} {v : Value} (h : OwnAt R k w B e v l) {r : Option Nat} (hg : w.grownBy w' r) (hne : ∀ q, v.ownBlock = some q → some q ≠ r) : OwnAt R k w' B e v l := by
  obtain ⟨css, h1, h2, h3, h4⟩ := h
  refine ⟨css, h1, h2, ⟨h3.1, ?_⟩, fun j cs y hcs hy => hf _ _ _ _ (h4 j cs y hcs hy)⟩
  rcases h3.2 with h5 | ⟨q, cap, cur, rfl, hB, hh, hr⟩
  · exact .inl h5
  · have hq : q < w.heap.size := by
      rcases Nat.lt_or_ge q w.heap.size with h1 | h1
      · exact h1
      · rw [Array.getElem?_eq_none h1] at hh; cases hh
    exact .inr ⟨q, cap, cur, rfl, hB, (hg.block q hq (hne q rfl)).trans hh, hr⟩
theorem nil_of_len {β : Type} {l : List β} (h : l.length = 0) : l = [] := List.eq_nil_of_length_eq_zero h
theorem run_append_ownAt (w : World) (t ty : TypeId) (i : TypeInfo) (z : Value) (bytes : Nat) (ht : P.underlying t = some (.slice e)) (hi : P.info? e = some i) (hz : i.zero = some z) (hsize : i.size = k) (hby : i.bytes = bytes)
    (hzs : z.cells.size = k) (hsz : 0 < k) (hf : Flat R) (h1 : OneR R) (v : Value) (hv : OwnAt R k w B e v l) (x : Value) (hx : RowAt R k w x m) (hlen : l.length + m.length ≤ maxLen)
    (hbytes : (l.length + m.length) * bytes ≤ 140737488355328) (hbase : B ≤ w.heap.size) :
    ∃ v' w', (Builtin.append_ #[t, t] ty #[v, x]).run P w = .ok v' w' ∧ OwnAt R k w' B e v' (l ++ m) ∧ w.grownBy w' v.ownBlock ∧ (∀ g, v.ownBlock = some g → B ≤ g) ∧ (v'.ownBlock = v.ownBlock ∨ v'.ownBlock = some w.heap.size) := by
  obtain ⟨css, c1, c2, c3, c4⟩ := hv
  rcases hx with ⟨rfl, rfl⟩ | ⟨a, c, rfl, hc1, hc2, hc3⟩
  · exact ⟨v, w, run_append_owned_none (P := P) w B t ty e i k ht hi v _ _ c3, ⟨css, by simpa using c1, c2, by simpa using c3, fun j cs y hcs hy => c4 j cs y hcs (by simpa using hy)⟩, World.grownBy.refl w _, fun g hg => (c3.lt g hg).1, .inl rfl⟩
  · obtain ⟨_, ds, d1, d2, d3, d4⟩ := RowAt.cells (R := R) (k := k) (w := w) (l := m) (.inr ⟨a, c, rfl, hc1, hc2, hc3⟩) rfl
    have d6 : ∀ u ∈ ds.flatten, u.oneCell' = true := fun u hu => by
      obtain ⟨cs, hcs, hu'⟩ := List.mem_flatten.1 hu
      obtain ⟨j, hj, rfl⟩ := List.getElem_of_mem hcs
      exact h1 w _ m[j] (d4 j _ _ (List.getElem?_eq_getElem hj) (List.getElem?_eq_getElem (by omega))) u hu'
    obtain ⟨v', w', hrun, r1, r2, _, r4⟩ := run_append_own_at (P := P) w B t ty e i z k bytes ht hi hz hsize hby hzs hsz v l.length css.flatten c3 a m.length c ds.flatten (by rw [flat_len d2, d1]) d3 d6 hlen hbytes hbase
    refine ⟨v', w', hrun, ⟨css ++ ds, by simp [c1, d1], fun cs hcs => (List.mem_append.1 hcs).elim (c2 cs) (d2 cs), by rw [List.flatten_append, List.length_append]; exact r1, fun j cs y hcs hy => ?_⟩, r2, fun g hg => (c3.lt g hg).1, r4⟩
    by_cases hj : j < l.length
    · rw [List.getElem?_append_left (by omega)] at hcs hy
      exact hf _ _ _ _ (c4 j cs y hcs hy)
    · rw [List.getElem?_append_right (by omega)] at hcs hy
      rw [c1] at hcs
      exact hf _ _ _ _ (d4 _ cs y hcs hy)
theorem wpList_append_ownAt (w : World) {ops : Array Oper} {rest : List Oper} {o : Oper} {a : Act} {Q : Exit → Act → World → Prop} (hg : o.guard = none) (s x : Operand) (t : TypeId)
    (ho : o.op = .call { callee := .builtin .append, args := #[s, x], argTypes := #[t, t] })
    (i : TypeInfo) (z : Value) (bytes : Nat) (ht : P.underlying t = some (.slice e)) (hi : P.info? e = some i) (hz : i.zero = some z) (hsize : i.size = k) (hby : i.bytes = bytes) (hzs : z.cells.size = k) (hsz : 0 < k) (hf : Flat R) (h1 : OneR R)
    (v : Value) (hs : a.eval s = v) (hv : OwnAt R k w B e v l) (xv : Value) (hxv : a.eval x = xv) (hx : RowAt R k w xv m) (hlen : l.length + m.length ≤ maxLen)
    (hbytes : (l.length + m.length) * bytes ≤ 140737488355328) (hbase : B ≤ w.heap.size)
    (h : ∀ v' w', OwnAt R k w' B e v' (l ++ m) → w.grownBy w' v.ownBlock → (∀ g, v.ownBlock = some g → B ≤ g) → (v'.ownBlock = v.ownBlock ∨ v'.ownBlock = some w.heap.size) → wpList P ops Q rest (a.put o.dst v') w') : wpList P ops Q (o :: rest) a w := by
  refine wpList_plain hg fun K hK' => ?_
  obtain ⟨v', w', hrun, r1, r2, r3, r4⟩ := run_append_ownAt w t o.type i z bytes ht hi hz hsize hby hzs hsz hf h1 v hv xv hx hlen hbytes hbase
  unfold Oper.wp
  simp [execOp, ho, resolve, invoke, builtin, hs, hxv, hrun, Result.andThen]
  exact hK' _ _ (h v' w' r1 r2 r3 r4)
end
theorem flat_string : Flat RString := fun _ _ _ _ h => h
theorem one_string : OneR RString := fun _ _ _ h u hu => by rw [h] at hu; simp at hu; subst hu; rfl
end Go.Proofs.Ytgoapmjcfdbjpaa
namespace Go.Proofs.Ytgoapmjcfdbjpaa
open Go
section
variable {P : Program} {ops : Array Oper} {md : Region.Mode}
inductive Behind (md : Region.Mode) (ops : Array Oper) (i : Nat) : Nat → Prop
  | edge {t : Nat} {o : Oper} {e : Edge} (ho : ops[t]? = some o) (he : e ∈ o.after) (hb : Region.binds md e = true) (hi : e.on = i) : Behind md ops i t
  | step {t : Nat} {o : Oper} {e : Edge} (ho : ops[t]? = some o) (he : e ∈ o.after) (hb : Region.binds md e = true) (h : Behind md ops i e.on) : Behind md ops i t
def Shut (md : Region.Mode) (ops : Array Oper) (listed : Array Bool) : Prop :=
  ∀ j oj, ops[j]? = some oj → listed.getD j false = true → ∀ e ∈ oj.after, Region.binds md e = true → listed.getD e.on false = true
theorem Behind.listed {i t : Nat} {listed : Array Bool} (h : Behind md ops i t) (hc : Shut md ops listed) :
    (∀ o, ops[t]? = some o → ∀ e ∈ o.after, Region.binds md e = true → listed.getD e.on false = true) → listed.getD i false = true := by
  induction h with
  | edge ho he hb hi => intro hall; rw [← hi]; exact hall _ ho _ he hb
  | step ho he hb _ ih =>
    intro hall
    have h1 := hall _ ho _ he hb
    exact ih (fun o2 ho2 e2 he2 hb2 => hc _ o2 ho2 h1 e2 he2 hb2)
theorem Shut.set {i : Nat} {listed : Array Bool} (hc : Shut md ops listed) (hi : i ∈ Region.ready md ops listed) : Shut md ops (listed.setIfInBounds i true) := by
  obtain ⟨_, oi, hoi, hall⟩ := mem_ready.1 hi
  intro j oj hj hl e he hb
  by_cases hij : i = j
  · subst hij
    have : oj = oi := Option.some.inj (hj.symm.trans hoi)
    subst this
    exact getD_set_true (hall e he hb)
  · rw [getD_set_ne false hij] at hl
    exact getD_set_true (hc j oj hj hl e he hb)
end
end Go.Proofs.Ytgoapmjcfdbjpaa
namespace Go.Proofs.Ytgoapmjcfdbjpaa
open Go
section
variable {P : Program} {ops : Array Oper} {md : Region.Mode} {I : World → Prop}
def gives (P : Program) (R : Value → World → Prop) : Result Next → Prop
  | .ok (.value v) w' => R v w'
  | .ok .skip w' => R undef w'
  | .ok (.enter f args) w' => Calls P f args w' fun e w'' => ∃ v, e = .returned v ∧ R v w''
  | _ => False
theorem gives_upon {o : Oper} {a : Act} {R : Value → World → Prop} {K : Act → World → Prop} {Q : Exit → Act → World → Prop} (h : ∀ v w, R v w → K (a.put o.dst v) w) :
    ∀ {r : Result Next}, gives P R r → o.upon P a K Q r
  | .ok (.value v) w', hr => h _ _ hr
  | .ok .skip w', hr => h _ _ hr
  | .ok (.enter f args) w', hr => Calls.mono hr fun e w'' he => by
      obtain ⟨v, rfl, hR⟩ := he
      exact h _ _ hR
def YieldsIn (P : Program) (ops : Array Oper) (I : World → Prop) (o : Oper) (v : Value) (a : Act) : Prop :=
  (Region.wanted o (yielded ops a.tmps) = true ∧ ∀ w, I w → gives P (fun u w' => u = v ∧ I w') ((execOp a.eval o).run P w)) ∨
  (Region.wanted o (yielded ops a.tmps) = false ∧ v = undef)
theorem YieldsIn.wpOp {i : Nat} {o : Oper} {v : Value} {a : Act} {w : World} (hi : ops[i]? = some o) (hy : YieldsIn P ops I o v a) (hI : I w) {K : Act → World → Prop} {Q : Exit → Act → World → Prop}
    (h : ∀ w', I w' → K (a.put o.dst v) w') : wpOp P ops Q i K a w := by
  unfold Go.wpOp
  simp only [hi]
  rcases hy with ⟨hw, hv⟩ | ⟨hw, rfl⟩
  · simp only [hw, if_true]
    refine .inl ?_
    unfold Oper.wp
    exact gives_upon (R := fun u w' => u = v ∧ I w') (fun u w' hR => by obtain ⟨rfl, hI'⟩ := hR; exact h _ hI') (hv w hI)
  · simp only [hw, Bool.false_eq_true, if_false]
    exact h _ hI
end
end Go.Proofs.Ytgoapmjcfdbjpaa
namespace Go.Proofs.Ytgoapmjcfdbjpaa
open Go
section
variable {P : Program} {ops : Array Oper} {md : Region.Mode}
def putAll : List Oper → (Nat → Value) → Nat → Act → Act
  | [], _, _, a => a
  | o :: r, u, k, a => putAll r u (k + 1) (a.put o.dst (u k))
def slotOf (a : Act) : Option Tmp → Value
  | some d => a.tmps.getD d undef
  | none => undef
theorem put_same (a : Act) (d : Option Tmp) (v w : Value) : (a.put d v).put d w = a.put d w := by
  cases d with
  | none => rfl
  | some d => simp [Act.put]
theorem put_own (a : Act) (d : Option Tmp) : a.put d (slotOf a d) = a := by
  cases d with
  | none => rfl
  | some d =>
    unfold Act.put slotOf
    simp only
    congr 1
    apply Array.ext
    · simp
    · intro i h1 h2
      rw [Array.getElem_setIfInBounds]
      split
      · rename_i h
        subst h
        simp [Array.getD, h2]
      · rfl
def apartDsts (l : List Oper) : Prop := l.Pairwise fun x y => ∀ d, x.dst = some d → y.dst ≠ some d
theorem putAll_put : ∀ (l : List Oper) (u : Nat → Value) (k : Nat) (a : Act) (d : Option Tmp) (v : Value), (∀ o ∈ l, ∀ t, d = some t → o.dst ≠ some t) → (putAll l u k a).put d v = putAll l u k (a.put d v)
  | [], _, _, _, _, _, _ => rfl
  | o :: r, u, k, a, d, v, h => by
    show (putAll r u (k + 1) (a.put o.dst (u k))).put d v = putAll r u (k + 1) ((a.put d v).put o.dst (u k))
    rw [putAll_put r u (k + 1) _ d v (fun o' ho => h o' (List.mem_cons_of_mem _ ho)), ← Act.put_comm a v (u k) (h o (List.mem_cons_self ..))]
theorem putAll_congr : ∀ (l : List Oper) (u u' : Nat → Value) (k : Nat) (a : Act), (∀ j, k ≤ j → u j = u' j) → putAll l u k a = putAll l u' k a
  | [], _, _, _, _, _ => rfl
  | o :: r, u, u', k, a, h => by
    show putAll r u (k + 1) (a.put o.dst (u k)) = putAll r u' (k + 1) (a.put o.dst (u' k))
    rw [h k (Nat.le_refl _)]
    exact putAll_congr r u u' (k + 1) _ (fun j hj => h j (by omega))
theorem putAll_set : ∀ (l : List Oper) (u : Nat → Value) (k i : Nat) (a : Act) (o : Oper) (v : Value), apartDsts l → l[i]? = some o → (putAll l u k a).put o.dst v = putAll l (fun j => if j = k + i then v else u j) k a
  | [], _, _, _, _, _, _, _, h => by simp at h
  | x :: r, u, k, 0, a, o, v, hd, h => by
    obtain rfl : x = o := by simpa using h
    show (putAll r u (k + 1) (a.put x.dst (u k))).put x.dst v = putAll r _ (k + 1) (a.put x.dst (if k = k + 0 then v else u k))
    rw [if_pos (by omega), putAll_put r u (k + 1) _ x.dst v (fun o' ho t ht => (List.pairwise_cons.1 hd).1 o' ho t ht), put_same]
    exact putAll_congr r _ _ (k + 1) _ (fun j hj => by rw [if_neg (by omega)])
  | x :: r, u, k, i + 1, a, o, v, hd, h => by
    show (putAll r u (k + 1) (a.put x.dst (u k))).put o.dst v = putAll r _ (k + 1) (a.put x.dst (if k = k + (i + 1) then v else u k))
    rw [if_neg (by omega), putAll_set r u (k + 1) i _ o v (List.pairwise_cons.1 hd).2 (by simpa using h)]
    exact putAll_congr r _ _ (k + 1) _ (fun j _ => by simp [show k + 1 + i = k + (i + 1) by omega])
theorem putAll_own : ∀ (l : List Oper) (k : Nat) (a : Act) (u : Nat → Value), (∀ j o, l[j]? = some o → u (k + j) = slotOf a o.dst) → putAll l u k a = a
  | [], _, _, _, _ => rfl
  | x :: r, k, a, u, h => by
    show putAll r u (k + 1) (a.put x.dst (u k)) = a
    rw [show u k = slotOf a x.dst from h 0 x rfl, put_own]
    exact putAll_own r (k + 1) a u (fun j o ho => by rw [show k + 1 + j = k + (j + 1) by omega]; exact h (j + 1) o (by simpa using ho))
def unl (listed : Array Bool) : Nat → Nat
  | 0 => 0
  | n + 1 => unl listed n + if listed.getD n true = true then 0 else 1
theorem unl_set {listed : Array Bool} {i : Nat} : ∀ {n : Nat}, i < n → listed.getD i true = false → i < listed.size → unl (listed.setIfInBounds i true) n + 1 = unl listed n
  | 0, h, _, _ => by omega
  | n + 1, h, hu, hs => by
    unfold unl
    by_cases hin : i = n
    · subst hin
      rw [hu, getD_set_true_own hs]
      have : unl (listed.setIfInBounds i true) i = unl listed i := unl_far (Nat.le_refl _)
      rw [this]
      simp
    · rw [getD_set_ne true hin]
      have := unl_set (n := n) (by omega) hu hs
      omega
where
  unl_far {i : Nat} : ∀ {n : Nat}, n ≤ i → unl (listed.setIfInBounds i true) n = unl listed n
    | 0, _ => rfl
    | n + 1, h => by
      unfold unl
      rw [unl_far (n := n) (by omega), getD_set_ne true (by omega)]
  getD_set_true_own {i : Nat} (hs : i < listed.size) : (listed.setIfInBounds i true).getD i true = true := by
    simp [Array.getD, hs]
theorem unl_zero {listed : Array Bool} : ∀ {n : Nat}, unl listed n = 0 → ∀ j, j < n → listed.getD j true = true
  | 0, _, j, h => by omega
  | n + 1, h0, j, h => by
    unfold unl at h0
    by_cases hj : j = n
    · subst hj
      by_cases hl : listed.getD j true = true
      · exact hl
      · rw [if_neg hl] at h0; omega
    · exact unl_zero (n := n) (by omega) j (by omega)
theorem unl_least {listed : Array Bool} {n : Nat} (hu : unl listed n ≠ 0) : ∃ i, i < n ∧ listed.getD i true = false ∧ ∀ j, j < i → listed.getD j true = true := by
  induction n with
  | zero => exact absurd rfl hu
  | succ n ih =>
    by_cases h : unl listed n = 0
    · refine ⟨n, by omega, ?_, unl_zero h⟩
      unfold unl at hu
      rw [h] at hu
      cases hl : listed.getD n true with
      | false => rfl
      | true => rw [hl] at hu; simp at hu
    · obtain ⟨i, hi, h1, h2⟩ := ih h
      exact ⟨i, by omega, h1, h2⟩
theorem getD_false {listed : Array Bool} {i : Nat} (hi : i < listed.size) (h : listed.getD i true = true) : listed.getD i false = true := by
  simp [Array.getD, hi] at h ⊢
  exact h
theorem ready_ex {n : Nat} {listed : Array Bool} (inv : HeadInv md ops n listed) (hback : ∀ i o, ops[i]? = some o → ∀ e ∈ o.after, Region.binds md e = true → e.on < i) (hn : n ≤ ops.size) (hu : unl listed n ≠ 0) :
    ∃ i, i < n ∧ listed.getD i true = false ∧ i ∈ Region.ready md ops listed := by
  obtain ⟨i, hi, h1, h2⟩ := unl_least hu
  refine ⟨i, hi, h1, mem_ready.2 ⟨h1, ops[i]'(by omega), by simp, fun e he hb => ?_⟩⟩
  have h3 := hback i _ (by simp) e he hb
  exact getD_false (by rw [inv.size]; omega) (h2 _ h3)
def canon (n m : Nat) : Array Bool := (Array.range m).map fun j => decide (j < n)
theorem eq_canon {n : Nat} {listed : Array Bool} (inv : HeadInv md ops n listed) (hu : unl listed n = 0) : listed = canon n ops.size := by
  apply Array.ext
  · simp [canon, inv.size]
  · intro i h1 h2
    have h3 : (canon n ops.size)[i] = decide (i < n) := by simp [canon]
    rw [h3]
    by_cases h : i < n
    · have := unl_zero hu i h
      simp [Array.getD, h1] at this
      simp [this, h]
    · have := inv.tail i (by omega) (by rw [← inv.size]; exact h1)
      simp [Array.getD, h1] at this
      simp [this, h]
def upd (u : Nat → Value) (i : Nat) (v : Value) : Nat → Value := fun j => if j = i then v else u j
def relB (md : Region.Mode) (l : List Oper) (n : Nat) (deps : Nat → List Nat) : Bool :=
  decide (n < l.length) && Region.sinkB md l.toArray n && Region.chainB md l.toArray n &&
  ((List.range l.length).all fun i => match l[i]? with | some o => o.after.all fun e => !Region.binds md e || decide (e.on < i) | none => true) &&
  ((List.range n).all fun i => (List.range i).all fun j => match l[i]?, l[j]? with | some x, some y => (match y.dst with | some d => x.dst != some d | none => true) | _, _ => true) &&
  ((List.range n).all fun i => match l[i]? with | some o => (deps i).all fun j => decide (j < n) && o.after.any fun e => Region.binds md e && e.on == j | none => true) &&
  Region.seqB md l.toArray (l.length - n) n (canon n l.length)
def mask (ds : List Nat) (j : Nat) (u : Nat → Value) : Nat → Value := fun k => if k = j ∨ k ∈ ds then u k else undef
theorem mask_congr {ds : List Nat} {j : Nat} {u u' : Nat → Value} (h : ∀ k, (k = j ∨ k ∈ ds) → u k = u' k) : mask ds j u = mask ds j u' := by
  funext k
  unfold mask
  split
  · rename_i hk; exact h k hk
  · rfl
theorem gives_mono {P : Program} {R R' : Value → World → Prop} (h : ∀ v w, R v w → R' v w) : ∀ {r : Result Next}, gives P R r → gives P R' r
  | .ok (.value _) _, hr => h _ _ hr
  | .ok .skip _, hr => h _ _ hr
  | .ok (.enter _ _) _, hr => Calls.mono hr fun _ _ ⟨v, h1, h2⟩ => ⟨v, h1, h _ _ h2⟩
theorem else_of {c : Prop} [Decidable c] {A B : Prop} (h : ¬ c) (q : B) : if c then A else B := by rw [if_neg h]; exact q
theorem then_of {c : Prop} [Decidable c] {A B : Prop} (h : c) (q : A) : if c then A else B := by rw [if_pos h]; exact q
def owesK (P : Program) (ops : Array Oper) (Ri : Value → World → Prop) (Ki : World → World → Prop) (A : Act) (o : Oper) (w : World) : Prop :=
  (Region.wanted o (yielded ops A.tmps) = true ∧ gives P (fun v w' => Ri v w' ∧ Ki w w') ((execOp A.eval o).run P w)) ∨ (Region.wanted o (yielded ops A.tmps) = false ∧ Ri undef w)
def relOblK (P : Program) (ops : Array Oper) (I : World → Prop) (K : Nat → World → World → Prop) (R : Nat → (Nat → Value) → World → Prop) (deps : Nat → List Nat) (hs : List Oper) (a0 : Act) : List Oper → Nat → Prop
  | [], _ => True
  | o :: r, i => (∀ (u : Nat → Value) w, I w → (∀ j ∈ deps i, R j (mask (deps j) j u) w) → owesK P ops (fun v w' => R i (mask (deps i) i (upd u i v)) w') (K i) (putAll hs u 0 a0) o w) ∧ relOblK P ops I K R deps hs a0 r (i + 1)
theorem relOblK_get {I : World → Prop} {K : Nat → World → World → Prop} {R : Nat → (Nat → Value) → World → Prop} {deps : Nat → List Nat} {hs : List Oper} {a0 : Act} : ∀ (l : List Oper) (k : Nat), relOblK P ops I K R deps hs a0 l k → ∀ j o, l[j]? = some o →
    (∀ (u : Nat → Value) w, I w → (∀ i ∈ deps (k + j), R i (mask (deps i) i u) w) → owesK P ops (fun v w' => R (k + j) (mask (deps (k + j)) (k + j) (upd u (k + j) v)) w') (K (k + j)) (putAll hs u 0 a0) o w)
  | [], _, _, j, o, h => by simp at h
  | x :: r, k, h, j, o, ho => by
    cases j with
    | zero =>
      simp only [List.getElem?_cons_zero, Option.some.injEq] at ho
      subst ho
      exact h.1
    | succ j =>
      have := relOblK_get r (k + 1) h.2 j o (by simpa using ho)
      rw [show k + 1 + j = k + (j + 1) by omega] at this
      exact this
theorem owesK_here {Ri : Value → World → Prop} {Ki : World → World → Prop} {A : Act} {o : Oper} {w : World} (v : Value) (hg : o.guard = none) (h : (execOp A.eval o).run P w = .ok (.value v) w) (hR : Ri v w) (hk : Ki w w) : owesK P ops Ri Ki A o w :=
  .inl ⟨by simp [Region.wanted, hg], by rw [h]; exact ⟨hR, hk⟩⟩
theorem owesK_call {Ri : Value → World → Prop} {Ki : World → World → Prop} {A : Act} {o : Oper} {w : World} (f : FuncId) (args : Array Value) (hg : o.guard = none) (h : (execOp A.eval o).run P w = .ok (.enter f args) w)
    (hc : Calls P f args w fun e w' => ∃ v, e = .returned v ∧ Ri v w' ∧ Ki w w') : owesK P ops Ri Ki A o w :=
  .inl ⟨by simp [Region.wanted, hg], by rw [h]; exact hc⟩
theorem owesK_makes {Ri : Value → World → Prop} {Ki : World → World → Prop} {A : Act} {o : Oper} {w w' : World} (v : Value) (hg : o.guard = none) (h : (execOp A.eval o).run P w = .ok (.value v) w') (hR : Ri v w') (hk : Ki w w') : owesK P ops Ri Ki A o w :=
  .inl ⟨by simp [Region.wanted, hg], by rw [h]; exact ⟨hR, hk⟩⟩
end
end Go.Proofs.Ytgoapmjcfdbjpaa
namespace Go.Proofs.Ytgoapmjcfdbjpaa
open Go.RowKit
structure Touch (g : Nat) (w W : World) : Prop where
  os : W.os = w.os
  tape : W.tape = w.tape
  output : W.output = w.output
  size : W.heap.size = w.heap.size
  other : ∀ b, b ≠ g → W.heap[b]? = w.heap[b]?
section
variable {g B : Nat} {a w W : World}
theorem Touch.below (h : Touch g w W) (hb : Below B a w) (hg : B ≤ g) : Below B a W :=
  hb.trans ⟨h.os, h.tape, h.output, by rw [h.size]; exact Nat.le_refl _, fun k hk => h.other k (by omega)⟩
theorem Touch.block (h : Touch g w W) {b : Nat} {x : Obj} (hx : w.heap[b]? = some x) (hne : b ≠ g) : W.heap[b]? = some x := (h.other b hne).trans hx
theorem below_block (h : Below w.heap.size w W) {b : Nat} {x : Obj} (hx : w.heap[b]? = some x) : W.heap[b]? = some x := by
  have hb : b < w.heap.size := by
    rcases Nat.lt_or_ge b w.heap.size with h1 | h1
    · exact h1
    · rw [Array.getElem?_eq_none h1] at hx; cases hx
  exact (h.block b hb).trans hx
theorem touch_setRow (w : World) (g : Nat) (cs : Array Value) : Touch g w (w.setRow g cs) := ⟨rfl, rfl, rfl, by simp, fun b hb => setRow_other w g b cs hb⟩
end
section
variable {P : Program} {ops : Array Oper} {rest : List Oper} {o : Oper} {a : Act} {w : World} {Q : Exit → Act → World → Prop}
theorem wpList_store_box (hgd : o.guard = none) (ty : TypeId) (x y : Operand) (ho : o.op = .store ty x y) (g : Nat) (cells : Array Value) (hx : a.eval x = .pointer (some ⟨g, 0, none⟩)) (hy : a.eval y = .agg cells)
    (t : TypeId) (old : Array Value) (hg : w.heap[g]? = some (.cells old t (0, 0))) (hi : (P.info? ty).map (·.size) = some cells.size) (hold : old.size = cells.size) (h1 : cells.all (·.oneCell') = true)
    (h : ∀ W, W.heap[g]? = some (.cells cells t (0, 0)) → Touch g w W → wpList P ops Q rest (a.put o.dst undef) W) : wpList P ops Q (o :: rest) a w :=
  wpList_store_row hgd ty x y ho g cells hx hy t old hg hi hold h1 (h _ (setRow_heap w g old cells t (0, 0) hg) (touch_setRow w g cells))
theorem touch_setCell {g i : Nat} {cs : Array Value} {t : TypeId} {v : Value} (hg : w.heap[g]? = some (.cells cs t (0, 0))) : (w.setCell ⟨g, i, none⟩ v).heap[g]? = some (.cells (cs.setIfInBounds i v) t (0, 0)) ∧ Touch g w (w.setCell ⟨g, i, none⟩ v) := by
  rw [setCell_eq_setRow w g i cs t (0, 0) v hg]
  exact ⟨setRow_heap w g _ _ t _ hg, touch_setRow w g _⟩
end
theorem flat_set {β : Type} {k : Nat} : ∀ {css : List (List β)}, (∀ cs ∈ css, cs.length = k) → ∀ {j i : Nat} {cs : List β} (u : β), css[j]? = some cs → i < k → css.flatten.set (j * k + i) u = (css.set j (cs.set i u)).flatten
  | [], _, j, i, cs, u, h, _ => by simp at h
  | c :: r, hk, j, i, cs, u, h, hi => by
    have hc : c.length = k := hk c (List.mem_cons_self ..)
    cases j with
    | zero =>
      simp only [List.getElem?_cons_zero, Option.some.injEq] at h
      subst h
      rw [List.flatten_cons, List.set_cons_zero, List.flatten_cons, Nat.zero_mul, Nat.zero_add, List.set_append_left _ _ (by omega)]
    | succ j =>
      rw [List.flatten_cons, List.set_cons_succ, List.flatten_cons, List.set_append_right _ _ (by rw [Nat.add_mul]; omega), show (j + 1) * k + i - c.length = j * k + i by rw [Nat.add_mul]; omega,
        flat_set (fun cs hcs => hk cs (List.mem_cons_of_mem _ hcs)) u (by simpa using h) hi]
theorem OwnAt.store {α : Type} {R : Rd α} {k : Nat} {l : List α} {B : Nat} {e : TypeId} (hf : Flat R) {w : World} {g c n : Nat} (h : OwnAt R k w B e (.slice (some ⟨g, 0, none⟩) n c) l) {j i : Nat} {x x' : α} (hj : l[j]? = some x) (hi : i < k) (u : Value) (hR : ∀ cs, R w cs x → R w (cs.set i u) x') :
    OwnAt R k (w.setCell ⟨g, j * k + i, none⟩ u) B e (.slice (some ⟨g, 0, none⟩) n c) (l.set j x') ∧ Touch g w (w.setCell ⟨g, j * k + i, none⟩ u) := by
  obtain ⟨css, h1, h2, h3, h4⟩ := h
  have hjl := (List.getElem?_eq_some_iff.1 hj).1
  have hcs : css[j]? = some (css[j]'(by omega)) := List.getElem?_eq_getElem _
  have hck : (css[j]'(by omega)).length = k := h2 _ (List.getElem_mem _)
  rcases h3.2 with ⟨h5, _⟩ | ⟨g', cap, cur, hv, hB, hh, hle, hm, hz, ht⟩
  · cases h5
  · cases hv
    obtain ⟨t1, t2⟩ := touch_setCell (i := j * k + i) (v := u) hh
    refine ⟨⟨css.set j ((css[j]'(by omega)).set i u), by simp [h1], fun cs hcs' => ?_, ?_, fun q cs y hq hy => ?_⟩, t2⟩
    · rcases List.mem_or_eq_of_mem_set hcs' with h6 | h6
      · exact h2 cs h6
      · rw [h6, List.length_set]; exact hck
    · rw [List.length_set]
      refine ⟨?_, .inr ⟨g, c, _, rfl, hB, t1, hle, hm, by simpa using hz, ?_⟩⟩
      · rw [← flat_set h2 u hcs hi, List.length_set]; exact h3.1
      · rw [← flat_set h2 u hcs hi, ← ht, Array.toList_setIfInBounds, List.take_set]
    · by_cases hqj : j = q
      · subst hqj
        rw [List.getElem?_set, if_pos rfl, if_pos (by omega)] at hq hy
        cases hq; cases hy
        exact hf _ _ _ _ (hR _ (h4 j _ x hcs hj))
      · rw [List.getElem?_set, if_neg hqj] at hq hy
        exact hf _ _ _ _ (h4 q cs y hq hy)
end Go.Proofs.Ytgoapmjcfdbjpaa
namespace Go.Proofs.Ytgoapmjcfdbjpaa
open Go.RowKit
theorem strAt_getD {l : List ByteArray} {j : Nat} (hj : j < l.length) : l[j]? = some (l.getD j ByteArray.empty) := by simp [List.getD, hj]
set_option maxRecDepth 100000 in
theorem contains_any (v : Value) (l : List ByteArray) (x : ByteArray) (w : World) (h : StrAt w v l) (hl : l.length ≤ 1073741824) : Calls Try.prog 28 #[v, .string x] w fun e w' => e = .returned (.bool (Lib.containsS l x)) ∧ w = w' := by
  rcases Nat.eq_zero_or_pos l.length with h0 | h0
  · obtain rfl := nil_of_len h0
    obtain ⟨ao, c, rfl, _, _⟩ := h.len
    exact (Try.slices_Contains_string_empty ao c x w).mono fun e w' ⟨h1, h2⟩ => ⟨by rw [h1]; rfl, h2.symm⟩
  · obtain ⟨b, o, c, rfl, _, _, _, hc⟩ := h.form h0
    refine (Try.slices_Contains_string b o l.length c l x w (Nat.le_refl _) (by omega) fun j hj => hc j _ (strAt_getD hj)).mono fun e w' ⟨h1, h2⟩ => ⟨?_, h2.symm⟩
    rw [h1, List.take_of_length_le (Nat.le_refl _)]
theorem idx_at {l : List ByteArray} {x : ByteArray} {k : Nat} (hk : l[k]? = some x) (hn : l.Nodup) : Lib.idxOfS l x = (k : Int) := by
  have hkl := (List.getElem?_eq_some_iff.1 hk).1
  have hx : l.getD k ByteArray.empty = x := by simp [List.getD, hk]
  have := Lib.idxOfS_hit l l.length k x hkl (Nat.le_refl _) hx fun j hj e => by
    have h1 : l[j]? = some x := by rw [← e]; exact strAt_getD (by omega)
    have h2 := (List.getElem?_inj (by omega : j < l.length) hn).1 (h1.trans hk.symm)
    omega
  rwa [List.take_of_length_le (Nat.le_refl _)] at this
theorem setCells_rowS (g : Nat) (t : TypeId) : ∀ (vs : List Value) (i : Nat) (cur : Array Value) (w : World), w.heap[g]? = some (.cells cur t (0, 0)) → i + vs.length ≤ cur.size →
    ∃ cur', (w.setCells g i vs).heap[g]? = some (.cells cur' t (0, 0)) ∧ cur'.size = cur.size ∧ (∀ j, j < i → cur'[j]? = cur[j]?) ∧ (∀ j u, vs[j]? = some u → cur'[i + j]? = some u) ∧ Touch g w (w.setCells g i vs)
  | [], i, cur, w, hg, _ => ⟨cur, hg, rfl, fun _ _ => rfl, fun j u h => by simp at h, ⟨rfl, rfl, rfl, rfl, fun _ _ => rfl⟩⟩
  | v :: r, i, cur, w, hg, hl => by
    simp only [List.length_cons] at hl
    obtain ⟨h1, h2⟩ := touch_setCell (w := w) (i := i) (v := v) hg
    obtain ⟨cur', g1, g2, g3, g4, g5⟩ := setCells_rowS g t r (i + 1) _ _ h1 (by simp; omega)
    refine ⟨cur', g1, by simpa using g2, fun j hj => ?_, fun j u hu => ?_, ?_⟩
    · rw [g3 j (by omega), Array.getElem?_setIfInBounds, if_neg (by omega)]
    · cases j with
      | zero =>
        simp only [List.getElem?_cons_zero, Option.some.injEq] at hu
        subst hu
        rw [Nat.add_zero, g3 i (by omega), Array.getElem?_setIfInBounds, if_pos rfl, if_pos (by omega)]
      | succ j =>
        have := g4 j u (by simpa using hu)
        rwa [show i + 1 + j = i + (j + 1) by omega] at this
    · show Touch g w ((w.setCell ⟨g, i, none⟩ v).setCells g (i + 1) r)
      exact ⟨g5.os.trans h2.os, g5.tape.trans h2.tape, g5.output.trans h2.output, g5.size.trans h2.size, fun b hb => (g5.other b hb).trans (h2.other b hb)⟩
theorem own_strs {w : World} {B : Nat} {e : TypeId} {v : Value} {l : List ByteArray} (h : OwnAt RString 1 w B e v l) : w.ownsRow B e 1 v l.length (strs l) := by
  obtain ⟨css, h1, h2, h3, h4⟩ := h
  have : css.flatten = strs l := by
    apply List.ext_getElem?
    intro j
    by_cases hj : j < l.length
    · have hcs : css[j]? = some css[j] := List.getElem?_eq_getElem (by omega)
      have hR : css[j] = [.string l[j]] := h4 j _ _ hcs (List.getElem?_eq_getElem hj)
      have := get_flat h2 (j := j) (i := 0) hcs (u := .string l[j]) (by rw [hR]; rfl)
      rw [Nat.mul_one, Nat.add_zero] at this
      rw [this]
      simp [strs, hj]
    · rw [List.getElem?_eq_none (by rw [flat_len h2]; omega), List.getElem?_eq_none (by rw [strs_length]; omega)]
  rwa [this] at h3
theorem ownAt_strs {w : World} {B n : Nat} {e : TypeId} {v : Value} {l : List ByteArray} (h : w.ownsRow B e 1 v n (strs l)) (hn : l.length = n) : OwnAt RString 1 w B e v l := by
  subst hn
  refine ⟨l.map fun x => [.string x], by simp, fun cs hcs => ?_, ?_, fun j cs x hcs hx => ?_⟩
  · obtain ⟨x, _, rfl⟩ := List.mem_map.1 hcs; rfl
  · have key : ∀ m : List ByteArray, (m.map fun x => [Value.string x]).flatten = strs m := fun m => by
      induction m with
      | nil => rfl
      | cons y r ih => rw [List.map_cons, List.flatten_cons, ih]; rfl
    rw [key]; exact h
  · simp only [List.getElem?_map, hx, Option.map_some, Option.some.injEq] at hcs
    exact hcs.symm
end Go.Proofs.Ytgoapmjcfdbjpaa
namespace Go.Proofs.Ytgoapmjcfdbjpaa
open Go.RowKit
set_option maxRecDepth 100000 in
theorem hasStr_any (v : Value) (l : List ByteArray) (x : ByteArray) (w : World) (h : StrAt w v l) (hl : l.length ≤ 1073741824) :
    Calls Try.prog 12 #[v, .string x] w fun e w' => e = .returned (.bool (Lib.containsS l x)) ∧ w = w' := by
  obtain ⟨ao, c, rfl, _, _⟩ := h.len
  have H := Lib.hid h
  clear h
  go_enter Try.func12, Try.ntmps12
  go_wp2_with fail
  go_loopg [9] l.length (fun g u9 wr => ∃ k : Nat, k + g = l.length ∧ u9 = .int .i64 (k : Int) ∧ Hid (x ∉ l.take k) ∧ w = wr)
  case atStart => exact ⟨0, by omega, rfl, (by show x ∉ _; simp), rfl⟩
  case round =>
    obtain ⟨k, hkg, rfl, Hno, rfl⟩ := hrel
    cases gk with
    | zero =>
      obtain rfl : k = l.length := by omega
      go_wp2_with fail
      go_ret
      refine ⟨congrArg (fun b => Ending.returned (Value.bool b)) ?_, rfl⟩
      have h1 : x ∉ l := by have := Hno.out; rwa [List.take_of_length_le (Nat.le_refl _)] at this
      have h2 : ¬ Lib.containsS l x = true := fun h => h1 ((Lib.containsS_iff l x).1 h)
      simpa using h2
    | succ g =>
      have hkl : k < l.length := by omega
      obtain ⟨b, o, c', hv, _, _, _, hc⟩ := H.out.form (by omega)
      cases hv
      obtain ⟨y, hy⟩ : ∃ y, l[k]? = some y := ⟨l[k], by simp [hkl]⟩
      have e0 := hc k y hy
      clear hc
      have q1 : (0 : Int) ≤ (k : Int) := by omega
      have q2 : (k : Int) < (l.length : Int) := by omega
      by_cases hxy : x = y
      · subst hxy
        have h1 : Lib.containsS l x = true := (Lib.containsS_iff l x).2 (List.mem_of_getElem? hy)
        have H1 := Lib.hid h1
        have q3 : (x.toList == x.toList) = true := by simp
        clear h1 hy
        go_wp2_with fail
        go_ret
        exact ⟨congrArg (fun b => Ending.returned (Value.bool b)) H1.out.symm, rfl⟩
      · have q3 : (x.toList == y.toList) = false := by
          rw [beq_eq_false_iff_ne, ByteArray.toList_eq, ByteArray.toList_eq]
          intro h
          apply hxy
          cases x; cases y
          simp only [ByteArray.mk.injEq]
          exact Array.toList_inj.1 h
        have Hno2 : Hid (x ∉ l.take (k + 1)) := by
          show x ∉ l.take (k + 1)
          rw [List.take_add_one, hy]
          intro h
          rcases List.mem_append.1 h with h | h
          · exact Hno.out h
          · simp at h; exact hxy h
        clear hy Hno
        go_wp2_with fail
        go_roundg g
        case measure => omega
        case rel => exact ⟨k + 1, by omega, by go_num, Hno2, rfl⟩
end Go.Proofs.Ytgoapmjcfdbjpaa
