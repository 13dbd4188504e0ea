/- grants: what rules cover: the plain law of Beyond. -/
import Derived.Test.YtkkfnihdnclgiaaDoorGrantsFresh
import Derived.Test.YtkkfnihdnclgiaaDoorGrantsAllow
namespace Go.Proofs.YtkkfnihdnclgiaaDoor
open Go.RowKit

/-- the word that stands for s -/
def wordOf (L : List (List ByteArray)) (s t : ByteArray) : Prop := if s = starB then freshOf L t else t = s
def allN (r : GRule) : List ByteArray := if r.names.length = 0 then [starB] else r.names
def cellP (l : List GRule) (r : GRule) (v k n : ByteArray) : Bool := l.any fun h => hasL h.verbs v && (hasL h.kinds k && (decide (h.names.length = 0) || (decide (r.names.length ≠ 0) && Lib.containsS h.names n)))
def coverP (l : List GRule) (r : GRule) : Prop := ∀ v ∈ r.verbs, ∀ k ∈ r.kinds, ∀ n ∈ allN r, n.size ≠ 0 → cellP l r v k n = true
structure AskFor (l : List GRule) (r : GRule) (v k n : ByteArray) (a : GAsk) : Prop where
  verb : wordOf (l.map (·.verbs)) v a.verb
  kind : wordOf (l.map (·.kinds)) k a.kind
  space : a.space = ByteArray.empty
  name : if r.names.length = 0 then freshOf (l.map (·.names)) a.name else a.name = n
theorem hasL_word {L : List (List ByteArray)} {v t : ByteArray} (h : wordOf L v t) {m : List ByteArray} (hm : m ∈ L) : hasL m t = hasL m v := by
  unfold wordOf at h
  split at h
  · rename_i hv
    subst hv
    unfold hasL
    have : Lib.containsS m t = false := by
      rw [← Bool.not_eq_true, Lib.containsS_iff]
      exact h.1 m hm
    rw [this, Bool.false_or, Bool.or_self]
  · rw [h]
theorem eqB_none {n : ByteArray} (h : n.size ≠ 0) : eqB n ByteArray.empty = false := by rw [eqB_empty, decide_eq_false h]
theorem allows_cell {l : List GRule} {r : GRule} {v k n : ByteArray} {a : GAsk} (h : AskFor l r v k n a) (hn : n.size ≠ 0) : allowsL l a = cellP l r v k n := by
  unfold allowsL cellP
  have key : ∀ x ∈ l, allowsR a x = (hasL x.verbs v && (hasL x.kinds k && (decide (x.names.length = 0) || (decide (r.names.length ≠ 0) && Lib.containsS x.names n)))) := fun x hx => by
    unfold allowsR
    rw [hasL_word h.verb (List.mem_map.2 ⟨x, hx, rfl⟩), hasL_word h.kind (List.mem_map.2 ⟨x, hx, rfl⟩)]
    have hN := h.name
    split at hN
    · rename_i h0
      have h1 : Lib.containsS x.names a.name = false := by
        rw [← Bool.not_eq_true, Lib.containsS_iff]
        exact hN.1 _ (List.mem_map.2 ⟨x, hx, rfl⟩)
      rw [h1]
      simp [h0]
    · rename_i h0
      rw [hN, eqB_none hn]
      simp [h0]
  have gen : ∀ (m : List GRule) (p q : GRule → Bool), (∀ x ∈ m, p x = q x) → m.any p = m.any q := fun m p q => by
    induction m with
    | nil => intro _; rfl
    | cons x r ih =>
      intro h
      rw [List.any_cons, List.any_cons, h x (List.mem_cons_self ..), ih fun y hy => h y (List.mem_cons_of_mem _ hy)]
  exact gen l _ _ key
theorem hasL_own {m L} {v t : ByteArray} (hv : v ∈ m) (h : wordOf L v t) : hasL m t = true := by
  unfold hasL
  rw [Bool.or_eq_true, Lib.containsS_iff, Lib.containsS_iff]
  unfold wordOf at h
  split at h
  · rename_i hs
    exact .inr (by rw [← hs]; exact hv)
  · exact .inl (by rw [h]; exact hv)
theorem allows_own {l : List GRule} {r : GRule} {v k n : ByteArray} {a : GAsk} (h : AskFor l r v k n a) (hn : n.size ≠ 0) (hv : v ∈ r.verbs) (hk : k ∈ r.kinds) (hN : n ∈ allN r) : allowsR a r = true := by
  unfold allowsR
  rw [hasL_own hv h.verb, hasL_own hk h.kind, Bool.true_and, Bool.true_and]
  have h1 := h.name
  unfold allN at hN
  by_cases h0 : r.names.length = 0
  · rw [decide_eq_true h0, Bool.true_or]
  · rw [if_neg h0] at h1 hN
    rw [h1, eqB_none hn, (Lib.containsS_iff _ _).2 hN]
    simp
/-- what Beyond tells -/
def BeyondAt (l : List GRule) (r : GRule) (a : GAsk) (b : Bool) : Prop :=
  (b = false ∧ a = ⟨ByteArray.empty, ByteArray.empty, ByteArray.empty, ByteArray.empty⟩ ∧ coverP l r) ∨ (b = true ∧ ¬ coverP l r ∧ allowsR a r = true ∧ allowsL l a = false)
theorem beyond_yes {l : List GRule} {r : GRule} {v k n : ByteArray} {a : GAsk} (h : AskFor l r v k n a) (hn : n.size ≠ 0) (hv : v ∈ r.verbs) (hk : k ∈ r.kinds) (hN : n ∈ allN r) (ha : allowsL l a = false) : BeyondAt l r a true :=
  .inr ⟨rfl, fun hc => (by rw [allows_cell h hn, hc v hv k hk n hN hn] at ha; cases ha), allows_own h hn hv hk hN, ha⟩
/-- a cover allows all -/
theorem cover_all {l : List GRule} {r : GRule} (h : coverP l r) {a : GAsk} (ha : allowsR a r = true) : allowsL l a = true := by
  unfold allowsR at ha
  rw [Bool.and_eq_true, Bool.and_eq_true, Bool.or_eq_true] at ha
  obtain ⟨hv, hk, hN⟩ := ha
  have way : ∀ {m : List ByteArray} {t : ByteArray}, hasL m t = true → ∃ v ∈ m, v = t ∨ v = starB := fun {m t} h => by
    unfold hasL at h
    rw [Bool.or_eq_true, Lib.containsS_iff, Lib.containsS_iff] at h
    rcases h with h | h
    · exact ⟨t, h, .inl rfl⟩
    · exact ⟨starB, h, .inr rfl⟩
  have up : ∀ {m : List ByteArray} {v t : ByteArray}, (v = t ∨ v = starB) → hasL m v = true → hasL m t = true := fun {m v t} h hm => by
    rcases h with rfl | rfl
    · exact hm
    · unfold hasL at hm ⊢
      rw [Bool.or_self] at hm
      rw [hm, Bool.or_true]
  obtain ⟨v, hvm, hv⟩ := way hv
  obtain ⟨k, hkm, hk⟩ := way hk
  have fin : ∀ n ∈ allN r, n.size ≠ 0 → (r.names.length ≠ 0 → n = a.name) → allowsL l a = true := fun n hn hz hna => by
    have hc := h v hvm k hkm n hn hz
    unfold cellP at hc
    rw [List.any_eq_true] at hc
    obtain ⟨x, hx, hc⟩ := hc
    rw [Bool.and_eq_true, Bool.and_eq_true, Bool.or_eq_true] at hc
    unfold allowsL
    rw [List.any_eq_true]
    refine ⟨x, hx, ?_⟩
    unfold allowsR
    rw [up hv hc.1, up hk hc.2.1, Bool.true_and, Bool.true_and, Bool.or_eq_true]
    rcases hc.2.2 with h1 | h1
    · exact .inl h1
    · rw [Bool.and_eq_true, decide_eq_true_iff] at h1
      have hN' := hna h1.1
      refine .inr ?_
      rw [← hN', eqB_none hz, h1.2]
      rfl
  by_cases h0 : r.names.length = 0
  · exact fin starB (by unfold allN; rw [if_pos h0]; exact List.mem_singleton.2 rfl) (by decide +kernel) (fun h => absurd h0 h)
  · rcases hN with h1 | h1
    · exact absurd (of_decide_eq_true h1) h0
    · rw [Bool.and_eq_true] at h1
      refine fin a.name (by unfold allN; rw [if_neg h0]; exact (Lib.containsS_iff _ _).1 h1.2) ?_ (fun _ => rfl)
      intro hz
      have := h1.1
      rw [eqB_empty, decide_eq_true hz] at this
      cases this

def WordAt (L : List (List ByteArray)) (s : ByteArray) (w : World) (e : Ending) (w' : World) : Prop := ∃ t, e = .returned (.string t) ∧ wordOf L s t ∧ Below w.heap.size w w'
theorem star_data : (⟨#[42]⟩ : ByteArray) = starB := toList_inj (by decide +kernel)
set_option maxRecDepth 100000 in
theorem word_any (s : ByteArray) (v : Value) (L : List (List ByteArray)) (w : World) (h : RowAt RStrs 1 w v L) (hl : L.length ≤ 1048576) (hT : L.flatten.length ≤ 1048576) (htab : TabOK w) :
    Calls Tryd.prog 22 #[.string s, v] w (WordAt L s w) := by
  have H := Lib.hid (fresh_any v L w h hl hT htab)
  obtain ⟨b, Hb⟩ : ∃ b : Bool, Hid (b = decide (s = starB)) := ⟨_, Lib.hid rfl⟩
  have hb : (s.toList == [42]) = b := by
    rw [Hb.out]
    have h9 : eqB s starB = (s.toList == [42]) := by unfold eqB; rw [show starB.toList = [42] from by decide +kernel]
    rw [← h9]
    rw [Bool.eq_iff_iff, eqB_iff, decide_eq_true_iff]
  clear h htab
  go_enter Tryd.func22, Tryd.ntmps22
  cases b with
  | true =>
    have hs : s = starB := of_decide_eq_true Hb.out.symm
    have Hs := Lib.hid hs
    clear hs
    go_wp2_with fail
    refine H.out.mono ?_
    rintro E w1 ⟨t, rfl, ht, _, hb1⟩
    have Hq : Hid (wordOf L s t) := Lib.hid (by unfold wordOf; rw [if_pos Hs.out]; exact ht)
    have Hb1 := Lib.hid hb1
    clear ht hb1 H
    go_wp2_with fail
    go_ret
    exact ⟨t, rfl, Hq.out, Hb1.out⟩
  | false =>
    have hs : s ≠ starB := of_decide_eq_false Hb.out.symm
    have Hq : Hid (wordOf L s s) := Lib.hid (by unfold wordOf; rw [if_neg hs])
    clear hs H
    go_wp2_with fail
    go_ret
    exact ⟨s, rfl, Hq.out, Below.refl _ _⟩
end Go.Proofs.YtkkfnihdnclgiaaDoor
