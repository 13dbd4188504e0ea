/- Texts of ours joined: PatchLaws, PatchRun, PatchApply, Rest, PatchSplitsWalk, PatchTestsWalk, PatchUnput. -/
import Derived.Deep.DeepCutAuto
import Derived.Deep.LoopGhost
import Derived.Lib.Hide
import Derived.IntWalk
import Derived.Lib.ItoaLen
import Derived.Test.YtlcongehmjiabaaGreatDoorMk8
set_option linter.unusedVariables false
set_option linter.unusedSimpArgs false
/- patch: the laws of what is answered, in plain Lean. -/
namespace Go.Proofs.YtlcongehmjiabaaGreatDoor
open Go.RowKit
open JP (JV Bs)

namespace JP
/-! PatchTests -/
theorem readO_val {k : Int} {p v : Bs} {l : List Bs} {u : JV} (hk : k = 1 ∨ k = 3 ∨ k = 6) (hp : stepsP p = (0, l)) (hv : readL v = (u, 0)) : readO ⟨k, p, [], v⟩ = (0, ⟨k, l, [], u⟩) := by
  unfold readO
  dsimp only
  rw [if_neg (by omega), hp, hv, if_neg (by simp), if_neg (by omega), if_neg (by omega)]
theorem readO_gone {p v f : Bs} {l : List Bs} (hp : stepsP p = (0, l)) : readO ⟨2, p, f, v⟩ = (0, ⟨2, l, [], .nul⟩) := by
  unfold readO
  dsimp only
  rw [if_neg (by decide), hp, if_neg (by simp), if_neg (by decide), if_pos rfl]
theorem stepP_of {o : PO} {s : PS} {v w : JV} (hr : readO o = (0, s)) (hd : doP s v = (0, w)) (hw : Fit w) : stepP o v = (0, w) := by
  unfold stepP
  rw [hr, if_neg (by simp), hd, if_neg (by simp), (tell_fit hw).1]
theorem patch_tests {d p v : Bs} {a b : List PO} (hl : (a ++ b).length ≤ 30) (h : applyE d a = 0) (hg : getE (applyT d a) p = 0) (hs : sameE (getT (applyT d a) p) v = 0) :
    (sameT (getT (applyT d a) p) v = false → applyE d (a ++ [⟨6, p, [], v⟩] ++ b) = 10 ∧ applyN d (a ++ [⟨6, p, [], v⟩] ++ b) = a.length ∧ applyT d (a ++ [⟨6, p, [], v⟩] ++ b) = []) ∧
    (sameT (getT (applyT d a) p) v = true → applyE d (a ++ [⟨6, p, [], v⟩] ++ b) = applyE d (a ++ b) ∧ applyT d (a ++ [⟨6, p, [], v⟩] ++ b) = applyT d (a ++ b) ∧ applyN d (a ++ [⟨6, p, [], v⟩] ++ b) = applyN d (a ++ b) + 1) := by
  obtain ⟨x, h1, h2, h3, h4, h5⟩ := runO_ok h
  have hf := runP_fit h4 h3
  have ht : applyT d a = text (runP a x 0).2.2 := by unfold applyT; rw [h5, if_pos h3]
  have hn : (runP a x 0).2.1 = a.length := by rw [runP_len a x 0 h3]; omega
  have hrun : runP a x 0 = (0, a.length, (runP a x 0).2.2) := Prod.ext h3 (Prod.ext hn rfl)
  obtain ⟨y, hy⟩ : ∃ y, (runP a x 0).2.2 = y := ⟨_, rfl⟩
  rw [hy] at hrun ht hf
  have hr := fit_read hf
  rw [ht] at hg hs ⊢
  obtain ⟨y2, l, c, r1, r2, r3, r4, r5⟩ := get_ok hg
  rw [hr] at r1
  obtain rfl : y = y2 := (Prod.mk.inj r1).1
  rw [r5] at hs ⊢
  have hrc := fit_read (at_fit r3 r4)
  have hu : readL v = ((readL v).1, 0) := by
    unfold sameE at hs
    rw [hrc, if_pos rfl] at hs
    exact Prod.ext rfl hs
  have hsame : sameT (text c) v = decide (text c = text (readL v).1) := by
    unfold sameT
    rw [hrc, if_pos ⟨rfl, by rw [hu]⟩]
  rw [hsame]
  have hro : readO ⟨6, p, [], v⟩ = (0, ⟨6, l, [], (readL v).1⟩) := readO_val (.inr (.inr rfl)) r2 hu
  have hl1 : (a ++ [(⟨6, p, [], v⟩ : PO)] ++ b).length ≤ 40 := by
    simp only [List.length_append, List.length_cons, List.length_nil] at hl ⊢; omega
  have hl2 : (a ++ b).length ≤ 40 := by omega
  have e1 : runO d (a ++ [(⟨6, p, [], v⟩ : PO)] ++ b) = runP (⟨6, p, [], v⟩ :: b) y a.length := by
    rw [runO_of h1 hl1, List.append_assoc, runP_append, hrun, if_pos rfl]; rfl
  have e2 : runO d (a ++ b) = runP b y a.length := by
    rw [runO_of h1 hl2, runP_append, hrun, if_pos rfl]
  have hdo : doP ⟨6, l, [], (readL v).1⟩ y = if text c = text (readL v).1 then (0, y) else (10, .nul) := by
    unfold doP
    dsimp only
    rw [if_neg (by decide), if_neg (by decide), if_neg (by decide), if_pos rfl, r4]
  unfold applyE applyN applyT
  rw [e1, e2]
  refine ⟨fun hF => ?_, fun hT => ?_⟩
  · have hne : ¬ text c = text (readL v).1 := of_decide_eq_false hF
    rw [if_neg hne] at hdo
    have hst : stepP ⟨6, p, [], v⟩ y = (10, .nul) := by
      unfold stepP
      rw [hro, if_neg (by simp), hdo, if_pos (by simp)]
    rw [runP, hst, if_neg (by simp)]
    exact ⟨rfl, rfl, rfl⟩
  · have he : text c = text (readL v).1 := of_decide_eq_true hT
    rw [if_pos he] at hdo
    have hst := stepP_of hro hdo hf
    rw [runP, hst, if_pos rfl, runP_shift]
    exact ⟨rfl, rfl, rfl⟩
theorem patch_const2 : applyE [49] [⟨6, [], [], [50]⟩] = 10 := by
  have h1 : readL [49] = (.num 1, 0) := by
    have := fit_read (v := .num 1) ⟨by rw [wf]; exact ⟨by decide, by decide⟩, by decide, by decide, by decide +kernel⟩
    rw [show text (.num 1) = [49] from by decide +kernel] at this; exact this
  have h2 : readL [50] = (.num 2, 0) := by
    have := fit_read (v := .num 2) ⟨by rw [wf]; exact ⟨by decide, by decide⟩, by decide, by decide, by decide +kernel⟩
    rw [show text (.num 2) = [50] from by decide +kernel] at this; exact this
  unfold applyE
  rw [runO_of h1 (by decide), runP]
  have hro : readO ⟨6, [], [], [50]⟩ = (0, ⟨6, [], [], .num 2⟩) := readO_val (.inr (.inr rfl)) (steps_join [] (by decide)) h2
  have hst : (stepP ⟨6, [], [], [50]⟩ (.num 1)).1 = 10 := by
    unfold stepP
    rw [hro, if_neg (by simp)]
    have : doP ⟨6, [], [], .num 2⟩ (.num 1) = (10, .nul) := by
      unfold doP
      dsimp only
      rw [if_neg (by decide), if_neg (by decide), if_neg (by decide), if_pos rfl, atW]
      dsimp only
      rw [if_neg (by decide +kernel)]
    rw [this]; rfl
  rw [hst]; rfl

/-! PatchBack -/
theorem under_cons {f : JV → Bs → Option JV} {v : JV} {a : Bs} {l : List Bs} (hl : l ≠ []) : under f v (a :: l) = (child v a).bind fun c => (under f c l).map (repl v a) := by
  cases l with
  | nil => exact absurd rfl hl
  | cons t r => exact under_more f v a t r
theorem under_split {f : JV → Bs → Option JV} {s : Bs} : ∀ {l : List Bs} {v u : JV}, Few v → under f v (l ++ [s]) = some u → ∃ p q, atW v l = some p ∧ f p s = some q ∧ putW v l q = some u
  | [], v, u, _, h => ⟨v, u, by rw [atW], by rw [List.nil_append, under_one] at h; exact h, putW_nil v u⟩
  | a :: r, v, u, hf, h => by
    rw [List.cons_append, under_cons (by simp)] at h
    obtain ⟨c, hc, h⟩ := Option.bind_eq_some_iff.1 h
    obtain ⟨x, hx, rfl⟩ := Option.map_eq_some_iff.1 h
    obtain ⟨p, q, h1, h2, h3⟩ := under_split (few_child hf hc) hx
    exact ⟨p, q, by rw [atW_cons, hc]; exact h1, h2, by rw [put_cons hf hc, h3]; rfl⟩
theorem under_join {f : JV → Bs → Option JV} {s : Bs} : ∀ {l : List Bs} {v u p q : JV}, Few v → atW v l = some p → f p s = some q → putW v l q = some u → under f v (l ++ [s]) = some u
  | [], v, u, p, q, _, h1, h2, h3 => by
    rw [atW] at h1
    rw [putW_nil] at h3
    rw [List.nil_append, under_one, ← h3, Option.some.inj h1, h2]
  | a :: r, v, u, p, q, hf, h1, h2, h3 => by
    rw [atW_cons] at h1
    obtain ⟨c, hc, h1⟩ := Option.bind_eq_some_iff.1 h1
    rw [put_cons hf hc] at h3
    obtain ⟨x, hx, rfl⟩ := Option.map_eq_some_iff.1 h3
    rw [List.cons_append, under_cons (by simp), hc]
    show (under f c (r ++ [s])).map _ = _
    rw [under_join (few_child hf hc) h1 h2 hx]
    rfl
theorem at_put : ∀ {l : List Bs} {v u p q : JV}, wfS v → Few v → Few u → atW v l = some p → putW v l q = some u → atW u l = some q ∧ ∀ z, putW u l z = putW v l z
  | [], v, u, p, q, _, _, _, h1, h2 => by
    rw [putW_nil] at h2
    rw [atW, Option.some.inj h2]
    exact ⟨rfl, fun z => by rw [putW_nil, putW_nil]⟩
  | a :: r, v, u, p, q, hw, hf, hu, h1, h2 => by
    rw [atW_cons] at h1
    obtain ⟨c, hc, h1⟩ := Option.bind_eq_some_iff.1 h1
    rw [put_cons hf hc] at h2
    obtain ⟨x, hx, rfl⟩ := Option.map_eq_some_iff.1 h2
    have hc2 := child_repl (w := x) hc
    obtain ⟨g1, g2⟩ := at_put (childS_wf hw hc) (few_child hf hc) (few_child hu hc2) h1 hx
    refine ⟨by rw [atW_cons, hc2]; exact g1, fun z => ?_⟩
    rw [put_cons hu hc2, put_cons hf hc, g2 z]
    cases putW c r z with
    | none => rfl
    | some y => exact congrArg some (repl_repl hw hc)
theorem cut_put_none {n : Bs} {v : JV} {d : Fs} (h : Srt d) (hg : get n d = none) : cut n (put n v d) = d :=
  fs_ext (srt_cut n (put_srt h)) h fun k => by
    rw [get_cut, get_put]
    by_cases e : k = n
    · rw [if_pos e, e, hg]
    · rw [if_neg e, if_neg e]
theorem erase_ins (l : List JV) (n : Nat) (x : JV) (h : n ≤ l.length) : (l.take n ++ x :: l.drop n).eraseIdx n = l := by
  have e : (l.take n).length = n := by rw [List.length_take]; omega
  rw [List.eraseIdx_append_of_length_le (by omega), e, Nat.sub_self, List.eraseIdx_cons_zero, List.take_append_drop]
theorem ins_erase (l : List JV) (n : Nat) (x : JV) (h : l[n]? = some x) : (l.eraseIdx n).take n ++ x :: (l.eraseIdx n).drop n = l := by
  obtain ⟨h1, h2⟩ := List.getElem?_eq_some_iff.1 h
  rw [List.eraseIdx_eq_take_drop_succ]
  have e : (l.take n).length = n := by rw [List.length_take]; omega
  rw [List.take_append_of_le_length (by omega), List.drop_append_of_le_length (by omega), List.take_of_length_le (by omega), List.drop_of_length_le (by omega), List.nil_append, ← h2, List.getElem_cons_drop, List.take_append_drop]
/-- what leads back behind something was put -/
def unputP (v : JV) (path : List Bs) : PO :=
  if path = [] then ⟨3, [], [], text v⟩
  else match atW v path.dropLast with
    | some (.list l) => ⟨2, joinK (if path.getLast? = some [45] then path.dropLast ++ [Lib.itoa (l.length : Int)] else path), [], []⟩
    | _ => match atW v path with
      | some was => ⟨3, joinK path, [], text was⟩
      | none => ⟨2, joinK path, [], []⟩
theorem atW_append : ∀ {l : List Bs} {v p : JV} {k : List Bs}, atW v l = some p → atW v (l ++ k) = atW p k
  | [], v, p, k, h => by rw [atW] at h; rw [List.nil_append, Option.some.inj h]
  | s :: r, v, p, k, h => by
    rw [atW_cons] at h
    obtain ⟨c, hc, h⟩ := Option.bind_eq_some_iff.1 h
    rw [List.cons_append, atW_cons, hc]
    exact atW_append h
theorem atW_one (v : JV) (s : Bs) : atW v [s] = child v s := by rw [atW_cons]; cases child v s <;> rfl
theorem do_gone {l : List Bs} {u v : JV} (h0 : l ≠ []) (h : cutW u l = some v) : doP ⟨2, l, [], .nul⟩ u = (0, v) := by
  unfold doP
  rw [if_neg (by dsimp only; decide), if_pos rfl]
  dsimp only
  rw [if_neg h0, h]; rfl
theorem do_put {l : List Bs} {u v x p : JV} (h0 : atW u l = some p) (h : putW u l x = some v) : doP ⟨3, l, [], x⟩ u = (0, v) := by
  unfold doP
  rw [if_neg (by dsimp only; decide), if_neg (by dsimp only; decide), if_pos rfl]
  dsimp only
  rw [h0]
  dsimp only
  rw [h]; rfl
theorem do_add {l : List Bs} {u v x : JV} (h : insW u l x = some v) : doP ⟨1, l, [], x⟩ u = (0, v) := by
  unfold doP
  rw [if_pos rfl]
  dsimp only
  rw [h]; rfl
theorem nil_or_snoc (l : List Bs) : l = [] ∨ ∃ r s, l = r ++ [s] := by
  rcases List.eq_nil_or_concat l with h | ⟨r, s, h⟩
  · exact .inl h
  · exact .inr ⟨r, s, by rw [h, List.concat_eq_append]⟩
theorem snoc_ne (l : List Bs) (s : Bs) : l ++ [s] ≠ [] := by simp
theorem unput_back {v u x : JV} {path : List Bs} (hv : Fit v) (hu : Few u) (hl : path.length ≤ 10) (h : insW v path x = some u) : stepP (unputP v path) u = (0, v) := by
  unfold insW at h
  rcases nil_or_snoc path with rfl | ⟨l, s, rfl⟩
  · have : unputP v [] = ⟨3, [], [], text v⟩ := by unfold unputP; rw [if_pos rfl]
    rw [this]
    exact stepP_of (readO_val (.inr (.inl rfl)) (steps_join [] (by decide)) (fit_read hv)) (do_put (p := u) (by rw [atW]) (putW_nil u v)) hv
  · rw [if_neg (snoc_ne l s)] at h
    have fv := fit_few hv
    have wv := fit_S hv
    obtain ⟨p, q, h1, h2, h3⟩ := under_split fv h
    obtain ⟨g1, g2⟩ := at_put wv fv hu h1 h3
    have hback := put_at wv fv h1
    have fp := at_fit hv h1
    have hlen : (l ++ [s]).length ≤ 10 := hl
    have hd : (l ++ [s]).dropLast = l := List.dropLast_concat
    have hg : (l ++ [s]).getLast? = some s := List.getLast?_concat
    unfold unputP
    rw [if_neg (snoc_ne l s), hd, hg, h1]
    cases p with
    | obj fl =>
      cases h2
      dsimp only
      rw [atW_append h1, atW_one]
      obtain ⟨srt, _⟩ := wfS_obj (fit_S fp)
      cases hc : child (.obj fl) s with
      | some was =>
        dsimp only
        have hc' : get s fl = some was := hc
        have ew : under (putL was) u (l ++ [s]) = some v := under_join hu g1 (show putL was (.obj (put s x fl)) s = some (.obj fl) from congrArg (fun z => some (JV.obj z)) (by rw [put_put s x was srt]; exact put_get srt hc')) (by rw [g2]; exact hback)
        have fwas := child_fit fp hc
        refine stepP_of (readO_val (.inr (.inl rfl)) (steps_join _ hlen) (fit_read fwas)) (do_put (p := x) ?_ ?_) hv
        · rw [atW_append g1, atW_one]; exact get_put_same s x fl
        · unfold putW; rw [if_neg (snoc_ne l s)]; exact ew
      | none =>
        dsimp only
        have hc' : get s fl = none := hc
        have ew : under cutL u (l ++ [s]) = some v := under_join hu g1 (show cutL (.obj (put s x fl)) s = some (.obj fl) from by
          rw [cutL, get_put_same, if_pos (show (some x).isSome = true from rfl), cut_put_none srt hc']) (by rw [g2]; exact hback)
        exact stepP_of (readO_gone (steps_join _ hlen)) (do_gone (snoc_ne l s) ew) hv
    | list ls =>
      dsimp only
      have fl := few_list (fit_few fp)
      rw [insL] at h2
      cases hp : place s ls.length with
      | none => rw [hp] at h2; cases h2
      | some n =>
        rw [hp] at h2
        obtain rfl := Option.some.inj h2
        have hn : n ≤ ls.length ∧ Lib.itoa (n : Int) = (if s = [45] then Lib.itoa (ls.length : Int) else s) := by
          unfold place at hp
          by_cases hs : s = [45]
          · rw [if_pos hs] at hp ⊢
            obtain rfl := Option.some.inj hp
            exact ⟨Nat.le_refl _, rfl⟩
          · rw [if_neg hs] at hp ⊢
            obtain ⟨a, b⟩ := idx_some hp
            exact ⟨by omega, b⟩
        have ep : (if some s = some [45] then l ++ [Lib.itoa (ls.length : Int)] else l ++ [s]) = l ++ [if s = [45] then Lib.itoa (ls.length : Int) else s] := by
          by_cases hs : s = [45]
          · rw [if_pos (by rw [hs]), if_pos hs]
          · rw [if_neg (fun e => hs (Option.some.inj e)), if_neg hs]
        rw [ep, ← hn.2]
        have hll : (ls.take n ++ x :: ls.drop n).length = ls.length + 1 := by simp; omega
        have hc : cutL (.list (ls.take n ++ x :: ls.drop n)) (Lib.itoa (n : Int)) = some (.list ls) := by
          rw [cutL, hll, idx_of (n := n) (by omega) (by omega) rfl]
          dsimp only
          rw [erase_ins ls n x hn.1]
        have ew := under_join hu g1 hc (by rw [g2]; exact hback)
        exact stepP_of (readO_gone (steps_join _ (by simp only [List.length_append, List.length_cons, List.length_nil] at hlen ⊢; exact hlen))) (do_gone (snoc_ne l _) ew) hv
    | _ => cases h2
theorem uncut_back {v u : JV} {path : List Bs} (hv : Fit v) (hu : Few u) (h : cutW v path = some u) : ∃ was, atW v path = some was ∧ insW u path was = some v := by
  unfold cutW at h
  rcases nil_or_snoc path with rfl | ⟨l, s, rfl⟩
  · rw [under] at h; cases h
  · have fv := fit_few hv
    have wv := fit_S hv
    obtain ⟨p, q, h1, h2, h3⟩ := under_split fv h
    obtain ⟨g1, g2⟩ := at_put wv fv hu h1 h3
    have hback := put_at wv fv h1
    have fp := at_fit hv h1
    rw [atW_append h1, atW_one]
    have hins : ∀ y, insW u (l ++ [s]) y = under (insL y) u (l ++ [s]) := fun y => if_neg (snoc_ne l s)
    cases p with
    | obj fl =>
      obtain ⟨srt, _⟩ := wfS_obj (fit_S fp)
      rw [cutL] at h2
      cases hg : get s fl with
      | none => rw [hg] at h2; cases h2
      | some was =>
        rw [hg] at h2
        cases h2
        refine ⟨was, hg, (hins was).trans <| under_join hu g1 (show insL was (.obj (cut s fl)) s = some (.obj fl) from congrArg (fun z => some (JV.obj z)) (put_cut srt hg)) (by rw [g2]; exact hback)⟩
    | list ls =>
      have fl := few_list (fit_few fp)
      rw [cutL] at h2
      cases hp : idx s ls.length with
      | none => rw [hp] at h2; cases h2
      | some n =>
        rw [hp] at h2
        cases h2
        obtain ⟨a, b⟩ := idx_some hp
        have hw : ls[n]? = some ls[n] := List.getElem?_eq_getElem a
        refine ⟨ls[n], by show (idx s ls.length).bind _ = _; rw [hp]; exact hw, (hins _).trans <| under_join hu g1 (show insL ls[n] (.list (ls.eraseIdx n)) s = some (.list ls) from ?_) (by rw [g2]; exact hback)⟩
        have e1 : (ls.eraseIdx n).length + 1 = ls.length := by rw [List.length_eraseIdx, if_pos a]; omega
        have e2 : place s (ls.eraseIdx n).length = some n := by
          unfold place
          rw [if_neg (fun e => by rw [e, idx_dash] at hp; cases hp), e1, hp]
        rw [insL, e2]
        dsimp only
        rw [ins_erase ls n _ hw]
    | _ => cases h2
/-- what leads back behind a step that was done -/
def textO : Option JV → Bs
  | some x => text x
  | none => text .nul
def backP (v : JV) (s : PS) : List PO :=
  if s.kind = 1 ∨ s.kind = 5 then [unputP v s.path]
  else if s.kind = 2 then [⟨1, joinK s.path, [], textO (atW v s.path)⟩]
  else if s.kind = 3 then [⟨3, joinK s.path, [], textO (atW v s.path)⟩]
  else if s.kind = 4 then
    if s.frm = s.path then [] else match cutW v s.frm with
      | some rest => [unputP rest s.path, ⟨1, joinK s.frm, [], textO (atW v s.frm)⟩]
      | none => []
  else []
theorem run_one {o : PO} {v w : JV} {i : Nat} (h : stepP o v = (0, w)) : runP [o] v i = (0, i + 1, w) := by rw [runP, h, if_pos rfl]; rfl
theorem back_back {s : PS} {v w : JV} {i B : Nat} (hs : PSOK s B) (hv : Fit v) (hw : Fit w) (h : doP s v = (0, w)) (hk : 1 ≤ s.kind ∧ s.kind ≤ 6) : runP (backP v s) w i = (0, i + (backP v s).length, v) := by
  have fw := fit_few hw
  unfold doP at h
  unfold backP
  by_cases k1 : s.kind = 1
  · rw [if_pos k1] at h
    rw [if_pos (.inl k1)]
    have h' : insW v s.path s.val = some w := by
      have := toI_ok (c := 7) (by decide) (by rw [h])
      rw [h] at this; exact this
    exact run_one (unput_back hv fw hs.lp h')
  rw [if_neg k1] at h
  by_cases k2 : s.kind = 2
  · rw [if_pos k2] at h
    rw [if_neg (by omega), if_pos k2]
    by_cases hp : s.path = []
    · rw [if_pos hp] at h; cases h
    · rw [if_neg hp] at h
      have h' : cutW v s.path = some w := by
        have := toI_ok (c := 7) (by decide) (by rw [h])
        rw [h] at this; exact this
      obtain ⟨was, g1, g2⟩ := uncut_back hv fw h'
      rw [g1]
      exact run_one (stepP_of (readO_val (.inl rfl) (steps_join _ hs.lp) (fit_read (at_fit hv g1))) (do_add g2) hv)
  rw [if_neg k2] at h
  by_cases k3 : s.kind = 3
  · rw [if_pos k3] at h
    rw [if_neg (by omega), if_neg k2, if_pos k3]
    cases hp : atW v s.path with
    | none => rw [hp] at h; cases h
    | some was =>
      rw [hp] at h
      dsimp only at h
      have h' : putW v s.path s.val = some w := by
        have := toI_ok (c := 7) (by decide) (by rw [h])
        rw [h] at this; exact this
      obtain ⟨g1, g2⟩ := at_put (fit_S hv) (fit_few hv) fw hp h'
      exact run_one (stepP_of (readO_val (.inr (.inl rfl)) (steps_join _ hs.lp) (fit_read (at_fit hv hp))) (do_put g1 (by rw [g2]; exact put_at (fit_S hv) (fit_few hv) hp)) hv)
  rw [if_neg k3] at h
  by_cases k6 : s.kind = 6
  · rw [if_pos k6] at h
    rw [if_neg (by omega), if_neg k2, if_neg k3, if_neg (by omega)]
    cases hp : atW v s.path with
    | none => rw [hp] at h; cases h
    | some c =>
      rw [hp] at h
      dsimp only at h
      by_cases ht : text c = text s.val
      · rw [if_pos ht] at h
        obtain rfl := (Prod.mk.inj h).2
        rfl
      · rw [if_neg ht] at h; cases h
  rw [if_neg k6] at h
  unfold carryP at h
  by_cases k4 : s.kind = 4
  · rw [if_neg (by omega), if_neg k2, if_neg k3, if_pos k4]
    by_cases hb : s.kind = 4 ∧ beginsP s.frm s.path = true
    · rw [if_pos hb] at h; cases h
    rw [if_neg hb] at h
    cases ha : atW v s.frm with
    | none => rw [ha] at h; cases h
    | some x =>
      rw [ha] at h
      dsimp only at h
      rw [if_pos k4] at h
      by_cases hp : s.frm = s.path
      · rw [if_pos hp] at h ⊢
        obtain rfl := (Prod.mk.inj h).2
        rfl
      · rw [if_neg hp] at h ⊢
        cases hc : cutW v s.frm with
        | none => rw [hc] at h; cases h
        | some rest =>
          rw [hc] at h
          dsimp only at h ⊢
          have h' : insW rest s.path x = some w := by
            have := toI_ok (c := 7) (by decide) (by rw [h])
            rw [h] at this; exact this
          have fr := (cutW_less hv hc).1
          have e1 := unput_back fr fw hs.lp h'
          obtain ⟨was, g1, g2⟩ := uncut_back hv (fit_few fr) hc
          rw [ha] at g1
          obtain rfl := Option.some.inj g1
          have e2 : stepP ⟨1, joinK s.frm, [], textO (some x)⟩ rest = (0, v) := stepP_of (readO_val (.inl rfl) (steps_join _ hs.lf) (fit_read (at_fit hv ha))) (do_add g2) hv
          rw [runP, e1, if_pos rfl]
          exact run_one e2
  · have k5 : s.kind = 5 := by omega
    rw [if_pos (.inr k5)]
    rw [if_neg (fun e => k4 e.1)] at h
    cases ha : atW v s.frm with
    | none => rw [ha] at h; cases h
    | some x =>
      rw [ha] at h
      dsimp only at h
      rw [if_neg k4] at h
      have h' : insW v s.path x = some w := by
        have := toI_ok (c := 7) (by decide) (by rw [h])
        rw [h] at this; exact this
      exact run_one (unput_back hv fw hs.lp h')
theorem backP_len (v : JV) (s : PS) : (backP v s).length ≤ 2 := by
  unfold backP
  split
  · exact Nat.le_succ 1
  · split
    · exact Nat.le_succ 1
    · split
      · exact Nat.le_succ 1
      · split
        · split
          · exact Nat.zero_le _
          · split
            · exact Nat.le_refl _
            · exact Nat.zero_le _
        · exact Nat.zero_le _
/-- what leads back behind all that was done -/
def bkP : List PO → JV → List PO → List PO
  | [], _, out => out
  | o :: r, v, out => if (stepP o v).1 = 0 then bkP r (stepP o v).2 (backP v (readO o).2 ++ out) else out
theorem readO_kind {o : PO} (h : (readO o).1 = 0) : 1 ≤ (readO o).2.kind ∧ (readO o).2.kind ≤ 6 := by
  unfold readO at h ⊢
  by_cases h0 : o.kind < 1 ∨ 6 < o.kind
  · rw [if_pos h0] at h; cases h
  rw [if_neg h0] at h ⊢
  split
  · exact ⟨by dsimp only; omega, by dsimp only; omega⟩
  · split
    · exact ⟨by dsimp only; omega, by dsimp only; omega⟩
    · split <;> exact ⟨by dsimp only; omega, by dsimp only; omega⟩
theorem step_back {o : PO} {v : JV} (hv : Fit v) (h : (stepP o v).1 = 0) (i : Nat) : runP (backP v (readO o).2) (stepP o v).2 i = (0, i + (backP v (readO o).2).length, v) := by
  have hf := stepP_fit hv h
  unfold stepP at h hf ⊢
  by_cases h1 : (readO o).1 ≠ 0
  · rw [if_pos h1] at h; exact absurd h h1
  rw [if_neg h1] at h hf ⊢
  by_cases h2 : (doP (readO o).2 v).1 ≠ 0
  · rw [if_pos h2] at h; exact absurd h h2
  rw [if_neg h2] at h hf ⊢
  have h3 : (readO o).1 = 0 := by simpa using h1
  have h4 : (doP (readO o).2 v).1 = 0 := by simpa using h2
  exact back_back (readO_ok (B := o.path.length + o.frm.length) h3 (by omega) (by omega)) hv hf (Prod.ext h4 rfl) (readO_kind h3)
theorem bk_runs : ∀ {ops : List PO} {v : JV} {i : Nat} (out : List PO) (j : Nat), Fit v → (runP ops v i).1 = 0 → ∃ m, m ≤ 2 * ops.length ∧ (bkP ops v out).length = m + out.length ∧ runP (bkP ops v out) (runP ops v i).2.2 j = runP out v (j + m)
  | [], v, i, out, j, _, _ => ⟨0, Nat.le_refl _, by rw [bkP]; omega, rfl⟩
  | o :: r, v, i, out, j, hv, h => by
    rw [runP] at h ⊢
    by_cases h1 : (stepP o v).1 = 0
    · rw [if_pos h1] at h ⊢
      obtain ⟨m, m1, m2, m3⟩ := bk_runs (backP v (readO o).2 ++ out) j (stepP_fit hv h1) h
      have hb := step_back hv h1 (j + m)
      have hl := backP_len v (readO o).2
      refine ⟨m + (backP v (readO o).2).length, by rw [List.length_cons]; omega, by rw [bkP, if_pos h1, m2, List.length_append]; omega, ?_⟩
      rw [bkP, if_pos h1, m3, runP_append, hb, if_pos rfl]
      show runP out v _ = _
      rw [Nat.add_assoc]
    · rw [if_neg h1] at h; exact absurd h h1
/-- what 'Invert' answers -/
def invL (d : Bs) (ops : List PO) : List PO := if applyE d ops = 0 then bkP ops (readL d).1 [] else []
theorem patch_back {d : Bs} {ops : List PO} (hl : ops.length ≤ 20) (h : applyE d ops = 0) : applyE (applyT d ops) (invL d ops) = 0 ∧ applyT (applyT d ops) (invL d ops) = canonT d ∧ applyN (applyT d ops) (invL d ops) = (invL d ops).length := by
  obtain ⟨x, h1, h2, h3, h4, h5⟩ := runO_ok h
  have hf := runP_fit h4 h3
  have ht : applyT d ops = text (runP ops x 0).2.2 := by unfold applyT; rw [h5, if_pos h3]
  have hi : invL d ops = bkP ops x [] := by unfold invL; rw [if_pos h, h1]
  obtain ⟨m, m1, m2, m3⟩ := bk_runs (i := 0) [] 0 h4 h3
  rw [ht, hi]
  have hlen : (bkP ops x []).length ≤ 40 := by rw [m2, List.length_nil]; omega
  have e : runO (text (runP ops x 0).2.2) (bkP ops x []) = (0, m, x) := by
    rw [runO_of (fit_read hf) hlen, m3, runP]; simp
  unfold applyE applyT applyN
  rw [e, if_pos rfl, canonT_ok h1, m2]
  exact ⟨rfl, rfl, by simp⟩
end JP
end Go.Proofs.YtlcongehmjiabaaGreatDoor
/- patch: all steps are done. -/
namespace Go.Proofs.YtlcongehmjiabaaGreatDoor
open Go.RowKit
open JP (JV Bs)

def toPO (g : GOp) : JP.PO := ⟨g.kind, g.path.data.toList, g.from_.data.toList, g.value.data.toList⟩
def OpOK (g : GOp) : Prop := g.path.size ≤ 1048576 ∧ g.from_.size ≤ 1048576 ∧ g.value.size ≤ 1048576
/-- what is seen on the way -/
def JP.seenP : List JP.PO → JV → List (JV × JP.PS)
  | [], _ => []
  | o :: r, v => if (JP.stepP o v).1 = 0 then (v, (JP.readO o).2) :: JP.seenP r (JP.stepP o v).2 else []
def RunAt (G : List Nat) (I : List (JV × JP.PS) → World → Prop) (w0 : World) (R : Int × Nat × JV) (S : List (JV × JP.PS)) (e : Ending) (w' : World) : Prop :=
  ∃ u, e = .returned (.tuple #[u, .int .i64 (R.2.1 : Int), .int .i64 R.1]) ∧ (R.1 = 0 → (∃ k, JvAt k G w' u R.2.2) ∧ I S w') ∧ Below w0.heap.size w0 w'
theorem RunAt.no {G : List Nat} {I : List (JV × JP.PS) → World → Prop} {w0 w' : World} {R : Int × Nat × JV} {S : List (JV × JP.PS)} {u : Value} {i c : Int} (h1 : R.1 = c) (h2 : (R.2.1 : Int) = i) (hc : c ≠ 0) (hb : Below w0.heap.size w0 w') : RunAt G I w0 R S (.returned (.tuple #[u, .int .i64 i, .int .i64 c])) w' :=
  ⟨u, by rw [h1, h2], fun h => absurd (h1.symm.trans h) hc, hb⟩
theorem RunAt.yes {G : List Nat} {I : List (JV × JP.PS) → World → Prop} {w0 w' : World} {R : Int × Nat × JV} {S : List (JV × JP.PS)} {u : Value} {i : Int} (h1 : R.1 = 0) (h2 : (R.2.1 : Int) = i) (hu : ∃ k, JvAt k G w' u R.2.2) (hi : I S w') (hb : Below w0.heap.size w0 w') : RunAt G I w0 R S (.returned (.tuple #[u, .int .i64 i, .int .i64 0])) w' :=
  ⟨u, by rw [h1, h2], fun _ => ⟨hu, hi⟩, hb⟩
theorem one4 {a b c d : Value} (h1 : a.oneCell' = true) (h2 : b.oneCell' = true) (h3 : c.oneCell' = true) (h4 : d.oneCell' = true) : (#[a, b, c, d] : Array Value).all (·.oneCell') = true := by simp [h1, h2, h3, h4]
theorem readO_kd {o : JP.PO} : (JP.readO o).2.kind = o.kind := by
  unfold JP.readO
  split
  · rfl
  · split
    · rfl
    · split
      · rfl
      · split <;> rfl
/-- what a closure does that is shown each step -/
def Sees (f : FuncId) (caps : Array Value) (G : List Nat) (I : List (JV × JP.PS) → World → Prop) (w0 : World) : Prop :=
  ∀ (d : List (JV × JP.PS)) (x : JV) (kd : Int) (pa fr : List Bs) (val : JV) (vx s1 s2 s3 : Value) (n : Nat) (w : World), I d w → JvAt n [] w vx x → JP.Fit x → StepAt w s1 s2 s3 ⟨kd, pa, fr, val⟩ → JP.PSOK ⟨kd, pa, fr, val⟩ 1048576 → 1 ≤ kd ∧ kd ≤ 6 → (JP.doP ⟨kd, pa, fr, val⟩ x).1 = 0 → Below w0.heap.size w0 w → d.length ≤ 40 →
    Calls Tryz.prog f (#[vx, .agg #[.int .i64 kd, s1, s2, s3]] ++ caps) w fun e w' => e = .returned (.tuple #[]) ∧ I (d ++ [(x, ⟨kd, pa, fr, val⟩)]) w' ∧ KeepT G w w' ∧ Below w0.heap.size w0 w'
set_option maxRecDepth 100000 in
set_option maxHeartbeats 12800000 in
theorem run0_any {f : FuncId} {G : List Nat} {I : List (JV × JP.PS) → World → Prop} {w0 : World} (enter : ∀ (a : Array Value) (w : World), (callFunc f a).run Tryz.prog w = .ok (.enter f a) w)
    (hI : ∀ d w w', I d w → Below w.heap.size w w' → I d w') (hG : ∀ b ∈ G, w0.heap.size ≤ b) (hoff : ∀ d w n v x, I d w → JvAt n [] w v x → JvAt n G w v x) (clo : Sees f #[] G I w0)
    (d : ByteArray) (ov : Value) (L : List GOp) (w : World) (hd : d.size ≤ 1048576) (hb0 : Below w0.heap.size w0 w) (hL : RowAt OpR 4 w0 ov L) (hll : L.length ≤ 1048576) (hok : ∀ g ∈ L, OpOK g) (hE : Env w0) (h0 : I [] w) :
    Calls Tryz.prog 38 #[.string d, ov, .func (.func f) #[] #[]] w (RunAt G I w0 (JP.runO d.data.toList (L.map toPO)) (JP.seenP (L.map toPO) (JP.readL d.data.toList).1)) := by
  have HRd := Lib.hid (read_any d w hd)
  obtain ⟨ao, co, e1, _⟩ := hL.len
  subst e1
  have HLr := Lib.hid hL
  have HI := Lib.hid hI
  have Hoff := Lib.hid hoff
  have HC := Lib.hid clo
  have Hok := Lib.hid hok
  have HE := Lib.hid hE
  have HI0 := Lib.hid h0
  have HB0 := Lib.hid hb0
  have ep := enter
  obtain ⟨R, hR⟩ : ∃ R, JP.runO d.data.toList (L.map toPO) = R := ⟨_, rfl⟩
  rw [hR]
  unfold JP.runO at hR
  rw [List.length_map] at hR
  obtain ⟨S, hS⟩ : ∃ S, JP.seenP (L.map toPO) (JP.readL d.data.toList).1 = S := ⟨_, rfl⟩
  rw [hS]
  obtain ⟨x0, er, hrd⟩ : ∃ x e, JP.readL d.data.toList = (x, e) := ⟨_, _, rfl⟩
  rw [hrd] at HRd hR hS
  dsimp only at hR hS HRd
  have hfit : er = 0 → JP.Fit x0 := fun e => JP.read_fit (a := d.data.toList) (by rw [hrd, e])
  obtain ⟨ln, hln⟩ : ∃ ln, L.length = ln := ⟨_, rfl⟩
  have HLr : Hid (RowAt OpR 4 w0 (.slice ao ln co) L) := Lib.hid (by rw [← hln]; exact HLr.out)
  rw [hln] at hR hll ⊢
  have Hln := Lib.hid hln
  clear hL hI hoff clo hok hE h0 hb0 enter hrd hd hln
  by_cases he : er = 0
  · subst he
    rw [if_neg (by simp)] at hR
    have Hfit := Lib.hid (hfit rfl)
    clear hfit
    by_cases hl : 40 < ln
    · rw [if_pos hl] at hR
      have q1 : (40 : Int) < (ln : Int) := by omega
      have HR : Hid (R = (2, 0, .nul)) := Lib.hid hR.symm
      clear hR hS hl
      go_enter Tryz.func38, Tryz.ntmps38
      go_wp2_with fail
      refine HRd.out.mono ?_
      rintro E w1 ⟨v0, rfl, hj, hb⟩
      have HB1 := Lib.hid (HB0.out.trans (hb.mono HB0.out.size))
      clear hb hj
      go_wp2_with fail
      go_ret3
      exact .no (by rw [HR.out]) (by rw [HR.out]; rfl) (by decide) HB1.out
    · rw [if_neg hl] at hR
      have q1 : ¬ (40 : Int) < (ln : Int) := by omega
      have HRun := Lib.hid hR
      have HS := Lib.hid hS
      have hl2 : ln ≤ 40 := by omega
      clear hR hS hl
      go_enter Tryz.func38, Tryz.ntmps38
      go_wp2_with fail
      refine HRd.out.mono ?_
      rintro E w1 ⟨v0, rfl, ⟨n0, hj⟩, hb⟩
      have HB1 := Lib.hid (HB0.out.trans (hb.mono HB0.out.size))
      have HI1 := Lib.hid (HI.out _ _ _ HI0.out hb)
      have HJ0 := Lib.hid hj
      clear hb hj
      go_wp2_with fail
      go_loopg [29, 9] ln (fun k u29 u9 wr => ∃ (i n : Nat) (x : JV) (dn : List (JV × JP.PS)), i + k = ln ∧ u29 = .int .i64 (i : Int) ∧ Hid (JvAt n [] wr u9 x) ∧ Hid (JP.Fit x) ∧ Hid (JP.runP ((L.map toPO).drop i) x i = R) ∧ Hid (dn ++ JP.seenP ((L.map toPO).drop i) x = S) ∧ Hid (I dn wr) ∧ Hid (Below w0.heap.size w0 wr) ∧ Hid (dn.length ≤ i))
      case atStart => exact ⟨0, n0, x0, [], by omega, rfl, HJ0, Hfit, Lib.hid (by rw [List.drop_zero]; exact HRun.out), Lib.hid (by rw [List.drop_zero]; exact HS.out), HI1, HB1, Lib.hid (Nat.le_refl 0)⟩
      case round =>
        obtain ⟨i, n, x, dn, hik, rfl, HJ, HF, HRu, HSn, HIr, HB, Hdn⟩ := hrel
        cases gk with
        | zero =>
          have hil : i = ln := by omega
          subst hil
          have q2 : ¬ (i : Int) < (i : Int) := by omega
          have hnil : (L.map toPO).drop i = [] := List.drop_of_length_le (by rw [List.length_map, Hln.out]; omega)
          have HR2 : Hid (R = (0, i, x)) := Lib.hid (by rw [← HRu.out, hnil, JP.runP])
          have HS2 : Hid (S = dn) := Lib.hid (by rw [← HSn.out, hnil, JP.seenP, List.append_nil])
          clear hnil
          go_wp2_with fail
          go_ret3
          exact .yes (by rw [HR2.out]) (by rw [HR2.out]) ⟨n, by rw [HR2.out]; exact Hoff.out _ _ _ _ _ HIr.out HJ.out⟩ (by rw [HS2.out]; exact HIr.out) HB.out
        | succ k =>
          have hil : i < ln := by omega
          obtain ⟨g, hgi⟩ : ∃ g, L[i]? = some g := ⟨L[i]'(by rw [Hln.out]; exact hil), List.getElem?_eq_getElem _⟩
          obtain ⟨b, off, c', hv, _, _, hbs, hcell⟩ := HLr.out.form (by rw [Hln.out]; omega) (by omega)
          injection hv with u1 u2 u3
          subst u1
          clear u2 u3
          obtain ⟨ds, _, hcc, hRd⟩ := hcell i g hgi
          obtain ⟨hds, _⟩ := hRd
          subst hds
          have e0 : wr.cell? ⟨b, off + i * 4, none⟩ = some (.int .i64 g.kind) := (HB.out.cell (p := ⟨b, _, none⟩) hbs).trans (by simpa using hcc 0 _ rfl)
          have e1 : wr.cell? ⟨b, off + i * 4 + 1, none⟩ = some (.string g.path) := (HB.out.cell (p := ⟨b, _, none⟩) hbs).trans (hcc 1 _ rfl)
          have e2 : wr.cell? ⟨b, off + i * 4 + 2, none⟩ = some (.string g.from_) := (HB.out.cell (p := ⟨b, _, none⟩) hbs).trans (hcc 2 _ rfl)
          have e3 : wr.cell? ⟨b, off + i * 4 + 3, none⟩ = some (.string g.value) := (HB.out.cell (p := ⟨b, _, none⟩) hbs).trans (hcc 3 _ rfl)
          have q3 : (0 : Int) ≤ (i : Int) := by omega
          have q2 : (i : Int) < (ln : Int) := by omega
          have hdrop : (L.map toPO).drop i = toPO g :: (L.map toPO).drop (i + 1) := by
            have h9 : (L.map toPO)[i]? = some (toPO g) := by rw [List.getElem?_map, hgi]; rfl
            obtain ⟨g1, g2⟩ := List.getElem?_eq_some_iff.1 h9
            rw [List.drop_eq_getElem_cons g1, g2]
          have Hg := Lib.hid (Hok.out g (List.mem_of_getElem? hgi))
          have HRu2 : Hid ((if (JP.stepP (toPO g) x).1 = 0 then JP.runP ((L.map toPO).drop (i + 1)) (JP.stepP (toPO g) x).2 (i + 1) else ((JP.stepP (toPO g) x).1, i, .nul)) = R) := Lib.hid (by rw [← HRu.out, hdrop, JP.runP])
          have HSn2 : Hid ((JP.stepP (toPO g) x).1 = 0 → (dn ++ [(x, (JP.readO (toPO g)).2)]) ++ JP.seenP ((L.map toPO).drop (i + 1)) (JP.stepP (toPO g) x).2 = S) := Lib.hid (fun h => by rw [← HSn.out, hdrop, JP.seenP, if_pos h, List.append_assoc]; rfl)
          clear hcc hcell hgi hdrop hbs
          go_upto_region 9 with fail
          obtain ⟨W, hW⟩ : ∃ W, W = wr.alloc (.cells #[.int .i64 g.kind, .string g.path, .string g.from_, .string g.value] 41) := ⟨_, rfl⟩
          obtain ⟨gb, hgb⟩ : ∃ gb, gb = wr.heap.size := ⟨_, rfl⟩
          rw [← hW, ← hgb]
          have c0 : W.heap[gb]? = some (.cells #[.int .i64 g.kind, .string g.path, .string g.from_, .string g.value] 41 (0, 0)) := by rw [hW, hgb]; exact heap_alloc_new wr _
          have hb5 : Below wr.heap.size wr W := by rw [hW]; exact (Below.refl _ _).alloc (Nat.le_refl _) _
          have HBW := Lib.hid (HB.out.trans (hb5.mono HB.out.size))
          have HIW := Lib.hid (HI.out _ _ _ HIr.out hb5)
          have HJW := Lib.hid (HJ.out.below hb5)
          have cc := fun i => cell_block c0 i
          clear hW hgb hb5 c0 e0 e1 e2 e3
          have HPr := Lib.hid (pread_any g.kind g.path g.from_ g.value W Hg.out.1 Hg.out.2.1 Hg.out.2.2 (HE.out.below HBW.out))
          obtain ⟨r1, s, hr⟩ : ∃ r s, JP.readO (toPO g) = (r, s) := ⟨_, _, rfl⟩
          have hkd : s.kind = g.kind := by have := readO_kd (o := toPO g); rw [hr] at this; exact this
          have hr' : JP.readO ⟨g.kind, g.path.data.toList, g.from_.data.toList, g.value.data.toList⟩ = (r1, s) := hr
          rw [hr'] at HPr
          go_wp2_with fail
          refine HPr.out.mono ?_
          rintro E w4 ⟨s1, s2, s3, rfl, hst, ones, hb⟩
          have HB4 := Lib.hid (HBW.out.trans (hb.mono HBW.out.size))
          have HI4 := Lib.hid (HI.out _ _ _ HIW.out hb)
          have HJ4 := Lib.hid (HJW.out.below hb)
          have hst4 := Lib.hid hst
          obtain ⟨o1, o2, o3⟩ := ones
          clear hb cc HPr hst
          go_wp2_with (refine wpList_store_box (by rfl) _ _ _ (by rfl) w4.heap.size #[.int .i64 g.kind, s1, s2, s3] (by rfl) (by rfl) _ _ (by exact heap_alloc_new w4 _) (by exact Tryz.sizeStep) (by rfl) (by exact one4 rfl o1 o2 o3) ?_)
          intro W5 bx tx
          have hb5 : Below w4.heap.size w4 W5 := tx.below ((Below.refl _ w4).alloc (Nat.le_refl _) _) (Nat.le_refl _)
          have hs5 := HB4.out.size
          obtain ⟨gx, hgx⟩ : ∃ gx, w4.heap.size = gx := ⟨_, rfl⟩
          have HB5 := Lib.hid (HB4.out.trans (hb5.mono HB4.out.size))
          have HI5 := Lib.hid (HI.out _ _ _ HI4.out hb5)
          have HJ5 := Lib.hid (HJ4.out.below hb5)
          have hst5 : r1 = 0 → StepAt W5 s1 s2 s3 s := fun h => by
            obtain ⟨p1, p2, n3, p3⟩ := hst4.out h
            exact ⟨p1.below hb5, p2.below hb5, n3, p3.below hb5⟩
          have Hst5 := Lib.hid hst5
          rw [hgx] at bx ⊢
          have Bx := Lib.hid bx
          clear hb5 hs5 tx hst5 hst4 HI4 HJ4 hgx bx
          by_cases hr1 : r1 = 0
          · subst hr1
            obtain ⟨kd, pa, fr, val⟩ := s
            have hkd : kd = g.kind := hkd
            subst hkd
            have hok2 : JP.PSOK ⟨g.kind, pa, fr, val⟩ 1048576 := by
              have := JP.readO_ok (o := toPO g) (B := 1048576) (by rw [hr]) (by show g.path.data.toList.length ≤ _; rw [list_size]; exact Hg.out.1) (by show g.from_.data.toList.length ≤ _; rw [list_size]; exact Hg.out.2.1)
              rw [hr] at this
              exact this
            have hkk : 1 ≤ g.kind ∧ g.kind ≤ 6 := by
              have := JP.readO_kind (o := toPO g) (by rw [hr])
              rw [hr] at this
              exact this
            have HDo := Lib.hid (pdo_any g.kind pa fr val x s1 s2 s3 u9 n W5 (Hst5.out rfl) hok2 HJ5.out HF.out (HE.out.below HB5.out) hkk)
            have hstep : JP.stepP (toPO g) x = if (JP.doP ⟨g.kind, pa, fr, val⟩ x).1 ≠ 0 then ((JP.doP ⟨g.kind, pa, fr, val⟩ x).1, .nul) else (JP.tellE (JP.doP ⟨g.kind, pa, fr, val⟩ x).2, (JP.doP ⟨g.kind, pa, fr, val⟩ x).2) := by
              unfold JP.stepP
              rw [hr, if_neg (by simp)]
            have hdl := fun h => JP.doP_len hok2 HF.out h
            obtain ⟨d1, y, hdo⟩ : ∃ a b, JP.doP ⟨g.kind, pa, fr, val⟩ x = (a, b) := ⟨_, _, rfl⟩
            rw [hdo] at HDo hstep hdl
            dsimp only at hstep hdl
            have Hdo := Lib.hid hdo
            have Hok2 := Lib.hid hok2
            have Hkk := Lib.hid hkk
            have Hr2 : Hid ((JP.readO (toPO g)).2 = ⟨g.kind, pa, fr, val⟩) := Lib.hid (by rw [hr])
            clear hok2 hkk hdo hr hr' hkd
            go_wp2_with (refine wpList_load_row (by rfl) _ _ (by rfl) gx (by rfl) _ _ _ _ (by exact Bx.out) Tryz.underlying71 rfl (by exact Tryz.sizeStep) ?_)
            refine HDo.out.mono ?_
            rintro E w6 ⟨u, rfl, hz, hb⟩
            have HB6 := Lib.hid (HB5.out.trans (hb.mono HB5.out.size))
            have HI6 := Lib.hid (HI.out _ _ _ HI5.out hb)
            have HJ6 := Lib.hid (HJ5.out.below hb)
            have Bx6 := Lib.hid (below_block hb Bx.out)
            have Hst6 : Hid (StepAt w6 s1 s2 s3 ⟨g.kind, pa, fr, val⟩) := Lib.hid (by
              obtain ⟨p1, p2, n3, p3⟩ := Hst5.out trivial
              exact ⟨p1.below hb, p2.below hb, n3, p3.below hb⟩)
            have Hz := Lib.hid hz
            clear hb hz HDo Bx Hst5
            by_cases hd1 : d1 = 0
            · subst hd1
              rw [if_neg (by simp)] at hstep
              obtain ⟨ky, hjy⟩ := Hz.out rfl
              obtain ⟨hwy, hly⟩ := hdl rfl
              have HTl := Lib.hid (tell_any ky u y w6 hjy (by omega) (by have := JP.size_le_len y; omega) (HE.out.below HB6.out).1)
              have Hjy := Lib.hid hjy
              obtain ⟨te, hte⟩ : ∃ te, JP.tellE y = te := ⟨_, rfl⟩
              obtain ⟨tt, htt⟩ : ∃ te, JP.tellT y = te := ⟨_, rfl⟩
              rw [hte, htt] at HTl
              rw [hte] at hstep
              have Hte := Lib.hid hte
              have Hwy := Lib.hid hwy
              rw [hstep] at HRu2 HSn2
              clear hte htt hstep hjy hwy hly hdl Hz
              go_wp2_with fail
              refine HTl.out.mono ?_
              rintro E w7 ⟨rfl, hb⟩
              have HB7 := Lib.hid (HB6.out.trans (hb.mono HB6.out.size))
              have HI7 := Lib.hid (HI.out _ _ _ HI6.out hb)
              have HJ7 := Lib.hid (HJ6.out.below hb)
              have Bx7 := Lib.hid (below_block hb Bx6.out)
              have Hst7 : Hid (StepAt w7 s1 s2 s3 ⟨g.kind, pa, fr, val⟩) := Lib.hid (by
                obtain ⟨p1, p2, n3, p3⟩ := Hst6.out
                exact ⟨p1.below hb, p2.below hb, n3, p3.below hb⟩)
              have Hjy7 := Lib.hid (Hjy.out.below hb)
              clear hb HTl Bx6 Hst6 Hjy
              by_cases ht0 : te = 0
              · subst ht0
                have HFy := Lib.hid (JP.tell_ok Hwy.out Hte.out).1
                have HRu3 : Hid (JP.runP ((L.map toPO).drop (i + 1)) y (i + 1) = R) := Lib.hid (by rw [← HRu2.out, if_pos rfl])
                have HSn3 : Hid ((dn ++ [(x, ⟨g.kind, pa, fr, val⟩)]) ++ JP.seenP ((L.map toPO).drop (i + 1)) y = S) := Lib.hid (by have := HSn2.out rfl; rw [Hr2.out] at this; exact this)
                have HCl := Lib.hid (HC.out dn x g.kind pa fr val u9 s1 s2 s3 n w7 HI7.out HJ7.out HF.out Hst7.out Hok2.out Hkk.out (by rw [Hdo.out]) HB7.out (by have := Hdn.out; omega))
                clear HRu2 HSn2 Hst7
                go_wp2_with (refine wpList_load_row (by rfl) _ _ (by rfl) gx (by rfl) _ _ _ _ (by exact Bx7.out) Tryz.underlying71 rfl (by exact Tryz.sizeStep) ?_)
                refine HCl.out.mono ?_
                rintro E w8 ⟨rfl, hi8, hk8, hb8⟩
                have HI8 := Lib.hid hi8
                have HB8 := Lib.hid hb8
                have HJ8 := Lib.hid (((Hoff.out _ _ _ _ _ HI7.out Hjy7.out).keepT hk8).fresh (T' := []) (fun b hb => by cases hb))
                clear hi8 hk8 hb8 HCl Bx7
                go_wp2_with fail
                go_roundg k
                case measure => omega
                case rel => exact ⟨i + 1, ky, y, dn ++ [(x, ⟨g.kind, pa, fr, val⟩)], by omega, by go_num, HJ8, HFy, HRu3, HSn3, HI8, HB8, Lib.hid (by rw [List.length_append]; have := Hdn.out; show _ + 1 ≤ _; omega)⟩
              · have n1 : (te != 0) = true := by rw [bne_iff_ne]; exact ht0
                have HR2 : Hid (R = (te, i, .nul)) := Lib.hid (by rw [← HRu2.out, if_neg ht0])
                have Hne := Lib.hid ht0
                clear ht0
                go_wp2_with fail
                go_ret3
                exact .no (by rw [HR2.out]) (by rw [HR2.out]) Hne.out HB7.out
            · rw [if_pos hd1] at hstep
              have n1 : (d1 == 0) = false := by rw [beq_eq_false_iff_ne]; exact hd1
              have n2 : (d1 != 0) = true := by rw [bne_iff_ne]; exact hd1
              have HR2 : Hid (R = (d1, i, .nul)) := Lib.hid (by rw [← HRu2.out, hstep, if_neg hd1])
              have Hne := Lib.hid hd1
              clear hd1 hstep hdl
              go_wp2_with fail
              go_ret3
              exact .no (by rw [HR2.out]) (by rw [HR2.out]) Hne.out HB6.out
          · have n1 : (r1 != 0) = true := by rw [bne_iff_ne]; exact hr1
            have hstep : JP.stepP (toPO g) x = (r1, .nul) := by
              unfold JP.stepP
              rw [hr, if_pos hr1]
            have HR2 : Hid (R = (r1, i, .nul)) := Lib.hid (by rw [← HRu2.out, hstep, if_neg hr1])
            have Hne := Lib.hid hr1
            clear hr1 hstep hr hr' hkd
            go_wp2_with fail
            go_ret3
            exact .no (by rw [HR2.out]) (by rw [HR2.out]) Hne.out HB5.out
  · have n0 : (er != 0) = true := by rw [bne_iff_ne]; exact he
    rw [if_pos he] at hR
    have HR : Hid (R = (er, 0, .nul)) := Lib.hid hR.symm
    have Hne := Lib.hid he
    clear hR hS he hfit
    go_enter Tryz.func38, Tryz.ntmps38
    go_wp2_with fail
    refine HRd.out.mono ?_
    rintro E w1 ⟨v0, rfl, hj, hb⟩
    have HB1 := Lib.hid (HB0.out.trans (hb.mono HB0.out.size))
    clear hb hj
    go_wp2_with fail
    go_ret3
    exact .no (by rw [HR.out]) (by rw [HR.out]; rfl) Hne.out HB1.out
set_option maxRecDepth 100000 in
set_option maxHeartbeats 12800000 in
theorem run1_any {f : FuncId} {cap : Value} {G : List Nat} {I : List (JV × JP.PS) → World → Prop} {w0 : World} (enter : ∀ (a : Array Value) (w : World), (callFunc f a).run Tryz.prog w = .ok (.enter f a) w)
    (hI : ∀ d w w', I d w → Below w.heap.size w w' → I d w') (hG : ∀ b ∈ G, w0.heap.size ≤ b) (hoff : ∀ d w n v x, I d w → JvAt n [] w v x → JvAt n G w v x) (clo : Sees f #[cap] G I w0)
    (d : ByteArray) (ov : Value) (L : List GOp) (w : World) (hd : d.size ≤ 1048576) (hb0 : Below w0.heap.size w0 w) (hL : RowAt OpR 4 w0 ov L) (hll : L.length ≤ 1048576) (hok : ∀ g ∈ L, OpOK g) (hE : Env w0) (h0 : I [] w) :
    Calls Tryz.prog 38 #[.string d, ov, .func (.func f) #[] #[cap]] w (RunAt G I w0 (JP.runO d.data.toList (L.map toPO)) (JP.seenP (L.map toPO) (JP.readL d.data.toList).1)) := by
  have HRd := Lib.hid (read_any d w hd)
  obtain ⟨ao, co, e1, _⟩ := hL.len
  subst e1
  have HLr := Lib.hid hL
  have HI := Lib.hid hI
  have Hoff := Lib.hid hoff
  have HC := Lib.hid clo
  have Hok := Lib.hid hok
  have HE := Lib.hid hE
  have HI0 := Lib.hid h0
  have HB0 := Lib.hid hb0
  have ep := enter
  obtain ⟨R, hR⟩ : ∃ R, JP.runO d.data.toList (L.map toPO) = R := ⟨_, rfl⟩
  rw [hR]
  unfold JP.runO at hR
  rw [List.length_map] at hR
  obtain ⟨S, hS⟩ : ∃ S, JP.seenP (L.map toPO) (JP.readL d.data.toList).1 = S := ⟨_, rfl⟩
  rw [hS]
  obtain ⟨x0, er, hrd⟩ : ∃ x e, JP.readL d.data.toList = (x, e) := ⟨_, _, rfl⟩
  rw [hrd] at HRd hR hS
  dsimp only at hR hS HRd
  have hfit : er = 0 → JP.Fit x0 := fun e => JP.read_fit (a := d.data.toList) (by rw [hrd, e])
  obtain ⟨ln, hln⟩ : ∃ ln, L.length = ln := ⟨_, rfl⟩
  have HLr : Hid (RowAt OpR 4 w0 (.slice ao ln co) L) := Lib.hid (by rw [← hln]; exact HLr.out)
  rw [hln] at hR hll ⊢
  have Hln := Lib.hid hln
  clear hL hI hoff clo hok hE h0 hb0 enter hrd hd hln
  by_cases he : er = 0
  · subst he
    rw [if_neg (by simp)] at hR
    have Hfit := Lib.hid (hfit rfl)
    clear hfit
    by_cases hl : 40 < ln
    · rw [if_pos hl] at hR
      have q1 : (40 : Int) < (ln : Int) := by omega
      have HR : Hid (R = (2, 0, .nul)) := Lib.hid hR.symm
      clear hR hS hl
      go_enter Tryz.func38, Tryz.ntmps38
      go_wp2_with fail
      refine HRd.out.mono ?_
      rintro E w1 ⟨v0, rfl, hj, hb⟩
      have HB1 := Lib.hid (HB0.out.trans (hb.mono HB0.out.size))
      clear hb hj
      go_wp2_with fail
      go_ret3
      exact .no (by rw [HR.out]) (by rw [HR.out]; rfl) (by decide) HB1.out
    · rw [if_neg hl] at hR
      have q1 : ¬ (40 : Int) < (ln : Int) := by omega
      have HRun := Lib.hid hR
      have HS := Lib.hid hS
      have hl2 : ln ≤ 40 := by omega
      clear hR hS hl
      go_enter Tryz.func38, Tryz.ntmps38
      go_wp2_with fail
      refine HRd.out.mono ?_
      rintro E w1 ⟨v0, rfl, ⟨n0, hj⟩, hb⟩
      have HB1 := Lib.hid (HB0.out.trans (hb.mono HB0.out.size))
      have HI1 := Lib.hid (HI.out _ _ _ HI0.out hb)
      have HJ0 := Lib.hid hj
      clear hb hj
      go_wp2_with fail
      go_loopg [29, 9] ln (fun k u29 u9 wr => ∃ (i n : Nat) (x : JV) (dn : List (JV × JP.PS)), i + k = ln ∧ u29 = .int .i64 (i : Int) ∧ Hid (JvAt n [] wr u9 x) ∧ Hid (JP.Fit x) ∧ Hid (JP.runP ((L.map toPO).drop i) x i = R) ∧ Hid (dn ++ JP.seenP ((L.map toPO).drop i) x = S) ∧ Hid (I dn wr) ∧ Hid (Below w0.heap.size w0 wr) ∧ Hid (dn.length ≤ i))
      case atStart => exact ⟨0, n0, x0, [], by omega, rfl, HJ0, Hfit, Lib.hid (by rw [List.drop_zero]; exact HRun.out), Lib.hid (by rw [List.drop_zero]; exact HS.out), HI1, HB1, Lib.hid (Nat.le_refl 0)⟩
      case round =>
        obtain ⟨i, n, x, dn, hik, rfl, HJ, HF, HRu, HSn, HIr, HB, Hdn⟩ := hrel
        cases gk with
        | zero =>
          have hil : i = ln := by omega
          subst hil
          have q2 : ¬ (i : Int) < (i : Int) := by omega
          have hnil : (L.map toPO).drop i = [] := List.drop_of_length_le (by rw [List.length_map, Hln.out]; omega)
          have HR2 : Hid (R = (0, i, x)) := Lib.hid (by rw [← HRu.out, hnil, JP.runP])
          have HS2 : Hid (S = dn) := Lib.hid (by rw [← HSn.out, hnil, JP.seenP, List.append_nil])
          clear hnil
          go_wp2_with fail
          go_ret3
          exact .yes (by rw [HR2.out]) (by rw [HR2.out]) ⟨n, by rw [HR2.out]; exact Hoff.out _ _ _ _ _ HIr.out HJ.out⟩ (by rw [HS2.out]; exact HIr.out) HB.out
        | succ k =>
          have hil : i < ln := by omega
          obtain ⟨g, hgi⟩ : ∃ g, L[i]? = some g := ⟨L[i]'(by rw [Hln.out]; exact hil), List.getElem?_eq_getElem _⟩
          obtain ⟨b, off, c', hv, _, _, hbs, hcell⟩ := HLr.out.form (by rw [Hln.out]; omega) (by omega)
          injection hv with u1 u2 u3
          subst u1
          clear u2 u3
          obtain ⟨ds, _, hcc, hRd⟩ := hcell i g hgi
          obtain ⟨hds, _⟩ := hRd
          subst hds
          have e0 : wr.cell? ⟨b, off + i * 4, none⟩ = some (.int .i64 g.kind) := (HB.out.cell (p := ⟨b, _, none⟩) hbs).trans (by simpa using hcc 0 _ rfl)
          have e1 : wr.cell? ⟨b, off + i * 4 + 1, none⟩ = some (.string g.path) := (HB.out.cell (p := ⟨b, _, none⟩) hbs).trans (hcc 1 _ rfl)
          have e2 : wr.cell? ⟨b, off + i * 4 + 2, none⟩ = some (.string g.from_) := (HB.out.cell (p := ⟨b, _, none⟩) hbs).trans (hcc 2 _ rfl)
          have e3 : wr.cell? ⟨b, off + i * 4 + 3, none⟩ = some (.string g.value) := (HB.out.cell (p := ⟨b, _, none⟩) hbs).trans (hcc 3 _ rfl)
          have q3 : (0 : Int) ≤ (i : Int) := by omega
          have q2 : (i : Int) < (ln : Int) := by omega
          have hdrop : (L.map toPO).drop i = toPO g :: (L.map toPO).drop (i + 1) := by
            have h9 : (L.map toPO)[i]? = some (toPO g) := by rw [List.getElem?_map, hgi]; rfl
            obtain ⟨g1, g2⟩ := List.getElem?_eq_some_iff.1 h9
            rw [List.drop_eq_getElem_cons g1, g2]
          have Hg := Lib.hid (Hok.out g (List.mem_of_getElem? hgi))
          have HRu2 : Hid ((if (JP.stepP (toPO g) x).1 = 0 then JP.runP ((L.map toPO).drop (i + 1)) (JP.stepP (toPO g) x).2 (i + 1) else ((JP.stepP (toPO g) x).1, i, .nul)) = R) := Lib.hid (by rw [← HRu.out, hdrop, JP.runP])
          have HSn2 : Hid ((JP.stepP (toPO g) x).1 = 0 → (dn ++ [(x, (JP.readO (toPO g)).2)]) ++ JP.seenP ((L.map toPO).drop (i + 1)) (JP.stepP (toPO g) x).2 = S) := Lib.hid (fun h => by rw [← HSn.out, hdrop, JP.seenP, if_pos h, List.append_assoc]; rfl)
          clear hcc hcell hgi hdrop hbs
          go_upto_region 9 with fail
          obtain ⟨W, hW⟩ : ∃ W, W = wr.alloc (.cells #[.int .i64 g.kind, .string g.path, .string g.from_, .string g.value] 41) := ⟨_, rfl⟩
          obtain ⟨gb, hgb⟩ : ∃ gb, gb = wr.heap.size := ⟨_, rfl⟩
          rw [← hW, ← hgb]
          have c0 : W.heap[gb]? = some (.cells #[.int .i64 g.kind, .string g.path, .string g.from_, .string g.value] 41 (0, 0)) := by rw [hW, hgb]; exact heap_alloc_new wr _
          have hb5 : Below wr.heap.size wr W := by rw [hW]; exact (Below.refl _ _).alloc (Nat.le_refl _) _
          have HBW := Lib.hid (HB.out.trans (hb5.mono HB.out.size))
          have HIW := Lib.hid (HI.out _ _ _ HIr.out hb5)
          have HJW := Lib.hid (HJ.out.below hb5)
          have cc := fun i => cell_block c0 i
          clear hW hgb hb5 c0 e0 e1 e2 e3
          have HPr := Lib.hid (pread_any g.kind g.path g.from_ g.value W Hg.out.1 Hg.out.2.1 Hg.out.2.2 (HE.out.below HBW.out))
          obtain ⟨r1, s, hr⟩ : ∃ r s, JP.readO (toPO g) = (r, s) := ⟨_, _, rfl⟩
          have hkd : s.kind = g.kind := by have := readO_kd (o := toPO g); rw [hr] at this; exact this
          have hr' : JP.readO ⟨g.kind, g.path.data.toList, g.from_.data.toList, g.value.data.toList⟩ = (r1, s) := hr
          rw [hr'] at HPr
          go_wp2_with fail
          refine HPr.out.mono ?_
          rintro E w4 ⟨s1, s2, s3, rfl, hst, ones, hb⟩
          have HB4 := Lib.hid (HBW.out.trans (hb.mono HBW.out.size))
          have HI4 := Lib.hid (HI.out _ _ _ HIW.out hb)
          have HJ4 := Lib.hid (HJW.out.below hb)
          have hst4 := Lib.hid hst
          obtain ⟨o1, o2, o3⟩ := ones
          clear hb cc HPr hst
          go_wp2_with (refine wpList_store_box (by rfl) _ _ _ (by rfl) w4.heap.size #[.int .i64 g.kind, s1, s2, s3] (by rfl) (by rfl) _ _ (by exact heap_alloc_new w4 _) (by exact Tryz.sizeStep) (by rfl) (by exact one4 rfl o1 o2 o3) ?_)
          intro W5 bx tx
          have hb5 : Below w4.heap.size w4 W5 := tx.below ((Below.refl _ w4).alloc (Nat.le_refl _) _) (Nat.le_refl _)
          have hs5 := HB4.out.size
          obtain ⟨gx, hgx⟩ : ∃ gx, w4.heap.size = gx := ⟨_, rfl⟩
          have HB5 := Lib.hid (HB4.out.trans (hb5.mono HB4.out.size))
          have HI5 := Lib.hid (HI.out _ _ _ HI4.out hb5)
          have HJ5 := Lib.hid (HJ4.out.below hb5)
          have hst5 : r1 = 0 → StepAt W5 s1 s2 s3 s := fun h => by
            obtain ⟨p1, p2, n3, p3⟩ := hst4.out h
            exact ⟨p1.below hb5, p2.below hb5, n3, p3.below hb5⟩
          have Hst5 := Lib.hid hst5
          rw [hgx] at bx ⊢
          have Bx := Lib.hid bx
          clear hb5 hs5 tx hst5 hst4 HI4 HJ4 hgx bx
          by_cases hr1 : r1 = 0
          · subst hr1
            obtain ⟨kd, pa, fr, val⟩ := s
            have hkd : kd = g.kind := hkd
            subst hkd
            have hok2 : JP.PSOK ⟨g.kind, pa, fr, val⟩ 1048576 := by
              have := JP.readO_ok (o := toPO g) (B := 1048576) (by rw [hr]) (by show g.path.data.toList.length ≤ _; rw [list_size]; exact Hg.out.1) (by show g.from_.data.toList.length ≤ _; rw [list_size]; exact Hg.out.2.1)
              rw [hr] at this
              exact this
            have hkk : 1 ≤ g.kind ∧ g.kind ≤ 6 := by
              have := JP.readO_kind (o := toPO g) (by rw [hr])
              rw [hr] at this
              exact this
            have HDo := Lib.hid (pdo_any g.kind pa fr val x s1 s2 s3 u9 n W5 (Hst5.out rfl) hok2 HJ5.out HF.out (HE.out.below HB5.out) hkk)
            have hstep : JP.stepP (toPO g) x = if (JP.doP ⟨g.kind, pa, fr, val⟩ x).1 ≠ 0 then ((JP.doP ⟨g.kind, pa, fr, val⟩ x).1, .nul) else (JP.tellE (JP.doP ⟨g.kind, pa, fr, val⟩ x).2, (JP.doP ⟨g.kind, pa, fr, val⟩ x).2) := by
              unfold JP.stepP
              rw [hr, if_neg (by simp)]
            have hdl := fun h => JP.doP_len hok2 HF.out h
            obtain ⟨d1, y, hdo⟩ : ∃ a b, JP.doP ⟨g.kind, pa, fr, val⟩ x = (a, b) := ⟨_, _, rfl⟩
            rw [hdo] at HDo hstep hdl
            dsimp only at hstep hdl
            have Hdo := Lib.hid hdo
            have Hok2 := Lib.hid hok2
            have Hkk := Lib.hid hkk
            have Hr2 : Hid ((JP.readO (toPO g)).2 = ⟨g.kind, pa, fr, val⟩) := Lib.hid (by rw [hr])
            clear hok2 hkk hdo hr hr' hkd
            go_wp2_with (refine wpList_load_row (by rfl) _ _ (by rfl) gx (by rfl) _ _ _ _ (by exact Bx.out) Tryz.underlying71 rfl (by exact Tryz.sizeStep) ?_)
            refine HDo.out.mono ?_
            rintro E w6 ⟨u, rfl, hz, hb⟩
            have HB6 := Lib.hid (HB5.out.trans (hb.mono HB5.out.size))
            have HI6 := Lib.hid (HI.out _ _ _ HI5.out hb)
            have HJ6 := Lib.hid (HJ5.out.below hb)
            have Bx6 := Lib.hid (below_block hb Bx.out)
            have Hst6 : Hid (StepAt w6 s1 s2 s3 ⟨g.kind, pa, fr, val⟩) := Lib.hid (by
              obtain ⟨p1, p2, n3, p3⟩ := Hst5.out trivial
              exact ⟨p1.below hb, p2.below hb, n3, p3.below hb⟩)
            have Hz := Lib.hid hz
            clear hb hz HDo Bx Hst5
            by_cases hd1 : d1 = 0
            · subst hd1
              rw [if_neg (by simp)] at hstep
              obtain ⟨ky, hjy⟩ := Hz.out rfl
              obtain ⟨hwy, hly⟩ := hdl rfl
              have HTl := Lib.hid (tell_any ky u y w6 hjy (by omega) (by have := JP.size_le_len y; omega) (HE.out.below HB6.out).1)
              have Hjy := Lib.hid hjy
              obtain ⟨te, hte⟩ : ∃ te, JP.tellE y = te := ⟨_, rfl⟩
              obtain ⟨tt, htt⟩ : ∃ te, JP.tellT y = te := ⟨_, rfl⟩
              rw [hte, htt] at HTl
              rw [hte] at hstep
              have Hte := Lib.hid hte
              have Hwy := Lib.hid hwy
              rw [hstep] at HRu2 HSn2
              clear hte htt hstep hjy hwy hly hdl Hz
              go_wp2_with fail
              refine HTl.out.mono ?_
              rintro E w7 ⟨rfl, hb⟩
              have HB7 := Lib.hid (HB6.out.trans (hb.mono HB6.out.size))
              have HI7 := Lib.hid (HI.out _ _ _ HI6.out hb)
              have HJ7 := Lib.hid (HJ6.out.below hb)
              have Bx7 := Lib.hid (below_block hb Bx6.out)
              have Hst7 : Hid (StepAt w7 s1 s2 s3 ⟨g.kind, pa, fr, val⟩) := Lib.hid (by
                obtain ⟨p1, p2, n3, p3⟩ := Hst6.out
                exact ⟨p1.below hb, p2.below hb, n3, p3.below hb⟩)
              have Hjy7 := Lib.hid (Hjy.out.below hb)
              clear hb HTl Bx6 Hst6 Hjy
              by_cases ht0 : te = 0
              · subst ht0
                have HFy := Lib.hid (JP.tell_ok Hwy.out Hte.out).1
                have HRu3 : Hid (JP.runP ((L.map toPO).drop (i + 1)) y (i + 1) = R) := Lib.hid (by rw [← HRu2.out, if_pos rfl])
                have HSn3 : Hid ((dn ++ [(x, ⟨g.kind, pa, fr, val⟩)]) ++ JP.seenP ((L.map toPO).drop (i + 1)) y = S) := Lib.hid (by have := HSn2.out rfl; rw [Hr2.out] at this; exact this)
                have HCl := Lib.hid (HC.out dn x g.kind pa fr val u9 s1 s2 s3 n w7 HI7.out HJ7.out HF.out Hst7.out Hok2.out Hkk.out (by rw [Hdo.out]) HB7.out (by have := Hdn.out; omega))
                clear HRu2 HSn2 Hst7
                go_wp2_with (refine wpList_load_row (by rfl) _ _ (by rfl) gx (by rfl) _ _ _ _ (by exact Bx7.out) Tryz.underlying71 rfl (by exact Tryz.sizeStep) ?_)
                refine HCl.out.mono ?_
                rintro E w8 ⟨rfl, hi8, hk8, hb8⟩
                have HI8 := Lib.hid hi8
                have HB8 := Lib.hid hb8
                have HJ8 := Lib.hid (((Hoff.out _ _ _ _ _ HI7.out Hjy7.out).keepT hk8).fresh (T' := []) (fun b hb => by cases hb))
                clear hi8 hk8 hb8 HCl Bx7
                go_wp2_with fail
                go_roundg k
                case measure => omega
                case rel => exact ⟨i + 1, ky, y, dn ++ [(x, ⟨g.kind, pa, fr, val⟩)], by omega, by go_num, HJ8, HFy, HRu3, HSn3, HI8, HB8, Lib.hid (by rw [List.length_append]; have := Hdn.out; show _ + 1 ≤ _; omega)⟩
              · have n1 : (te != 0) = true := by rw [bne_iff_ne]; exact ht0
                have HR2 : Hid (R = (te, i, .nul)) := Lib.hid (by rw [← HRu2.out, if_neg ht0])
                have Hne := Lib.hid ht0
                clear ht0
                go_wp2_with fail
                go_ret3
                exact .no (by rw [HR2.out]) (by rw [HR2.out]) Hne.out HB7.out
            · rw [if_pos hd1] at hstep
              have n1 : (d1 == 0) = false := by rw [beq_eq_false_iff_ne]; exact hd1
              have n2 : (d1 != 0) = true := by rw [bne_iff_ne]; exact hd1
              have HR2 : Hid (R = (d1, i, .nul)) := Lib.hid (by rw [← HRu2.out, hstep, if_neg hd1])
              have Hne := Lib.hid hd1
              clear hd1 hstep hdl
              go_wp2_with fail
              go_ret3
              exact .no (by rw [HR2.out]) (by rw [HR2.out]) Hne.out HB6.out
          · have n1 : (r1 != 0) = true := by rw [bne_iff_ne]; exact hr1
            have hstep : JP.stepP (toPO g) x = (r1, .nul) := by
              unfold JP.stepP
              rw [hr, if_pos hr1]
            have HR2 : Hid (R = (r1, i, .nul)) := Lib.hid (by rw [← HRu2.out, hstep, if_neg hr1])
            have Hne := Lib.hid hr1
            clear hr1 hstep hr hr' hkd
            go_wp2_with fail
            go_ret3
            exact .no (by rw [HR2.out]) (by rw [HR2.out]) Hne.out HB5.out
  · have n0 : (er != 0) = true := by rw [bne_iff_ne]; exact he
    rw [if_pos he] at hR
    have HR : Hid (R = (er, 0, .nul)) := Lib.hid hR.symm
    have Hne := Lib.hid he
    clear hR hS he hfit
    go_enter Tryz.func38, Tryz.ntmps38
    go_wp2_with fail
    refine HRd.out.mono ?_
    rintro E w1 ⟨v0, rfl, hj, hb⟩
    have HB1 := Lib.hid (HB0.out.trans (hb.mono HB0.out.size))
    clear hb hj
    go_wp2_with fail
    go_ret3
    exact .no (by rw [HR.out]) (by rw [HR.out]; rfl) Hne.out HB1.out
end Go.Proofs.YtlcongehmjiabaaGreatDoor
/- patch.Apply: its contract. -/
namespace Go.Proofs.YtlcongehmjiabaaGreatDoor
open Go.RowKit
open JP (JV Bs)

theorem sees_none (w0 : World) : Sees 39 #[] [] (fun _ _ => True) w0 := by
  intro d x kd pa fr val vx s1 s2 s3 n w _ _ _ _ _ _ _ hb _
  have HB := Lib.hid hb
  clear hb
  show Calls Tryz.prog 39 #[vx, .agg #[.int .i64 kd, s1, s2, s3]] w _
  go_enter Tryz.func39, Tryz.ntmps39
  go_wp2_with fail
  go_end0
  have h : Below w.heap.size w (w.alloc (.cells #[.int .i64 kd, s1, s2, s3] 71)) := (Below.refl _ w).alloc (Nat.le_refl _) _
  exact ⟨rfl, trivial, KeepT.of h, HB.out.trans (h.mono HB.out.size)⟩
def AppAt (d : Bs) (ops : List JP.PO) (w : World) (e : Ending) (w' : World) : Prop := e = .returned (.tuple #[.string (mkB (JP.applyT d ops)), .int .i64 (JP.applyN d ops : Int), .int .i64 (JP.applyE d ops)]) ∧ Below w.heap.size w w'
set_option maxRecDepth 100000 in
set_option maxHeartbeats 3200000 in
theorem apply_any (d : ByteArray) (ov : Value) (L : List GOp) (w : World) (hd : d.size ≤ 1048576) (hL : RowAt OpR 4 w ov L) (hll : L.length ≤ 1048576) (hok : ∀ g ∈ L, OpOK g) (hE : Env w) :
    Calls Tryz.prog 19 #[.string d, ov] w (AppAt d.data.toList (L.map toPO) w) := by
  have HRn := Lib.hid (fun enter => run0_any (f := 39) (G := []) (I := fun _ _ => True) (w0 := w) enter (fun _ _ _ _ _ => trivial) (fun b h => by cases h) (fun _ _ _ _ _ _ h => h) (sees_none w) d ov L w hd (Below.refl _ _) hL hll hok hE trivial)
  have HEn := Lib.hid hE.1
  obtain ⟨ao, co, e1, _⟩ := hL.len
  subst e1
  obtain ⟨ln, hln⟩ : ∃ ln, L.length = ln := ⟨_, rfl⟩
  rw [hln] at HRn ⊢
  obtain ⟨r1, r2, r3, hR⟩ : ∃ a b c, JP.runO d.data.toList (L.map toPO) = (a, b, c) := ⟨_, _, _, rfl⟩
  have hfit : r1 = 0 → JP.Fit r3 := fun h => by have := JP.runO_fit (d := d.data.toList) (ops := L.map toPO) (by rw [hR]; exact h); rw [hR] at this; exact this
  have hE2 : JP.applyE d.data.toList (L.map toPO) = r1 := by unfold JP.applyE; rw [hR]
  have hN2 : JP.applyN d.data.toList (L.map toPO) = r2 := by unfold JP.applyN; rw [hR]
  have hT2 : JP.applyT d.data.toList (L.map toPO) = if r1 = 0 then JP.text r3 else [] := by unfold JP.applyT; rw [hR]
  rw [hR] at HRn
  unfold AppAt
  rw [hE2, hN2, hT2]
  obtain ⟨S, hS⟩ : ∃ S, JP.seenP (L.map toPO) (JP.readL d.data.toList).1 = S := ⟨_, rfl⟩
  rw [hS] at HRn
  obtain ⟨T, hT⟩ : ∃ T, (if r1 = 0 then JP.text r3 else []) = T := ⟨_, rfl⟩
  rw [hT]
  have HT := Lib.hid hT
  have Hfit := Lib.hid hfit
  clear hR hE2 hN2 hT2 hS hL hok hE hfit hT hd hll hln
  have ep : ∀ (a : Array Value) (w : World), (callFunc 39 a).run Tryz.prog w = .ok (.enter 39 a) w := fun a w => by kernel_rfl
  have HRn2 := Lib.hid (HRn.out ep)
  clear ep HRn
  go_enter Tryz.func19, Tryz.ntmps19
  go_wp2_with fail
  refine HRn2.out.mono ?_
  rintro E w1 ⟨u, rfl, hu, hb⟩
  have HB := Lib.hid hb
  by_cases he : r1 = 0
  · subst he
    obtain ⟨⟨k, hj⟩, _⟩ := hu rfl
    have HX := Lib.hid (text_any k u r3 w1 hj (by have h9 : (JP.text r3).length ≤ 2000 := (Hfit.out rfl).2.2.2; omega) (HEn.out.below hb))
    have HT2 : Hid (JP.text r3 = T) := Lib.hid (by rw [← HT.out, if_pos rfl])
    rw [HT2.out] at HX
    clear hu hj hb
    go_wp2_with fail
    refine HX.out.mono ?_
    rintro E w2 ⟨rfl, hb⟩
    have HB2 := Lib.hid (HB.out.trans (hb.mono HB.out.size))
    clear hb
    go_wp2_with fail
    go_ret3
    exact ⟨rfl, HB2.out⟩
  · have n0 : (r1 != 0) = true := by rw [bne_iff_ne]; exact he
    have HT2 : Hid (T = []) := Lib.hid (by rw [← HT.out, if_neg he])
    clear hu hb he
    go_wp2_with fail
    go_ret3
    exact ⟨by rw [HT2.out]; rfl, HB.out⟩
end Go.Proofs.YtlcongehmjiabaaGreatDoor
/- The reference's Rest: a remainder that is not below zero. -/
namespace Go.Proofs.YtlcongehmjiabaaGreatDoor
open Go.RowKit

def restOf (a b : Int) : Int := if a.tmod b < 0 then a.tmod b + b else a.tmod b
theorem restOf_in {a b : Int} (hb : 0 < b) : 0 ≤ restOf a b ∧ restOf a b < b := by
  have h1 := Int.tmod_lt_of_pos a hb
  have h2 : -b < a.tmod b := by
    have := Int.lt_tmod_of_pos a hb
    omega
  unfold restOf
  split <;> omega
theorem rest_any (a b : Int) (w : World) (hb : 0 < b) (hb2 : b ≤ 1073741824) : Calls Tryz.prog 20 #[.int .i64 a, .int .i64 b] w fun e w' => e = .returned (.int .i64 (restOf a b)) ∧ w = w' := by
  have h1 := Int.tmod_lt_of_pos a hb
  have h2 : -b < a.tmod b := by
    have := Int.lt_tmod_of_pos a hb
    omega
  have hb0 : (b == 0) = false := by rw [beq_eq_false_iff_ne]; omega
  by_cases h : a.tmod b < 0
  · have hr : restOf a b = a.tmod b + b := by unfold restOf; rw [if_pos h]
    have Hr := Lib.hid hr
    have q1 : IntKind.i64.wrap (a.tmod b) = a.tmod b := IntWalk.i64_in _ (by omega)
    have q2 : IntKind.i64.wrap (a.tmod b + b) = a.tmod b + b := IntWalk.i64_in _ (by omega)
    clear hr
    go_enter Tryz.func20, Tryz.ntmps20
    go_wp2_with fail
    go_ret
    exact ⟨congrArg (fun x => Ending.returned (Value.int .i64 x)) Hr.out.symm, rfl⟩
  · have hr : restOf a b = a.tmod b := by unfold restOf; rw [if_neg h]
    have Hr := Lib.hid hr
    have q1 : IntKind.i64.wrap (a.tmod b) = a.tmod b := IntWalk.i64_in _ (by omega)
    clear hr
    go_enter Tryz.func20, Tryz.ntmps20
    go_wp2_with fail
    go_ret
    exact ⟨congrArg (fun x => Ending.returned (Value.int .i64 x)) Hr.out.symm, rfl⟩
end Go.Proofs.YtlcongehmjiabaaGreatDoor
/- The law PatchSplits. -/
namespace Go.Proofs.YtlcongehmjiabaaGreatDoor
open Go.RowKit
open JP (JV Bs)

theorem mem_opB {L : List GOp} {g : GOp} (h : g ∈ L) : opB g ≤ (L.map opB).sum := by
  induction L with
  | nil => cases h
  | cons a r ih =>
    rw [List.map_cons, List.sum_cons]
    rcases List.mem_cons.1 h with rfl | h
    · omega
    · have := ih h; omega
theorem ops_ok {L : List GOp} (h : (L.map opB).sum ≤ 1048576) : (∀ g ∈ L, OpOK g) ∧ L.length ≤ 1048576 := by
  refine ⟨fun g hg => ?_, ?_⟩
  · have := mem_opB hg
    have h2 : g.path.size + g.from_.size + g.value.size ≤ opB g := by unfold opB; omega
    exact ⟨by omega, by omega, by omega⟩
  · have := sum_ge_length opB (fun x => by unfold opB; omega) L
    omega
theorem row_none {α : Type} {R : Rd α} {k : Nat} {w : World} {a : Addr} {n c : Nat} {l : List α} (h0 : l.length = 0) (hn : n = 0) (hc : c ≤ maxLen) : RowAt R k w (.slice (some a) n c) l := by
  obtain rfl := List.eq_nil_of_length_eq_zero h0
  subst hn
  exact .inr ⟨a, c, rfl, Nat.zero_le _, hc, fun j x hx => by rw [List.getElem?_nil] at hx; cases hx⟩
theorem row_drop {α : Type} {R : Rd α} {k : Nat} {w : World} {a : Addr} {c n : Nat} {l : List α} (hk : 0 < k) (h : RowAt R k w (.slice (some a) n c) l) {m : Nat} (hm : m ≤ n) : RowAt R k w (.slice (some (a.add (m * k))) (n - m) (c - m)) (l.drop m) := by
  obtain ⟨a', c', e1, h1, h2⟩ := h.len
  injection e1 with _ e1 e2
  subst e1; subst e2
  by_cases h0 : l.length = 0
  · exact row_none (by rw [List.length_drop]; omega) (by omega) (by omega)
  · obtain ⟨b, o, c', hv, _⟩ := h.form (by omega) hk
    injection hv with e1 e2 e3
    injection e1 with e1
    subst e1
    have := h.cut rfl (i := m) (j := l.length) hm (Nat.le_refl _)
    rw [List.take_length] at this
    have e : (Addr.add ⟨b, o, none⟩ (m * k)) = ⟨b, o + m * k, none⟩ := add_plain' b o (m * k)
    rw [e]
    exact this
/-- the one step that is none -/
theorem one_op {w : World} {b : Nat} {k : Int} {p f v : ByteArray} {t : TypeId} {fr : Nat × Nat} (hk : (Lit.int .i64 k).wf = true) (h : w.heap[b]? = some (.cells #[.int .i64 k, .string p, .string f, .string v] t fr)) : RowAt OpR 4 w (.slice (some ⟨b, 0, none⟩) 1 1) [⟨k, p, f, v⟩] := by
  refine .inr ⟨⟨b, 0, none⟩, 1, rfl, Nat.le_refl 1, by decide, fun j x hx => ?_⟩
  have hj : j = 0 := by
    rcases Nat.eq_zero_or_pos j with h0 | h0
    · exact h0
    · rw [List.getElem?_eq_none (by show 1 ≤ j; exact h0)] at hx; cases hx
  subst hj
  obtain rfl : (⟨k, p, f, v⟩ : GOp) = x := by simpa using hx
  refine ⟨[.int .i64 k, .string p, .string f, .string v], rfl, fun i u hu => ?_, rfl, hk⟩
  have hc := cell_block h i
  rw [show (Addr.add ⟨b, 0, none⟩ (0 * 4 + i)) = ⟨b, i, none⟩ from by simp [Addr.add]; intro h; exact h.symm]
  rw [hc]
  simpa using hu
set_option maxRecDepth 100000 in
set_option maxHeartbeats 6400000 in
theorem patchSplits_walk (d : ByteArray) (ov : Value) (L : List GOp) (at_ : Int) (w : World) (hL : RowAt OpR 4 w ov L) (hat : (Lit.int .i64 at_).wf = true) (hbulk : d.data.toList.length + (L.map opB).sum ≤ 1048576) (hE : Env w) :
    Calls Tryz.prog 7 #[.string d, ov, .int .i64 at_] w fun e w' => e = .returned (.bool true) ∧ Below w.heap.size w w' := by
  obtain ⟨hok, hll⟩ := ops_ok (L := L) (by omega)
  have hd : d.size ≤ 1048576 := by rw [← list_size d]; omega
  obtain ⟨ao, co, e1, hc1, hc2⟩ := hL.len
  subst e1
  have HLr := Lib.hid hL
  obtain ⟨ln, hln⟩ : ∃ ln, L.length = ln := ⟨_, rfl⟩
  rw [hln] at HLr hL hc1 hll ⊢
  have Hln := Lib.hid hln
  have HA := Lib.hid (fun (w' : World) (h : Below w.heap.size w w') => apply_any d _ L w' hd (hL.below stays_op h) (by omega) hok (hE.below h))
  have HCn := Lib.hid (fun (w' : World) (b : Nat) (t : TypeId) (fr : Nat × Nat) (h : Below w.heap.size w w') (hb : w'.heap[b]? = some (.cells #[.int .i64 0, .string ⟨#[]⟩, .string ⟨#[]⟩, .string ⟨#[]⟩] t fr)) => apply_any ⟨#[49]⟩ _ _ w' (by decide) (one_op (by decide) hb) (by decide) (fun g hg => by rw [List.mem_singleton.1 hg]; exact ⟨by decide, by decide, by decide⟩) (hE.below h))
  have hconst : JP.applyE (⟨#[49]⟩ : ByteArray).data.toList (List.map toPO [⟨0, ⟨#[]⟩, ⟨#[]⟩, ⟨#[]⟩⟩]) = 1 := JP.patch_const1
  unfold AppAt at HA HCn
  rw [hconst] at HCn
  obtain ⟨n0, hn0⟩ : ∃ n, JP.applyN (⟨#[49]⟩ : ByteArray).data.toList (List.map toPO [⟨0, ⟨#[]⟩, ⟨#[]⟩, ⟨#[]⟩⟩]) = n := ⟨_, rfl⟩
  obtain ⟨t0, ht0⟩ : ∃ n, JP.applyT (⟨#[49]⟩ : ByteArray).data.toList (List.map toPO [⟨0, ⟨#[]⟩, ⟨#[]⟩, ⟨#[]⟩⟩]) = n := ⟨_, rfl⟩
  rw [hn0, ht0] at HCn
  have Hlaw : Hid (∀ T1 N1 E1, JP.applyT d.data.toList (L.map toPO) = T1 → JP.applyN d.data.toList (L.map toPO) = N1 → JP.applyE d.data.toList (L.map toPO) = E1 → 40 < ln → E1 ≠ 0 ∧ T1 = [] ∧ N1 = 0) := Lib.hid (fun T1 N1 E1 h1 h2 h3 h => by
    have h9 := JP.apply_many (d := d.data.toList) (ops := L.map toPO) (by rw [List.length_map, hln]; exact h)
    rw [h2, h3] at h9
    exact ⟨h9.1, by rw [← h1]; exact JP.applyT_no (by rw [h3]; exact h9.1), h9.2⟩)
  obtain ⟨T1, hT1⟩ : ∃ n, JP.applyT d.data.toList (L.map toPO) = n := ⟨_, rfl⟩
  obtain ⟨N1, hN1⟩ : ∃ n, JP.applyN d.data.toList (L.map toPO) = n := ⟨_, rfl⟩
  obtain ⟨E1, hE1⟩ : ∃ n, JP.applyE d.data.toList (L.map toPO) = n := ⟨_, rfl⟩
  rw [hT1, hN1, hE1] at HA
  have h40 := Hlaw.out T1 N1 E1 hT1 hN1 hE1
  have HT1 := Lib.hid hT1
  have HN1 := Lib.hid hN1
  have HE1 := Lib.hid hE1
  have HEn := Lib.hid hE
  have Hok := Lib.hid hok
  have HB0 := Lib.hid (Below.refl w.heap.size w)
  clear hconst hn0 ht0 hT1 hN1 hE1 Hlaw hE hok hL hbulk hln hat
  go_enter Tryz.func7, Tryz.ntmps7
  go_wp2_with fail
  refine (HA.out w HB0.out).mono ?_
  rintro E w1 ⟨rfl, hb⟩
  have HB1 := Lib.hid hb
  clear hb
  go_wp2_with fail
  have hb2 : Below w1.heap.size w1 (w1.alloc (.cells #[.int .i64 0, .string ⟨#[]⟩, .string ⟨#[]⟩, .string ⟨#[]⟩] 41)) := (Below.refl _ w1).alloc (Nat.le_refl _) _
  refine (HCn.out _ w1.heap.size _ _ (HB1.out.trans (hb2.mono HB1.out.size)) (heap_alloc_new w1 _)).mono ?_
  rintro E w2 ⟨rfl, hb⟩
  have HB2 := Lib.hid ((HB1.out.trans (hb2.mono HB1.out.size)).trans (hb.mono (Nat.le_trans HB1.out.size hb2.size)))
  clear hb hb2
  by_cases hl : 40 < ln
  · obtain ⟨x1, x2, x3⟩ := h40 hl
    have n0 : (E1 != 0) = true := by rw [bne_iff_ne]; exact x1
    have q1 : (40 : Int) < (ln : Int) := by omega
    have t1 : (mkB []).toList.isEmpty = true := by rw [mkB_empty]; rfl
    subst x3
    subst x2
    clear x1 h40 hl
    go_wp2_with fail
    go_ret
    exact ⟨by first | rfl | (rw [t1] <;> rfl), HB2.out⟩
  · have q1 : ¬ (40 : Int) < (ln : Int) := by omega
    have hr := restOf_in (a := at_) (b := (ln : Int) + 1) (by omega)
    have HRt := Lib.hid (fun (w' : World) => rest_any at_ ((ln : Int) + 1) w' (by omega) (by omega))
    obtain ⟨j, hj⟩ : ∃ j : Nat, restOf at_ ((ln : Int) + 1) = j := ⟨(restOf at_ ((ln : Int) + 1)).toNat, by omega⟩
    rw [hj] at HRt hr
    have hjl : j ≤ ln := by omega
    have q2 : IntKind.i64.wrap ((ln : Int) + 1) = (ln : Int) + 1 := IntWalk.i64_in _ (by omega)
    clear hj h40 hr
    go_wp2_with fail
    refine (HRt.out w2).mono ?_
    rintro E w3 ⟨rfl, rfl⟩
    have q3 : (0 : Int) ≤ (j : Int) := by omega
    have q4 : (j : Int) ≤ (co : Int) := by omega
    have q5 : (j : Int) ≤ (ln : Int) := by omega
    obtain ⟨Lx, hLx⟩ : ∃ x, L = x := ⟨_, rfl⟩
    have HA2 := Lib.hid (fun (w' : World) (h : Below w.heap.size w w') => apply_any d _ (L.take j) w' hd ((row_take HLr.out (m := j) (by have := Hln.out; omega)).below stays_op h) (by rw [List.length_take]; omega) (fun g hg => Hok.out g (List.mem_of_mem_take hg)) (HEn.out.below h))
    unfold AppAt at HA2
    obtain ⟨T2, hT2⟩ : ∃ n, JP.applyT d.data.toList ((L.take j).map toPO) = n := ⟨_, rfl⟩
    obtain ⟨N2, hN2⟩ : ∃ n, JP.applyN d.data.toList ((L.take j).map toPO) = n := ⟨_, rfl⟩
    obtain ⟨E2, hE2⟩ : ∃ n, JP.applyE d.data.toList ((L.take j).map toPO) = n := ⟨_, rfl⟩
    rw [hT2, hN2, hE2] at HA2
    clear hLx
    go_wp2_with fail
    refine (HA2.out w2 HB2.out).mono ?_
    rintro E w4 ⟨rfl, hb⟩
    have HB4 := Lib.hid (HB2.out.trans (hb.mono HB2.out.size))
    have lT2 := JP.applyT_len d.data.toList ((L.take j).map toPO)
    rw [hT2] at lT2
    have hsp : L.map toPO = (L.take j).map toPO ++ (L.drop j).map toPO := by rw [← List.map_append, List.take_append_drop]
    have hl40 : ((L.take j).map toPO ++ (L.drop j).map toPO).length ≤ 40 := by rw [← hsp, List.length_map, Hln.out]; omega
    have law1 : E2 ≠ 0 → E1 = E2 ∧ N1 = N2 ∧ T1 = [] ∧ T2 = [] := fun h => by
      obtain ⟨h1, h2⟩ := JP.apply_first hl40 (by rw [hE2]; exact h)
      rw [← hsp, HE1.out, hE2] at h1
      rw [← hsp, HN1.out, hN2] at h2
      exact ⟨h1, h2, by rw [← HT1.out]; exact JP.applyT_no (by rw [HE1.out, h1]; exact h), by rw [← hT2]; exact JP.applyT_no (by rw [hE2]; exact h)⟩
    have law2 : E2 = 0 → E1 = JP.applyE T2 ((L.drop N2).map toPO) ∧ T1 = JP.applyT T2 ((L.drop N2).map toPO) ∧ N1 = N2 + JP.applyN T2 ((L.drop N2).map toPO) ∧ j = N2 := fun h => by
      obtain ⟨h1, h2, h3, h4⟩ := JP.apply_second (d := d.data.toList) hl40 (by rw [hE2]; exact h)
      rw [hN2, List.length_map, List.length_take, Hln.out] at h4
      obtain rfl : j = N2 := by omega
      rw [← hsp, HE1.out, hT2] at h1
      rw [← hsp, HT1.out, hT2] at h2
      rw [← hsp, HN1.out, hT2, List.length_map, List.length_take, Hln.out] at h3
      exact ⟨h1, h2, by omega, rfl⟩
    clear hb hT2 hN2 hE2 hsp hl40
    by_cases he : E2 = 0
    · obtain ⟨x1, x2, x3, x4⟩ := law2 he
      subst he
      subst x4
      have lT2 := lT2
      have HA3 := Lib.hid (fun (w' : World) (v : Value) (h : Below w.heap.size w w') (hr : RowAt OpR 4 w v (L.drop j)) => apply_any (mkB T2) v (L.drop j) w' (by rw [mkB_size]; omega) (hr.below stays_op h) (by rw [List.length_drop]; have := Hln.out; omega) (fun g hg => Hok.out g (List.mem_of_mem_drop hg)) (HEn.out.below h))
      unfold AppAt at HA3
      rw [mkB_list] at HA3
      obtain ⟨T3, hT3⟩ : ∃ n, JP.applyT T2 ((L.drop j).map toPO) = n := ⟨_, rfl⟩
      obtain ⟨N3, hN3⟩ : ∃ n, JP.applyN T2 ((L.drop j).map toPO) = n := ⟨_, rfl⟩
      obtain ⟨E3, hE3⟩ : ∃ n, JP.applyE T2 ((L.drop j).map toPO) = n := ⟨_, rfl⟩
      rw [hT3, hN3, hE3] at HA3
      rw [hT3] at x2
      rw [hN3] at x3
      rw [hE3] at x1
      have q6 : IntKind.i64.wrap ((j : Int) + (N3 : Int)) = (j : Int) + (N3 : Int) := IntWalk.i64_in _ (by have := JP.applyN_le T2 ((L.drop j).map toPO); rw [hN3, List.length_map, List.length_drop, Hln.out] at this; omega)
      subst x1; subst x2; subst x3
      have q7 : ((j : Int) + (N3 : Int) == ((j + N3 : Nat) : Int)) = true := by rw [beq_iff_eq]; omega
      have q8 : (((j + N3 : Nat) : Int) == (j : Int) + (N3 : Int)) = true := by rw [beq_iff_eq]; omega
      have q9 : ((mkB T1).toList == (mkB T1).toList) = true := by simp
      have qA : (E1 == E1) = true := by simp
      clear hT3 hN3 hE3 law2 lT2 HA2 HA HCn
      cases ao with
      | none =>
        have hnil : ln = 0 ∧ co = 0 := by
          rcases HLr.out with ⟨h1, h2⟩ | ⟨a, c, h1, _⟩
          · injection h1 with _ h1 h3; exact ⟨h1, h3⟩
          · cases h1
        obtain ⟨h1, h2⟩ := hnil
        subst h1; subst h2
        have hj0 : j = 0 := by omega
        subst hj0
        have q6' : IntKind.i64.wrap (N3 : Int) = (N3 : Int) := by have h9 := q6; simpa using h9
        clear q3 q4 q5 q6 q7 q8 hjl
        go_wp2_with fail
        refine (HA3.out w4 _ HB4.out (by rw [List.drop_zero]; exact HLr.out)).mono ?_
        rintro E w5 ⟨rfl, hb⟩
        have HB5 := Lib.hid (HB4.out.trans (hb.mono HB4.out.size))
        clear hb
        go_wp2_with fail
        go_ret
        exact ⟨by first | rfl | (simp <;> rfl), HB5.out⟩
      | some a =>
        by_cases hcj : co - j = 0
        · have q0 : ((co : Int) - (j : Int) == 0) = true := by rw [beq_iff_eq]; omega
          have HRow : Hid (RowAt OpR 4 w (.slice (some a) (ln - j) 0) (L.drop j)) := Lib.hid (row_none (by rw [List.length_drop, Hln.out]; omega) (by omega) (by decide))
          have HRow2 : Hid (RowAt OpR 4 w (.slice (some a) 0 0) (L.drop j)) := Lib.hid (row_none (by rw [List.length_drop, Hln.out]; omega) rfl (by decide))
          have h1 : ln = j := by omega
          have h2 : co = j := by omega
          subst h1; subst h2
          go_wp2_with fail
          refine (HA3.out w4 _ HB4.out HRow2.out).mono ?_
          rintro E w5 ⟨rfl, hb⟩
          have HB5 := Lib.hid (HB4.out.trans (hb.mono HB4.out.size))
          clear hb
          go_wp2_with fail
          go_ret
          exact ⟨by first | rfl | (simp only [q7, q8, q9, qA] <;> rfl), HB5.out⟩
        · have q0 : ((co : Int) - (j : Int) == 0) = false := by rw [beq_eq_false_iff_ne]; omega
          have q0' : ¬ ((co : Int) - (j : Int) = 0) := by omega
          have HRow := Lib.hid (row_drop (by decide) HLr.out hjl)
          go_wp2_with fail
          refine (HA3.out w4 _ HB4.out HRow.out).mono ?_
          rintro E w5 ⟨rfl, hb⟩
          have HB5 := Lib.hid (HB4.out.trans (hb.mono HB4.out.size))
          clear hb
          go_wp2_with fail
          go_ret
          exact ⟨by first | rfl | (simp only [q7, q8, q9, qA] <;> rfl), HB5.out⟩
    · have n0 : (E2 != 0) = true := by rw [bne_iff_ne]; exact he
      obtain ⟨x1, x2, x3⟩ := law1 he
      have t1 : (mkB []).toList.isEmpty = true := by rw [mkB_empty]; rfl
      have qA : (E2 == E2) = true := by simp
      have qB : ((N2 : Int) == (N2 : Int)) = true := by simp
      subst x1; subst x2
      obtain ⟨y1, y2⟩ := x3
      subst y1; subst y2
      clear law1 law2 HA2 HA HCn he
      go_wp2_with fail
      go_ret
      exact ⟨by first | rfl | (simp only [t1, qA, qB] <;> rfl), HB4.out⟩
end Go.Proofs.YtlcongehmjiabaaGreatDoor
/- The law PatchTests. -/
namespace Go.Proofs.YtlcongehmjiabaaGreatDoor
open Go.RowKit
open JP (JV Bs)

theorem flat_op : Flat OpR := fun _ _ _ _ h => h
theorem oneR_op : OneR OpR := fun _ _ _ h u hu => by
  obtain ⟨h1, _⟩ := h
  rw [h1] at hu
  simp only [List.mem_cons, List.not_mem_nil, or_false] at hu
  rcases hu with rfl | rfl | rfl | rfl <;> rfl
theorem Tryz.infoOp : (Tryz.prog.info? 41).map (fun i => (i.zero, i.size, i.bytes)) = some (some (.agg #[.int .i64 0, .string ByteArray.empty, .string ByteArray.empty, .string ByteArray.empty]), 4, 56) := by kernel_rfl
theorem exec_appendP {P : Program} {a : Act} {o : Oper} {w w3 : World} {s x : Operand} {t : TypeId} {v xv v' : Value} (ho : o.op = .call { callee := .builtin .append, args := #[s, x], argTypes := #[t, t] }) (hs : a.eval s = v) (hx : a.eval x = xv)
    (hrun : (Builtin.append_ #[t, t] o.type #[v, xv]).run P w = .ok v' w3) : (execOp a.eval o).run P w = .ok (.value v') w3 := by
  simp [execOp, ho, resolve, invoke, builtin, hs, hx, hrun, Result.andThen]
set_option maxRecDepth 100000 in
set_option maxHeartbeats 800000 in
theorem copyOp_any (v : Value) (l : List GOp) (w : World) (h : RowAt OpR 4 w v l) (hl : l.length ≤ 1048576) :
    Calls Tryz.prog 22 #[v] w fun e w' => ∃ v', e = .returned v' ∧ OwnAt OpR 4 w' w.heap.size 41 v' l ∧ Below w.heap.size w w' := by
  obtain ⟨i0, hi0, hz0, hz1, hz2⟩ := info_parts Tryz.infoOp
  have Hrow := Lib.hid h
  clear h
  go_enter Tryz.func22, Tryz.ntmps22
  go_wp2_with (at_builtin; refine wpList_append_ownAt (R := OpR) (k := 4) (e := 41) (B := w.heap.size) (l := []) (m := l) _ (by rfl) _ _ _ (by rfl) i0 _ 56 Tryz.underlying37 hi0 hz0 hz1 hz2 rfl (by omega) flat_op oneR_op _ (by rfl) (OwnAt.nil _) _ (by rfl) Hrow.out (by unfold maxLen; simp; omega) (by simp; omega) (Nat.le_refl _) ?_)
  intro v' w' hv' hg hr _
  have hb : Below w.heap.size w w' := below_of_grown (Below.refl _ _) (Nat.le_refl _) hg hr
  go_wp2_with fail
  go_ret
  exact ⟨_, rfl, by simpa using hv', hb⟩
set_option maxRecDepth 100000 in
set_option maxHeartbeats 12800000 in
theorem patchTests_walk (d : ByteArray) (ov : Value) (L0 : List GOp) (at_ : Int) (p v : ByteArray) (w : World) (hL : RowAt OpR 4 w ov L0) (hat : (Lit.int .i64 at_).wf = true) (hbulk : d.data.toList.length + (L0.map opB).sum + p.data.toList.length + v.data.toList.length ≤ 1048576) (hE : Env w) :
    Calls Tryz.prog 8 #[.string d, ov, .int .i64 at_, .string p, .string v] w fun e w' => e = .returned (.bool true) ∧ Below w.heap.size w w' := by
  obtain ⟨hok, hll⟩ := ops_ok (L := L0) (by omega)
  have hd : d.size ≤ 1048576 := by rw [← list_size d]; omega
  have hp : p.size ≤ 1048576 := by rw [← list_size p]; omega
  have hv : v.size ≤ 1048576 := by rw [← list_size v]; omega
  obtain ⟨ao, co, e1, hc1, hc2⟩ := hL.len
  subst e1
  obtain ⟨lc, hlc⟩ : ∃ lc, min L0.length 30 = lc := ⟨_, rfl⟩
  have HLr := Lib.hid (row_take hL (m := lc) (by omega))
  obtain ⟨L, hLL⟩ : ∃ L, L0.take lc = L := ⟨_, rfl⟩
  rw [hLL] at HLr
  have hln : L.length = lc := by rw [← hLL, List.length_take]; omega
  have hok2 : ∀ g ∈ L, OpOK g := fun g hg => hok g (List.mem_of_mem_take (hLL ▸ hg))
  obtain ⟨l0, hl0⟩ : ∃ n, L0.length = n := ⟨_, rfl⟩
  rw [hl0] at hlc hc1 ⊢
  have hl30 : lc ≤ 30 := by omega
  have m1 : min (l0 : Int) 30 = (lc : Int) := by omega
  have m2 : (0 : Int) ≤ (lc : Int) := by omega
  have m3 : (lc : Int) ≤ (co : Int) := by omega
  have Hln := Lib.hid hln
  have hcc : lc ≤ co := by omega
  clear hL hLL hok hat hbulk hll hl0 hlc hc1
  have HEn := Lib.hid hE
  have Hok2 := Lib.hid hok2
  have HB0 := Lib.hid (Below.refl w.heap.size w)
  have HCn := Lib.hid (fun (w' : World) (b : Nat) (t : TypeId) (fr : Nat × Nat) (h : Below w.heap.size w w') (hb : w'.heap[b]? = some (.cells #[.int .i64 6, .string ⟨#[]⟩, .string ⟨#[]⟩, .string ⟨#[50]⟩] t fr)) => apply_any ⟨#[49]⟩ _ _ w' (by decide) (one_op (by decide) hb) (by decide) (fun g hg => by rw [List.mem_singleton.1 hg]; exact ⟨by decide, by decide, by decide⟩) (hE.below h))
  have hconst : JP.applyE (⟨#[49]⟩ : ByteArray).data.toList (List.map toPO [⟨6, ⟨#[]⟩, ⟨#[]⟩, ⟨#[50]⟩⟩]) = 10 := JP.patch_const2
  unfold AppAt at HCn
  rw [hconst] at HCn
  obtain ⟨n0, hn0⟩ : ∃ n, JP.applyN (⟨#[49]⟩ : ByteArray).data.toList (List.map toPO [⟨6, ⟨#[]⟩, ⟨#[]⟩, ⟨#[50]⟩⟩]) = n := ⟨_, rfl⟩
  obtain ⟨t0, ht0⟩ : ∃ n, JP.applyT (⟨#[49]⟩ : ByteArray).data.toList (List.map toPO [⟨6, ⟨#[]⟩, ⟨#[]⟩, ⟨#[50]⟩⟩]) = n := ⟨_, rfl⟩
  rw [hn0, ht0] at HCn
  have hr := restOf_in (a := at_) (b := (lc : Int) + 1) (by omega)
  have HRt := Lib.hid (fun (w' : World) => rest_any at_ ((lc : Int) + 1) w' (by omega) (by omega))
  obtain ⟨j, hj⟩ : ∃ j : Nat, restOf at_ ((lc : Int) + 1) = j := ⟨(restOf at_ ((lc : Int) + 1)).toNat, by omega⟩
  rw [hj] at HRt hr
  have hjl : j ≤ lc := by omega
  have q2 : IntKind.i64.wrap ((lc : Int) + 1) = (lc : Int) + 1 := IntWalk.i64_in _ (by omega)
  have q3 : (0 : Int) ≤ (j : Int) := by omega
  have q4 : (j : Int) ≤ (co : Int) := by omega
  have q5 : (j : Int) ≤ (lc : Int) := by omega
  have HA2 := Lib.hid (fun (w' : World) (h : Below w.heap.size w w') => apply_any d _ (L.take j) w' hd ((row_take HLr.out (m := j) (by have := Hln.out; omega)).below stays_op h) (by rw [List.length_take]; omega) (fun g hg => Hok2.out g (List.mem_of_mem_take hg)) (HEn.out.below h))
  unfold AppAt at HA2
  have lT2 := JP.applyT_len d.data.toList ((L.take j).map toPO)
  have hsp : L.map toPO = (L.take j).map toPO ++ (L.drop j).map toPO := by rw [← List.map_append, List.take_append_drop]
  have hl3 : ((L.take j).map toPO ++ (L.drop j).map toPO).length ≤ 30 := by rw [← hsp, List.length_map, Hln.out]; omega
  obtain ⟨T2, hT2⟩ : ∃ n, JP.applyT d.data.toList ((L.take j).map toPO) = n := ⟨_, rfl⟩
  obtain ⟨N2, hN2⟩ : ∃ n, JP.applyN d.data.toList ((L.take j).map toPO) = n := ⟨_, rfl⟩
  obtain ⟨E2, hE2⟩ : ∃ n, JP.applyE d.data.toList ((L.take j).map toPO) = n := ⟨_, rfl⟩
  have hno : E2 ≠ 0 → T2 = [] := fun h => by rw [← hT2]; exact JP.applyT_no (by rw [hE2]; exact h)
  have law := fun (h : JP.applyE d.data.toList ((L.take j).map toPO) = 0) => @JP.patch_tests d.data.toList p.data.toList v.data.toList ((L.take j).map toPO) ((L.drop j).map toPO) hl3 h
  have hmore : (L.take j).map toPO ++ [(⟨6, p.data.toList, [], v.data.toList⟩ : JP.PO)] ++ (L.drop j).map toPO = (L.take j ++ [(⟨6, p, ⟨#[]⟩, v⟩ : GOp)] ++ L.drop j).map toPO := by rw [List.map_append, List.map_append]; rfl
  rw [hmore, ← hsp, hT2, hE2, List.length_map, List.length_take, Hln.out, show min j lc = j from by omega] at law
  rw [hT2] at lT2
  rw [hT2, hN2, hE2] at HA2
  obtain ⟨T5, hT5⟩ : ∃ n, JP.applyT d.data.toList ((L.take j ++ [(⟨6, p, ⟨#[]⟩, v⟩ : GOp)] ++ L.drop j).map toPO) = n := ⟨_, rfl⟩
  obtain ⟨N5, hN5⟩ : ∃ n, JP.applyN d.data.toList ((L.take j ++ [(⟨6, p, ⟨#[]⟩, v⟩ : GOp)] ++ L.drop j).map toPO) = n := ⟨_, rfl⟩
  obtain ⟨E5, hE5⟩ : ∃ n, JP.applyE d.data.toList ((L.take j ++ [(⟨6, p, ⟨#[]⟩, v⟩ : GOp)] ++ L.drop j).map toPO) = n := ⟨_, rfl⟩
  obtain ⟨T6, hT6⟩ : ∃ n, JP.applyT d.data.toList (L.map toPO) = n := ⟨_, rfl⟩
  obtain ⟨N6, hN6⟩ : ∃ n, JP.applyN d.data.toList (L.map toPO) = n := ⟨_, rfl⟩
  obtain ⟨E6, hE6⟩ : ∃ n, JP.applyE d.data.toList (L.map toPO) = n := ⟨_, rfl⟩
  rw [hT5, hN5, hE5, hT6, hN6, hE6] at law
  have hN6l : N6 ≤ 1048576 := by have := JP.applyN_le d.data.toList (L.map toPO); rw [hN6, List.length_map, Hln.out] at this; omega
  have HT5 := Lib.hid hT5
  have HN5 := Lib.hid hN5
  have HE5 := Lib.hid hE5
  have HT6 := Lib.hid hT6
  have HN6 := Lib.hid hN6
  have HE6 := Lib.hid hE6
  have Hokm : Hid (∀ g ∈ L.take j ++ [(⟨6, p, ⟨#[]⟩, v⟩ : GOp)] ++ L.drop j, OpOK g) := Lib.hid (fun g hg => by
    rcases List.mem_append.1 hg with h | h
    · rcases List.mem_append.1 h with h | h
      · exact hok2 g (List.mem_of_mem_take h)
      · rw [List.mem_singleton.1 h]; exact ⟨hp, by show (0 : Nat) ≤ _; omega, hv⟩
    · exact hok2 g (List.mem_of_mem_drop h))
  have HG := Lib.hid (fun (w' : World) (h : Below w.heap.size w w') => pget_any (mkB T2) p w' (by rw [mkB_size]; omega) hp (hE.below h))
  unfold AnsAt at HG
  rw [mkB_list] at HG
  have lG := JP.getT_len T2 p.data.toList
  obtain ⟨G, hG⟩ : ∃ n, JP.getT T2 p.data.toList = n := ⟨_, rfl⟩
  obtain ⟨E3, hE3⟩ : ∃ n, JP.getE T2 p.data.toList = n := ⟨_, rfl⟩
  rw [hG, hE3] at HG
  rw [hG, hE3] at law
  rw [hG] at lG
  have HS := Lib.hid (fun (w' : World) (h : Below w.heap.size w w') => sameJ_any (mkB G) v w' (by rw [mkB_size]; omega) hv (hE.1.below h))
  rw [mkB_list] at HS
  obtain ⟨Sm, hSm⟩ : ∃ n, JP.sameT G v.data.toList = n := ⟨_, rfl⟩
  obtain ⟨E4, hE4⟩ : ∃ n, JP.sameE G v.data.toList = n := ⟨_, rfl⟩
  rw [hSm, hE4] at HS law
  have Hlaw := Lib.hid law
  have Hno := Lib.hid hno
  clear hconst hn0 ht0 hj hr hT2 hN2 hE2 hT5 hN5 hE5 hT6 hN6 hE6 hG hE3 hSm hE4 law hno hmore hsp hl3 lT2 lG hok2 hE hln hp hv
  go_enter Tryz.func8, Tryz.ntmps8
  go_wp2_with fail
  have hb2 : Below w.heap.size w (w.alloc (.cells #[.int .i64 6, .string ⟨#[]⟩, .string ⟨#[]⟩, .string ⟨#[50]⟩] 41)) := (Below.refl _ w).alloc (Nat.le_refl _) _
  refine (HCn.out _ w.heap.size _ _ hb2 (heap_alloc_new w _)).mono ?_
  rintro E w1 ⟨rfl, hb⟩
  have HB1 := Lib.hid (hb2.trans (hb.mono hb2.size))
  clear hb hb2 HCn
  go_wp2_with fail
  refine (HRt.out w1).mono ?_
  rintro E w2 ⟨rfl, rfl⟩
  clear HRt
  go_wp2_with fail
  refine (HA2.out w1 HB1.out).mono ?_
  rintro E w2 ⟨rfl, hb⟩
  have HB2 := Lib.hid (HB1.out.trans (hb.mono HB1.out.size))
  clear hb HA2
  by_cases he2 : E2 = 0
  · subst he2
    go_wp2_with fail
    refine (HG.out w2 HB2.out).mono ?_
    rintro E w9 ⟨rfl, hb⟩
    have HB9 := Lib.hid (HB2.out.trans (hb.mono HB2.out.size))
    clear hb HG
    go_wp2_with fail
    refine (HS.out w9 HB9.out).mono ?_
    rintro E w3 ⟨rfl, hb⟩
    have HB3 := Lib.hid (HB9.out.trans (hb.mono HB9.out.size))
    clear hb HS
    by_cases he3 : E3 = 0
    · by_cases he4 : E4 = 0
      · obtain ⟨lw1, lw2⟩ := Hlaw.out trivial he3 he4
        subst he3; subst he4
        have Lw1 := Lib.hid lw1
        have Lw2 := Lib.hid lw2
        clear lw1 lw2 Hlaw m1 m2 m3
        go_upto_region 13 with fail
        obtain ⟨i0, hi0, hz0, hz1, hz2⟩ := info_parts Tryz.infoOp
        refine wp_region_relX 12 (fun w' => Below w3.heap.size w3 w') (fun j wa wb => if j = 8 then SameBut 41 wa wb ∧ Below w3.heap.size wa wb else Below wa.heap.size wa wb) (fun ii U w' => match ii with
          | 0 => U 0 = .slice ao lc co
          | 1 => U 1 = .int .i64 (j : Int)
          | 2 => U 2 = .slice ao j co
          | 3 => OwnAt OpR 4 w' w3.heap.size 41 (U 3) (L.take j)
          | 4 => U 4 = .string p
          | 5 => U 5 = .string v
          | 6 => U 6 = .agg #[.int .i64 6, .string p, .string ⟨#[]⟩, .string v]
          | 7 => ∃ g, U 7 = .slice (some ⟨g, 0, none⟩) 1 1 ∧ w'.heap[g]? = some (.cells #[.int .i64 6, .string p, .string ⟨#[]⟩, .string v] 41 (0, 0))
          | 8 => OwnAt OpR 4 w' w3.heap.size 41 (U 8) (L.take j ++ [(⟨6, p, ⟨#[]⟩, v⟩ : GOp)])
          | 9 => U 9 = .slice ao lc co
          | 10 => U 10 = .int .i64 (j : Int)
          | 11 => RowAt OpR 4 w (U 11) (L.drop j)
          | _ => True)
          (fun | 2 => [0, 1] | 3 => [2] | 6 => [4, 5] | 7 => [6] | 8 => [3, 7] | 11 => [9, 10] | _ => [])
          (fun | 3 => [8] | 7 => [8] | _ => []) (by kernel_rfl) (by kernel_rfl) (Below.refl _ _).drew ?_ ?_ ⟨?_, ?_, ?_, ?_, ?_, ?_, ?_, ?_, ?_, ?_, ?_, ?_, trivial⟩ ?_
        · intro ii wa wb hk hi
          by_cases h8 : ii = 8
          · rw [if_pos h8] at hk
            exact hi.trans hk.2
          · rw [if_neg h8] at hk
            exact hi.trans (hk.mono hi.size)
        · intro ii jj U wa wb hji hkl hk hi h
          by_cases h8 : ii = 8
          · subst h8
            match jj, hji, hkl, h with
            | 0, hji, hkl, h => exact h
            | 1, hji, hkl, h => exact h
            | 2, hji, hkl, h => exact h
            | 3, hji, hkl, h => exact absurd (by simp) hkl
            | 4, hji, hkl, h => exact h
            | 5, hji, hkl, h => exact h
            | 6, hji, hkl, h => exact h
            | 7, hji, hkl, h => exact absurd (by simp) hkl
            | 8, hji, hkl, h => exact absurd rfl hji
            | 9, hji, hkl, h => exact h
            | 10, hji, hkl, h => exact h
            | 11, hji, hkl, h => exact h
            | _ + 12, _, _, h => trivial
          · rw [if_neg h8] at hk
            match jj, h with
            | 0, h => exact h
            | 1, h => exact h
            | 2, h => exact h
            | 3, h => exact OwnAt.below flat_op.stays h hk
            | 4, h => exact h
            | 5, h => exact h
            | 6, h => exact h
            | 7, h => obtain ⟨g, h1, h2⟩ := h; exact ⟨g, h1, below_block hk h2⟩
            | 8, h => exact OwnAt.below flat_op.stays h hk
            | 9, h => exact h
            | 10, h => exact h
            | 11, h => exact h
            | _ + 12, h => trivial
        · intro y w' hb hd
          refine owesK_here (.slice ao lc co) (by rfl) ?_ rfl (else_of (by decide) (Below.refl _ _))
          simp only [putAll, List.take_succ_cons, List.take_zero]
          go_simp
        · intro y w' hb hd
          refine owesK_here (.int .i64 (j : Int)) (by rfl) ?_ rfl (else_of (by decide) (Below.refl _ _))
          simp only [putAll, List.take_succ_cons, List.take_zero]
          go_simp
        · intro y w' hb hd
          have h0 : y 0 = .slice ao lc co := hd 0 (by simp)
          have h1 : y 1 = .int .i64 (j : Int) := hd 1 (by simp)
          refine owesK_here (.slice ao j co) (by rfl) ?_ rfl (else_of (by decide) (Below.refl _ _))
          simp only [putAll, List.take_succ_cons, List.take_zero]
          go_simp
        · intro y w' hb hd
          have h2 : y 2 = .slice ao j co := hd 2 (by simp)
          have hbw : Below w.heap.size w w' := HB3.out.trans (hb.mono HB3.out.size)
          refine owesK_call 22 #[.slice ao j co] (by rfl) ?_ ((copyOp_any _ (L.take j) w' ((row_take HLr.out (m := j) (by rw [Hln.out]; exact hjl)).below stays_op hbw) (by rw [List.length_take]; omega)).mono ?_)
          · simp only [putAll, List.take_succ_cons, List.take_zero]
            go_simp
          · rintro _ w3 ⟨v3, rfl, ho, hb3⟩
            exact ⟨v3, rfl, ho.mono hb.size, else_of (by decide) hb3⟩
        · intro y w' hb hd
          refine owesK_here (.string p) (by rfl) ?_ rfl (else_of (by decide) (Below.refl _ _))
          simp only [putAll, List.take_succ_cons, List.take_zero]
          go_simp
        · intro y w' hb hd
          refine owesK_here (.string v) (by rfl) ?_ rfl (else_of (by decide) (Below.refl _ _))
          simp only [putAll, List.take_succ_cons, List.take_zero]
          go_simp
        · intro y w' hb hd
          have h4 : y 4 = .string p := hd 4 (by simp)
          have h5 : y 5 = .string v := hd 5 (by simp)
          refine owesK_here (.agg #[.int .i64 6, .string p, .string ⟨#[]⟩, .string v]) (by rfl) ?_ rfl (else_of (by decide) (Below.refl _ _))
          simp only [putAll, List.take_succ_cons, List.take_zero]
          go_simp
        · intro y w' hb hd
          have h6 : y 6 = .agg #[.int .i64 6, .string p, .string ⟨#[]⟩, .string v] := hd 6 (by simp)
          refine owesK_makes (w' := w'.alloc (.cells #[.int .i64 6, .string p, .string ⟨#[]⟩, .string v] 41)) (.slice (some ⟨w'.heap.size, 0, none⟩) 1 1) (by rfl) ?_ ⟨_, rfl, heap_alloc_new w' _⟩ (else_of (by decide) ((Below.refl _ _).alloc (Nat.le_refl _) _))
          simp only [putAll, List.take_succ_cons, List.take_zero]
          rw [h6]
          go_simp
        · intro y w' hb hd
          have h3 : OwnAt OpR 4 w' w3.heap.size 41 (y 3) (L.take j) := hd 3 (by simp)
          obtain ⟨g, h7, hg7⟩ : ∃ g, y 7 = .slice (some ⟨g, 0, none⟩) 1 1 ∧ w'.heap[g]? = some (.cells #[.int .i64 6, .string p, .string ⟨#[]⟩, .string v] 41 (0, 0)) := hd 7 (by simp)
          obtain ⟨v', w4, hrun, r1, r2, r3, _⟩ := run_append_ownAt (P := Tryz.prog) w' 37 37 i0 _ 56 Tryz.underlying37 hi0 hz0 hz1 hz2 rfl (by omega) flat_op oneR_op (y 3) h3 (y 7) (m := [(⟨6, p, ⟨#[]⟩, v⟩ : GOp)]) (by rw [h7]; exact one_op (by decide) hg7) (by unfold maxLen; rw [List.length_take]; simp only [List.length_cons, List.length_nil]; omega) (by rw [List.length_take]; simp only [List.length_cons, List.length_nil]; omega) hb.size
          refine owesK_makes (w' := w4) v' (by rfl) ?_ r1 (then_of rfl ⟨h3.sameBut r2, below_of_grown (Below.refl _ _) hb.size r2 r3⟩)
          simp only [putAll, List.take_succ_cons, List.take_zero]
          try simp only [Act.put, List.setIfInBounds_toArray, List.set_cons_zero, List.set_cons_succ]
          exact exec_appendP (by rfl) (by rfl) (by rfl) hrun
        · intro y w' hb hd
          refine owesK_here (.slice ao lc co) (by rfl) ?_ rfl (else_of (by decide) (Below.refl _ _))
          simp only [putAll, List.take_succ_cons, List.take_zero]
          go_simp
        · intro y w' hb hd
          refine owesK_here (.int .i64 (j : Int)) (by rfl) ?_ rfl (else_of (by decide) (Below.refl _ _))
          simp only [putAll, List.take_succ_cons, List.take_zero]
          go_simp
        · intro y w' hb hd
          have h9 : y 9 = .slice ao lc co := hd 9 (by simp)
          have h10 : y 10 = .int .i64 (j : Int) := hd 10 (by simp)
          cases ao with
          | none =>
            have hnil : lc = 0 ∧ co = 0 := by
              rcases HLr.out with ⟨h1, h2⟩ | ⟨a, c, h1, _⟩
              · injection h1 with _ h1 h3; exact ⟨h1, h3⟩
              · cases h1
            obtain ⟨e1, e2⟩ := hnil
            have hj0 : j = 0 := by omega
            refine owesK_here (.slice none 0 0) (by rfl) ?_ (by show RowAt OpR 4 w (.slice none 0 0) (L.drop j); rw [hj0, List.drop_zero]; have h8 := HLr.out; rw [e1, e2] at h8; exact h8) (else_of (by decide) (Below.refl _ _))
            subst e1; subst e2; subst hj0
            simp only [putAll, List.take_succ_cons, List.take_zero]
            go_simp
          | some a =>
            by_cases hcj : co - j = 0
            · have h1 : lc = j := by omega
              have h2 : co = j := by omega
              refine owesK_here (.slice (some a) 0 0) (by rfl) ?_ (row_none (by rw [List.length_drop, Hln.out]; omega) rfl (by decide)) (else_of (by decide) (Below.refl _ _))
              subst h1; subst h2
              simp only [putAll, List.take_succ_cons, List.take_zero]
              go_simp
            · have q0 : ((co : Int) - (j : Int) == 0) = false := by rw [beq_eq_false_iff_ne]; omega
              have q0' : ¬ ((co : Int) - (j : Int) = 0) := by omega
              refine owesK_here (.slice (some (a.add (j * 4))) (lc - j) (co - j)) (by rfl) ?_ (row_drop (by decide) HLr.out hjl) (else_of (by decide) (Below.refl _ _))
              simp only [putAll, List.take_succ_cons, List.take_zero]
              go_simp
              intro h
              exfalso
              omega
        · intro y w' hb hR
          have h8 : OwnAt OpR 4 w' w3.heap.size 41 (y 8) (L.take j ++ [(⟨6, p, ⟨#[]⟩, v⟩ : GOp)]) := hR 8 (by omega) rfl
          have h11 : RowAt OpR 4 w (y 11) (L.drop j) := hR 11 (by omega) rfl
          have h11 : RowAt OpR 4 w' (y 11) (L.drop j) := h11.below stays_op (HB3.out.trans (hb.mono HB3.out.size))
          have H8 := Lib.hid h8
          have H11 := Lib.hid h11
          have Hw := Lib.hid hb
          clear hR h8 h11 hb
          simp only [putAll, List.take_succ_cons, List.take_zero, List.drop_succ_cons, List.drop_zero]
          try simp only [Act.put, List.setIfInBounds_toArray, List.set_cons_zero, List.set_cons_succ]
          refine wpList_append_ownAt (R := OpR) (k := 4) (e := 41) (B := w3.heap.size) (l := L.take j ++ [(⟨6, p, ⟨#[]⟩, v⟩ : GOp)]) (m := L.drop j) _ (by rfl) _ _ _ (by rfl) i0 _ 56 Tryz.underlying37 hi0 hz0 hz1 hz2 rfl (by omega) flat_op oneR_op _ (by rfl) H8.out _ (by rfl) H11.out (by unfold maxLen; rw [List.length_append, List.length_take, List.length_drop]; simp only [List.length_cons, List.length_nil]; have := Hln.out; omega) (by rw [List.length_append, List.length_take, List.length_drop]; simp only [List.length_cons, List.length_nil]; have := Hln.out; omega) Hw.out.size ?_
          intro vm wm hvm hg hr _
          have HBm := Lib.hid (HB3.out.trans ((below_of_grown Hw.out Hw.out.size hg hr).mono HB3.out.size))
          have HRm := Lib.hid hvm.row
          obtain ⟨am, cm, em, _⟩ := hvm.row.len
          have hlm : (L.take j ++ [(⟨6, p, ⟨#[]⟩, v⟩ : GOp)] ++ L.drop j).length = lc + 1 := by
            rw [List.length_append, List.length_append, List.length_take, List.length_drop, Hln.out]; simp only [List.length_cons, List.length_nil]; omega
          rw [hlm] at em
          subst em
          have HA5 := Lib.hid (apply_any d _ _ wm hd HRm.out (by rw [hlm]; omega) Hokm.out (HEn.out.below HBm.out))
          unfold AppAt at HA5
          rw [HT5.out, HN5.out, HE5.out] at HA5
          clear hvm hg hr Hw H8 H11 hlm
          cases Sm with
          | true =>
            obtain ⟨k1, k2, k3⟩ := Lw2.out rfl
            subst k1; subst k2; subst k3
            have r9 : ((mkB T5).toList == (mkB T5).toList) = true := by simp
            have rA : (E5 == E5) = true := by simp
            have rB : IntKind.i64.wrap ((N6 : Int) + 1) = (N6 : Int) + 1 := IntWalk.i64_in _ (by omega)
            have rC : (((N6 + 1 : Nat) : Int) == (N6 : Int) + 1) = true := by rw [beq_iff_eq]; omega
            try simp only [Act.put, List.setIfInBounds_toArray, List.set_cons_zero, List.set_cons_succ]
            go_wp2_with fail
            refine HA5.out.mono ?_
            rintro E w5 ⟨rfl, hb⟩
            have HB5 := Lib.hid (HBm.out.trans (hb.mono HBm.out.size))
            have HA6 := Lib.hid (apply_any d _ L w5 hd (HLr.out.below stays_op HB5.out) (by rw [Hln.out]; omega) Hok2.out (HEn.out.below HB5.out))
            unfold AppAt at HA6
            rw [HT6.out, HN6.out, HE6.out] at HA6
            clear hb HA5
            go_wp2_with fail
            refine HA6.out.mono ?_
            rintro E w6 ⟨rfl, hb⟩
            have HB6 := Lib.hid (HB5.out.trans (hb.mono HB5.out.size))
            clear hb HA6
            go_wp2_with fail
            go_ret
            exact ⟨by first | rfl | (simp only [r9, rA, rC] <;> rfl), HB6.out⟩
          | false =>
            obtain ⟨k1, k2, k3⟩ := Lw1.out rfl
            subst k1; subst k2; subst k3
            have t1 : (mkB []).toList.isEmpty = true := by rw [mkB_empty]; rfl
            have rB : ((N5 : Int) == (N5 : Int)) = true := by simp
            try simp only [Act.put, List.setIfInBounds_toArray, List.set_cons_zero, List.set_cons_succ]
            go_wp2_with fail
            refine HA5.out.mono ?_
            rintro E w5 ⟨rfl, hb⟩
            have HB5 := Lib.hid (HBm.out.trans (hb.mono HBm.out.size))
            have HA6 := Lib.hid (apply_any d _ L w5 hd (HLr.out.below stays_op HB5.out) (by rw [Hln.out]; omega) Hok2.out (HEn.out.below HB5.out))
            unfold AppAt at HA6
            rw [HT6.out, HN6.out, HE6.out] at HA6
            clear hb HA5
            go_wp2_with fail
            refine HA6.out.mono ?_
            rintro E w6 ⟨rfl, hb⟩
            have HB6 := Lib.hid (HB5.out.trans (hb.mono HB5.out.size))
            clear hb HA6
            go_wp2_with fail
            go_ret
            exact ⟨by first | rfl | (simp only [t1, rB] <;> rfl), HB6.out⟩
      · have n0 : (E4 != 0) = true := by rw [bne_iff_ne]; exact he4
        subst he3
        clear Hlaw he4
        go_wp2_with fail
        go_ret
        exact ⟨rfl, HB3.out⟩
    · have n0 : (E3 != 0) = true := by rw [bne_iff_ne]; exact he3
      clear Hlaw he3
      go_wp2_with fail
      go_ret
      exact ⟨rfl, HB3.out⟩
  · have n0 : (E2 != 0) = true := by rw [bne_iff_ne]; exact he2
    have t1 : (mkB []).toList.isEmpty = true := by rw [mkB_empty]; rfl
    have h0 := Hno.out he2
    subst h0
    clear he2 Hlaw Hno
    go_wp2_with fail
    go_ret
    exact ⟨by first | rfl | (rw [t1] <;> rfl), HB2.out⟩
end Go.Proofs.YtlcongehmjiabaaGreatDoor
/- patch: what leads back behind something was put. -/
namespace Go.Proofs.YtlcongehmjiabaaGreatDoor
open Go.RowKit
open JP (JV Bs)

theorem Tryz.sizeOp : (Tryz.prog.info? 41).map (·.size) = some 4 := by kernel_rfl
theorem total_mk (l : List Bs) : total (l.map mkB) = (l.map fun s => s.length + 1).sum := by
  unfold total
  rw [List.map_map]
  exact congrArg List.sum (List.map_congr_left fun s _ => by show (mkB s).size + 1 = _; rw [mkB_size])
set_option maxRecDepth 100000 in
set_option maxHeartbeats 1600000 in
theorem point_any {sv : Value} {l : List Bs} {w : World} (hs : StrAt w sv (l.map mkB)) (hl : l.length ≤ 10) (ht : (l.map fun s => s.length + 1).sum ≤ 4194304) (hE : Env w) :
    Calls Tryz.prog 69 #[sv] w fun e w' => e = .returned (.string (mkB (joinK l))) ∧ Below w.heap.size w w' := by
  obtain ⟨m, hm⟩ := hE.2.2
  have HJ := Lib.hid (ptrJoin_any sv (l.map mkB) m w hs (by rw [total_mk]; exact ht) hm)
  have hjl : joinL (l.map mkB) = joinK l := by
    rw [joinL_map, List.map_map]
    have e : ((fun s : ByteArray => s.data.toList) ∘ mkB) = id := by funext s; exact mkB_list s
    rw [e, List.map_id]
  rw [if_neg (by rw [List.length_map]; omega), hjl, show (⟨(joinK l).toArray⟩ : ByteArray) = mkB (joinK l) from rfl] at HJ
  obtain ⟨J, hJ⟩ : ∃ J, joinK l = J := ⟨_, rfl⟩
  rw [hJ] at HJ ⊢
  clear hm hE ht hJ hjl hs
  go_enter Tryz.func69, Tryz.ntmps69
  go_wp2_with fail
  refine HJ.out.mono ?_
  rintro E w1 ⟨rfl, hb⟩
  have HB := Lib.hid hb
  clear hb
  go_wp2_with fail
  go_ret
  exact ⟨rfl, HB.out⟩
def JP.undoO (J : Bs) : Option JV → JP.PO
  | some was => ⟨3, J, [], JP.text was⟩
  | none => ⟨2, J, [], []⟩
def opV (o : JP.PO) : Value := .agg #[.int .i64 o.kind, .string (mkB o.path), .string (mkB o.frm), .string (mkB o.val)]
theorem str_raw {w : World} {v : Value} {L : List ByteArray} (h : StrAt w v L) : RowAt RVal 1 w v (L.map .string) := by
  rcases h.row with ⟨h1, rfl⟩ | ⟨a, c, h1, h2, h3, h4⟩
  · exact .inl ⟨h1, rfl⟩
  · refine .inr ⟨a, c, by rw [List.length_map]; exact h1, by rw [List.length_map]; exact h2, h3, fun j x hx => ?_⟩
    rw [List.getElem?_map] at hx
    obtain ⟨y, hy, rfl⟩ := Option.map_eq_some_iff.1 hx
    obtain ⟨cs, g1, g2, g3⟩ := h4 j y hy
    obtain rfl : cs = [.string y] := g3
    exact ⟨_, g1, g2, rfl, rfl⟩
theorem raw_str {w : World} {v : Value} {L : List ByteArray} (h : RowAt RVal 1 w v (L.map .string)) : StrAt w v L :=
  RowAt.strs (h.ofRaw (by rw [List.length_map]) fun j u x hu hx => by
    rw [List.getElem?_map, hx] at hu
    obtain rfl := Option.some.inj hu
    rfl)
set_option maxRecDepth 100000 in
set_option maxHeartbeats 1600000 in
theorem unput_nil {n : Nat} {v sv : Value} {x : JV} {l : List Bs} {w : World} (hj : JvAt n [] w v x) (hx : JP.Fit x) (hs : StrAt w sv (l.map mkB)) (hl : l.length ≤ 10) (hm : ∀ s ∈ l, s.length ≤ 1048576) (ht : (l.map fun s => s.length + 1).sum ≤ 1048576) (hE : Env w) (h0 : l = []) :
    Calls Tryz.prog 68 #[v, sv] w fun e w' => e = .returned (opV (JP.unputP x l)) ∧ Below w.heap.size w w' := by
  obtain ⟨O, hO⟩ : ∃ O, JP.unputP x l = O := ⟨_, rfl⟩
  rw [hO]
  unfold JP.unputP at hO
  obtain ⟨w2, hw⟩ : ∃ w2, w2 = w.alloc (.cells #[.int .i64 0, .string ⟨#[]⟩, .string ⟨#[]⟩, .string ⟨#[]⟩] 41) := ⟨_, rfl⟩
  have b1 : w2.heap[w.heap.size]? = some (.cells #[.int .i64 0, .string ⟨#[]⟩, .string ⟨#[]⟩, .string ⟨#[]⟩] 41 (0, 0)) := by rw [hw]; exact heap_alloc_new w _
  have hb2 : Below w.heap.size w w2 := by rw [hw]; exact (Below.refl _ w).alloc (Nat.le_refl _) _
  have HB2 := Lib.hid hb2
  have C1 := Lib.hid b1
  have HE := Lib.hid (hE.below hb2)
  have HJ := Lib.hid (hj.below hb2)
  have HS := Lib.hid (hs.below hb2)
  have Hx := Lib.hid hx
  have Hz : Hid ((JP.text x).length ≤ 1000000) := Lib.hid (by have h9 : (JP.text x).length ≤ 2000 := hx.2.2.2; show _ ≤ _; omega)
  have Hm := Lib.hid hm
  have Ht := Lib.hid ht
  have HAt := Lib.hid (at_any HJ.out Hz.out HS.out hm (by omega) HE.out.1 HE.out.2.1)
  subst h0
  rw [if_pos rfl] at hO
  have HO := Lib.hid hO.symm
  obtain ⟨a, c, e1, _⟩ := HS.out.len
  subst e1
  rw [show ([] : List Bs).map mkB = [] from rfl] at HAt HS
  rw [show (List.map mkB ([] : List Bs)).length = 0 from rfl]
  have HTx := Lib.hid (fun (w' : World) (hb : Below w2.heap.size w2 w') => text_any n v x w' (HJ.out.below hb) (by have := Hz.out; omega) (HE.out.1.below hb))
  obtain ⟨X, hX⟩ : ∃ X, JP.text x = X := ⟨_, rfl⟩
  rw [hX] at HO HTx
  clear hb2 b1 hj hs hx hm ht hE hO hX
  go_enter Tryz.func68, Tryz.ntmps68
  go_upto_region 1 with fail
  rw [← hw]
  clear hw
  go_wp2_with fail
  refine HAt.out.mono ?_
  rintro E w3 ⟨u, rfl, hu, hb⟩
  have HB3 := Lib.hid (HB2.out.trans (hb.mono HB2.out.size))
  have HB3r := Lib.hid hb
  have Hu := Lib.hid hu
  clear hb hu HAt
  go_wp2_with fail
  refine (HTx.out w3 HB3r.out).mono ?_
  rintro E w4 ⟨rfl, hb⟩
  have HB4 := Lib.hid (HB3.out.trans (hb.mono HB3.out.size))
  have HB4r := Lib.hid (HB3r.out.trans (hb.mono HB3r.out.size))
  clear hb
  have d9 := below_block HB4r.out C1.out
  have D9 := Lib.hid d9
  clear d9
  go_wp2_with (refine wpList_store_box (by rfl) _ _ _ (by rfl) w.heap.size #[.int .i64 3, .string ⟨#[]⟩, .string ⟨#[]⟩, .string (mkB X)] (by rfl) (by rfl) _ _ (by exact D9.out) (by exact Tryz.sizeOp) (by rfl) (by simp [Value.oneCell']) ?_)
  intro WF bF tF
  have HF := Lib.hid (tF.below HB4.out (Nat.le_refl _))
  have c4 := fun i => cell_block bF i
  go_wp2_with fail
  refine bodyPost_ret (v := .agg #[.int .i64 3, .string ⟨#[]⟩, .string ⟨#[]⟩, .string (mkB X)]) (by simp [results, Tryz.results68, go_sem, c4]) rfl ⟨by rw [HO.out]; rfl, HF.out⟩
set_option maxRecDepth 100000 in
set_option maxHeartbeats 1600000 in
theorem unput_obj {n : Nat} {v sv : Value} {x : JV} {l : List Bs} {w : World} (hj : JvAt n [] w v x) (hx : JP.Fit x) (hs : StrAt w sv (l.map mkB)) (hl : l.length ≤ 10) (hm : ∀ s ∈ l, s.length ≤ 1048576) (ht : (l.map fun s => s.length + 1).sum ≤ 1048576) (hE : Env w) (p : JV) (h0 : l ≠ []) (hp : JP.atW x l.dropLast = some p) (hnl9 : ∀ ls, p ≠ .list ls) :
    Calls Tryz.prog 68 #[v, sv] w fun e w' => e = .returned (opV (JP.unputP x l)) ∧ Below w.heap.size w w' := by
  obtain ⟨O, hO⟩ : ∃ O, JP.unputP x l = O := ⟨_, rfl⟩
  rw [hO]
  unfold JP.unputP at hO
  obtain ⟨w2, hw⟩ : ∃ w2, w2 = w.alloc (.cells #[.int .i64 0, .string ⟨#[]⟩, .string ⟨#[]⟩, .string ⟨#[]⟩] 41) := ⟨_, rfl⟩
  have b1 : w2.heap[w.heap.size]? = some (.cells #[.int .i64 0, .string ⟨#[]⟩, .string ⟨#[]⟩, .string ⟨#[]⟩] 41 (0, 0)) := by rw [hw]; exact heap_alloc_new w _
  have hb2 : Below w.heap.size w w2 := by rw [hw]; exact (Below.refl _ w).alloc (Nat.le_refl _) _
  have HB2 := Lib.hid hb2
  have C1 := Lib.hid b1
  have HE := Lib.hid (hE.below hb2)
  have HJ := Lib.hid (hj.below hb2)
  have HS := Lib.hid (hs.below hb2)
  have Hx := Lib.hid hx
  have Hz : Hid ((JP.text x).length ≤ 1000000) := Lib.hid (by have h9 : (JP.text x).length ≤ 2000 := hx.2.2.2; show _ ≤ _; omega)
  have Hm := Lib.hid hm
  have Ht := Lib.hid ht
  have HAt := Lib.hid (at_any HJ.out Hz.out HS.out hm (by omega) HE.out.1 HE.out.2.1)
  obtain ⟨il, s, hls⟩ : ∃ r s, l = r ++ [s] := by
    rcases JP.nil_or_snoc l with h | h
    · exact absurd h h0
    · exact h
  rw [if_neg h0] at hO
  have hdl : l.dropLast = il := by rw [hls]; exact List.dropLast_concat
  have hgl : l.getLast? = some s := by rw [hls]; exact List.getLast?_concat
  rw [hdl, hgl] at hO
  rw [hdl] at hp
  rw [hp] at hO
  try dsimp only at hO
  obtain ⟨a1, c1, e1, hcap, _⟩ := HS.out.len
  subst e1
  have hnl : l.length = il.length + 1 := by rw [hls, List.length_append]; rfl
  have htk : l.take il.length = il := by rw [hls]; exact List.take_left
  have hrow := row_take HS.out.row (m := il.length) (by rw [List.length_map]; omega)
  rw [← List.map_take, htk] at hrow
  have HSi := Lib.hid (RowAt.strs hrow)
  rw [List.length_map] at HAt HS hcap
  rw [List.length_map]
  obtain ⟨np, hnp⟩ : ∃ n, l.length = n := ⟨_, rfl⟩
  obtain ⟨m1, hm1⟩ : ∃ n, il.length = n := ⟨_, rfl⟩
  rw [hnp] at HAt HS hcap
  rw [hm1] at HSi hnl
  rw [hnp]
  rw [hnp] at hnl hl
  have HAt2 := Lib.hid (fun (w' : World) (hb : Below w2.heap.size w2 w') => at_any (HJ.out.below hb) Hz.out (HSi.out.below hb) (fun t h => hm t (by rw [hls]; exact List.mem_append_left _ h)) (by rw [hm1]; omega) (HE.out.below hb).1 (HE.out.below hb).2.1)
  rw [hp] at HAt2
  have z0 : ((np : Int) == 0) = false := by rw [beq_eq_false_iff_ne]; omega
  have z1 : IntKind.i64.wrap ((np : Int) - 1) = (m1 : Int) := by rw [IntWalk.i64_in _ (by omega)]; omega
  have z2 : (0 : Int) ≤ (m1 : Int) := by omega
  have z3 : (m1 : Int) ≤ (c1 : Int) := by omega
  have z4 : (m1 : Int) < (np : Int) := by omega
  have HPt := Lib.hid (fun (w' : World) (hb : Below w2.heap.size w2 w') => point_any (HS.out.below hb) (by rw [hnp]; exact hl) (by omega) (HE.out.below hb))
  obtain ⟨J, hJ⟩ : ∃ J, joinK l = J := ⟨_, rfl⟩
  rw [hJ] at HPt
  obtain ⟨A, hA⟩ : ∃ A, JP.atW x l = A := ⟨_, rfl⟩
  rw [hA] at HAt
  have hO2 : JP.undoO J A = O := by
    rw [← hJ, ← hA]
    cases p with
    | list ls => exact absurd rfl (hnl9 ls)
    | _ => (cases h9 : JP.atW x l <;> rw [h9] at hO <;> exact hO)
  have Hnl := Lib.hid hnl9
  cases A with
  | none =>
    have HO : Hid (O = ⟨2, J, [], []⟩) := Lib.hid hO2.symm
    clear hnl hcap hl hb2 b1 hj hs hx hm ht hE hO hO2 hJ hA hnp hm1 hls hdl hgl hp htk hrow hnl9 h0
    go_enter Tryz.func68, Tryz.ntmps68
    go_upto_region 1 with fail
    rw [← hw]
    clear hw
    go_wp2_with fail
    refine HAt.out.mono ?_
    rintro E w3 ⟨u, rfl, hu, hb⟩
    have HB3 := Lib.hid (HB2.out.trans (hb.mono HB2.out.size))
    have HB3r := Lib.hid hb
    have Hu := Lib.hid hu
    clear hb hu HAt
    go_wp2_with fail
    refine (HAt2.out w3 HB3r.out).mono ?_
    rintro E w4 ⟨u2, rfl, hu, hb⟩
    obtain ⟨ku, hju⟩ := hu p rfl
    have Hju := Lib.hid hju
    have HB4 := Lib.hid (HB3.out.trans (hb.mono HB3.out.size))
    have HB4r := Lib.hid (HB3r.out.trans (hb.mono HB3r.out.size))
    clear hb hu hju
    have G1 := as_nolist Hju.out Hnl.out
    go_wp2_with fail
    refine (HPt.out w4 HB4r.out).mono ?_
    rintro E w5 ⟨rfl, hb⟩
    have HB5 := Lib.hid (HB4.out.trans (hb.mono HB4.out.size))
    have HB5r := Lib.hid (HB4r.out.trans (hb.mono HB4r.out.size))
    clear hb
    have d9 := below_block HB5r.out C1.out
    have D9 := Lib.hid d9
    clear d9
    go_wp2_with (refine wpList_store_box (by rfl) _ _ _ (by rfl) w.heap.size #[.int .i64 2, .string (mkB J), .string ⟨#[]⟩, .string ⟨#[]⟩] (by rfl) (by rfl) _ _ (by exact D9.out) (by exact Tryz.sizeOp) (by rfl) (by simp [Value.oneCell']) ?_)
    intro WF bF tF
    have HF := Lib.hid (tF.below HB5.out (Nat.le_refl _))
    have c4 := fun i => cell_block bF i
    go_wp2_with fail
    refine bodyPost_ret (v := .agg #[.int .i64 2, .string (mkB J), .string ⟨#[]⟩, .string ⟨#[]⟩]) (by simp [results, Tryz.results68, go_sem, c4]) rfl ⟨by rw [HO.out]; rfl, HF.out⟩
  | some was =>
    have HO : Hid (O = ⟨3, J, [], JP.text was⟩) := Lib.hid hO2.symm
    have hfw := JP.at_fit Hx.out hA
    have Hzw : Hid ((JP.text was).length ≤ 4194304) := Lib.hid (by have h9 : (JP.text was).length ≤ 2000 := hfw.2.2.2; show _ ≤ _; omega)
    obtain ⟨X, hX⟩ : ∃ X, JP.text was = X := ⟨_, rfl⟩
    have HX := Lib.hid hX
    rw [hX] at HO
    clear hnl hcap hl hb2 b1 hj hs hx hm ht hE hO hO2 hJ hA hnp hm1 hls hdl hgl hp htk hrow hnl9 h0 hX hfw
    go_enter Tryz.func68, Tryz.ntmps68
    go_upto_region 1 with fail
    rw [← hw]
    clear hw
    go_wp2_with fail
    refine HAt.out.mono ?_
    rintro E w3 ⟨u, rfl, hu, hb⟩
    have HB3 := Lib.hid (HB2.out.trans (hb.mono HB2.out.size))
    have HB3r := Lib.hid hb
    have Hu := Lib.hid hu
    clear hb hu HAt
    obtain ⟨kw, hjw⟩ := Hu.out was rfl
    have Hjw := Lib.hid hjw
    clear hjw
    go_wp2_with fail
    refine (HAt2.out w3 HB3r.out).mono ?_
    rintro E w4 ⟨u2, rfl, hu, hb⟩
    obtain ⟨ku, hju⟩ := hu p rfl
    have Hju := Lib.hid hju
    have Hjw4 := Lib.hid (Hjw.out.below hb)
    have HB4 := Lib.hid (HB3.out.trans (hb.mono HB3.out.size))
    have HB4r := Lib.hid (HB3r.out.trans (hb.mono HB3r.out.size))
    clear hb hu hju
    have G1 := as_nolist Hju.out Hnl.out
    go_wp2_with fail
    refine (HPt.out w4 HB4r.out).mono ?_
    rintro E w5 ⟨rfl, hb⟩
    have HB5 := Lib.hid (HB4.out.trans (hb.mono HB4.out.size))
    have HB5r := Lib.hid (HB4r.out.trans (hb.mono HB4r.out.size))
    have HTx := Lib.hid (text_any kw u was w5 (Hjw4.out.below hb) Hzw.out (HE.out.1.below HB5r.out))
    rw [HX.out] at HTx
    clear hb
    go_wp2_with fail
    refine HTx.out.mono ?_
    rintro E w6 ⟨rfl, hb⟩
    have HB6 := Lib.hid (HB5.out.trans (hb.mono HB5.out.size))
    have HB6r := Lib.hid (HB5r.out.trans (hb.mono HB5r.out.size))
    clear hb
    have d9 := below_block HB6r.out C1.out
    have D9 := Lib.hid d9
    clear d9
    go_wp2_with (refine wpList_store_box (by rfl) _ _ _ (by rfl) w.heap.size #[.int .i64 3, .string (mkB J), .string ⟨#[]⟩, .string (mkB X)] (by rfl) (by rfl) _ _ (by exact D9.out) (by exact Tryz.sizeOp) (by rfl) (by simp [Value.oneCell']) ?_)
    intro WF bF tF
    have HF := Lib.hid (tF.below HB6.out (Nat.le_refl _))
    have c4 := fun i => cell_block bF i
    go_wp2_with fail
    refine bodyPost_ret (v := .agg #[.int .i64 3, .string (mkB J), .string ⟨#[]⟩, .string (mkB X)]) (by simp [results, Tryz.results68, go_sem, c4]) rfl ⟨by rw [HO.out]; rfl, HF.out⟩
set_option maxRecDepth 100000 in
set_option maxHeartbeats 1600000 in
theorem unput_list {n : Nat} {v sv : Value} {x : JV} {l : List Bs} {w : World} (hj : JvAt n [] w v x) (hx : JP.Fit x) (hs : StrAt w sv (l.map mkB)) (hl : l.length ≤ 10) (hm : ∀ s ∈ l, s.length ≤ 1048576) (ht : (l.map fun s => s.length + 1).sum ≤ 1048576) (hE : Env w) (ls : List JV) (h0 : l ≠ []) (hp : JP.atW x l.dropLast = some (.list ls)) :
    Calls Tryz.prog 68 #[v, sv] w fun e w' => e = .returned (opV (JP.unputP x l)) ∧ Below w.heap.size w w' := by
  obtain ⟨O, hO⟩ : ∃ O, JP.unputP x l = O := ⟨_, rfl⟩
  rw [hO]
  unfold JP.unputP at hO
  obtain ⟨w2, hw⟩ : ∃ w2, w2 = w.alloc (.cells #[.int .i64 0, .string ⟨#[]⟩, .string ⟨#[]⟩, .string ⟨#[]⟩] 41) := ⟨_, rfl⟩
  have b1 : w2.heap[w.heap.size]? = some (.cells #[.int .i64 0, .string ⟨#[]⟩, .string ⟨#[]⟩, .string ⟨#[]⟩] 41 (0, 0)) := by rw [hw]; exact heap_alloc_new w _
  have hb2 : Below w.heap.size w w2 := by rw [hw]; exact (Below.refl _ w).alloc (Nat.le_refl _) _
  have HB2 := Lib.hid hb2
  have C1 := Lib.hid b1
  have HE := Lib.hid (hE.below hb2)
  have HJ := Lib.hid (hj.below hb2)
  have HS := Lib.hid (hs.below hb2)
  have Hx := Lib.hid hx
  have Hz : Hid ((JP.text x).length ≤ 1000000) := Lib.hid (by have h9 : (JP.text x).length ≤ 2000 := hx.2.2.2; show _ ≤ _; omega)
  have Hm := Lib.hid hm
  have Ht := Lib.hid ht
  have HAt := Lib.hid (at_any HJ.out Hz.out HS.out hm (by omega) HE.out.1 HE.out.2.1)
  obtain ⟨il, s, hls⟩ : ∃ r s, l = r ++ [s] := by
    rcases JP.nil_or_snoc l with h | h
    · exact absurd h h0
    · exact h
  rw [if_neg h0] at hO
  have hdl : l.dropLast = il := by rw [hls]; exact List.dropLast_concat
  have hgl : l.getLast? = some s := by rw [hls]; exact List.getLast?_concat
  rw [hdl, hgl] at hO
  rw [hdl] at hp
  rw [hp] at hO
  try dsimp only at hO
  obtain ⟨a1, c1, e1, hcap, _⟩ := HS.out.len
  subst e1
  have hnl : l.length = il.length + 1 := by rw [hls, List.length_append]; rfl
  have htk : l.take il.length = il := by rw [hls]; exact List.take_left
  have hrow := row_take HS.out.row (m := il.length) (by rw [List.length_map]; omega)
  rw [← List.map_take, htk] at hrow
  have HSi := Lib.hid (RowAt.strs hrow)
  rw [List.length_map] at HAt HS hcap
  rw [List.length_map]
  obtain ⟨np, hnp⟩ : ∃ n, l.length = n := ⟨_, rfl⟩
  obtain ⟨m1, hm1⟩ : ∃ n, il.length = n := ⟨_, rfl⟩
  rw [hnp] at HAt HS hcap
  rw [hm1] at HSi hnl
  rw [hnp]
  rw [hnp] at hnl hl
  have HAt2 := Lib.hid (fun (w' : World) (hb : Below w2.heap.size w2 w') => at_any (HJ.out.below hb) Hz.out (HSi.out.below hb) (fun t h => hm t (by rw [hls]; exact List.mem_append_left _ h)) (by rw [hm1]; omega) (HE.out.below hb).1 (HE.out.below hb).2.1)
  rw [hp] at HAt2
  have z0 : ((np : Int) == 0) = false := by rw [beq_eq_false_iff_ne]; omega
  have z1 : IntKind.i64.wrap ((np : Int) - 1) = (m1 : Int) := by rw [IntWalk.i64_in _ (by omega)]; omega
  have z2 : (0 : Int) ≤ (m1 : Int) := by omega
  have z3 : (m1 : Int) ≤ (c1 : Int) := by omega
  have z4 : (m1 : Int) < (np : Int) := by omega
  have HPt := Lib.hid (fun (w' : World) (hb : Below w2.heap.size w2 w') => point_any (HS.out.below hb) (by rw [hnp]; exact hl) (by omega) (HE.out.below hb))
  obtain ⟨J, hJ⟩ : ∃ J, joinK l = J := ⟨_, rfl⟩
  rw [hJ] at HPt
  have Hm10 : Hid (m1 ≤ 10) := Lib.hid (by show _ ≤ _; omega)
  have hfp := JP.at_fit Hx.out hp
  have hlen : ls.length ≤ 2000 := by have h9 : (JP.text (.list ls)).length ≤ 2000 := hfp.2.2.2; have := lenL_len ls; have := JP.list_len_ge ls; omega
  obtain ⟨b, off, c', hv9, _, _, hbs, hcell⟩ := HS.out.row.form (by rw [List.length_map, hnp]; omega) (by omega)
  injection hv9 with v1 v2 v3
  subst v1
  clear v2 v3
  obtain ⟨ds, _, hcc, hR⟩ := hcell m1 (mkB s) (by rw [List.getElem?_map, hls, ← hm1, List.getElem?_append_right (Nat.le_refl _), Nat.sub_self]; rfl)
  obtain rfl : ds = [.string (mkB s)] := hR
  have He0 : Hid (w2.cell? ⟨b, off + m1, none⟩ = some (.string (mkB s))) := Lib.hid (by simpa using hcc 0 _ rfl)
  have Hbs := Lib.hid hbs
  have tl := mkB_toList s
  clear hcc hcell hbs
  by_cases hsd : s = [45]
  · have hsB : (s == [45]) = true := by rw [hsd]; rfl
    rw [if_pos (by rw [hsd])] at hO
    have hil : ∀ t ∈ il, t.length ≤ 1048576 := fun t h => hm t (by rw [hls]; exact List.mem_append_left _ h)
    have hit := Lib.itoa_length_le (ls.length : Int) (by omega) (by omega)
    have htot : ((il ++ [Lib.itoa (ls.length : Int)]).map fun s => s.length + 1).sum ≤ 4194304 := by
      have h9 := ht
      rw [hls, List.map_append, List.sum_append] at h9
      rw [List.map_append, List.sum_append]
      simp only [List.map_cons, List.map_nil, List.sum_cons, List.sum_nil] at h9 ⊢
      omega
    have Hpt := Lib.hid (fun (w' : World) (sv' : Value) (h : StrAt w' sv' ((il ++ [Lib.itoa (ls.length : Int)]).map mkB)) (hb : Below w2.heap.size w2 w') => point_any h (by rw [List.length_append, hm1]; simp only [List.length_cons, List.length_nil]; omega) htot (HE.out.below hb))
    obtain ⟨J2, hJ2⟩ : ∃ J, joinK (il ++ [Lib.itoa (ls.length : Int)]) = J := ⟨_, rfl⟩
    rw [hJ2] at Hpt hO
    have HO := Lib.hid hO.symm
    have HIt := Lib.hid (fun (w' : World) (hb : Below w2.heap.size w2 w') => Tryz.strconv_Itoa (ls.length : Int) (by omega) (by omega) w' (HE.out.1.below hb))
    have hL9 : (il ++ [Lib.itoa (ls.length : Int)]).map mkB = il.map mkB ++ [mkB (Lib.itoa (ls.length : Int))] := by rw [List.map_append]; rfl
    rw [hL9] at Hpt
    rw [show (⟨(Lib.itoa (ls.length : Int)).toArray⟩ : ByteArray) = mkB (Lib.itoa (ls.length : Int)) from rfl] at HIt
    obtain ⟨IT, hIT⟩ : ∃ J, mkB (Lib.itoa (ls.length : Int)) = J := ⟨_, rfl⟩
    rw [hIT] at HIt Hpt
    obtain ⟨ll, hll⟩ : ∃ n, ls.length = n := ⟨_, rfl⟩
    rw [hll] at HIt hlen
    have Hll := Lib.hid hll
    have Hm1 := Lib.hid hm1
    obtain ⟨i0, hi0, hz0, hz1, hz2⟩ := info_parts Tryz.infoStr
    clear hnl hcap hl hb2 b1 hj hs hx hm ht hE hO hJ hnp hm1 hls hdl hgl hp htk hrow h0 hil hit htot hJ2 hIT hL9 hll hfp HPt hsd
    go_enter Tryz.func68, Tryz.ntmps68
    go_upto_region 1 with fail
    rw [← hw]
    clear hw
    go_wp2_with fail
    refine HAt.out.mono ?_
    rintro E w3 ⟨u, rfl, hu, hb⟩
    have HB3 := Lib.hid (HB2.out.trans (hb.mono HB2.out.size))
    have HB3r := Lib.hid hb
    have Hu := Lib.hid hu
    clear hb hu HAt
    go_wp2_with fail
    refine (HAt2.out w3 HB3r.out).mono ?_
    rintro E w4 ⟨u2, rfl, hu, hb⟩
    obtain ⟨ku, hju⟩ := hu _ rfl
    obtain ⟨kn, rfl⟩ : ∃ kn, ku = kn + 1 := by cases ku with | zero => cases hju | succ k => exact ⟨k, rfl⟩
    obtain ⟨ul, rfl, hrw, _⟩ := hju
    obtain ⟨al, cl, e9, _⟩ := hrw.len
    rw [Hll.out] at e9
    subst e9
    have HB4 := Lib.hid (HB3.out.trans (hb.mono HB3.out.size))
    have HB4r := Lib.hid (HB3r.out.trans (hb.mono HB3r.out.size))
    clear hb hu hrw
    have G1 := (as_list (.slice al ll cl)).2.2.2.1
    have e0 : w4.cell? ⟨b, off + m1, none⟩ = some (.string (mkB s)) := (HB4r.out.cell (p := ⟨b, _, none⟩) Hbs.out).trans He0.out
    have HCl := Lib.hid (cloneStr_any _ _ w4 (str_raw (HSi.out.below HB4r.out)) (by rw [List.length_map, List.length_map, Hm1.out]; have := Hm10.out; omega))
    go_wp2_with fail
    refine HCl.out.mono ?_
    rintro E w5 ⟨vc, rfl, hown, hb⟩
    have HOwn := Lib.hid hown
    have HB5 := Lib.hid (HB4.out.trans (hb.mono HB4.out.size))
    have HB5r := Lib.hid (HB4r.out.trans (hb.mono HB4r.out.size))
    have Hs5 := Lib.hid (show w4.heap.size ≤ w5.heap.size from hb.size)
    have HIt5 := Lib.hid (HIt.out w5 HB5r.out)
    clear hb hown HIt e0
    go_wp2_with fail
    refine HIt5.out.mono ?_
    rintro E w6 ⟨rfl, k2, os, hw6⟩
    have hb6 : Below w5.heap.size w5 w6 := by rw [hw6]; exact Lib.below_grow _ _ (Nat.le_refl _) _ _
    have HB6 := Lib.hid (HB5.out.trans (hb6.mono HB5.out.size))
    have HB6r := Lib.hid (HB5r.out.trans (hb6.mono HB5r.out.size))
    have hb7 : Below w6.heap.size w6 (w6.alloc (.cells #[.string IT] 9)) := (Below.refl _ w6).alloc (Nat.le_refl _) _
    have HB7 := Lib.hid (HB6.out.trans (hb7.mono HB6.out.size))
    have HB7r := Lib.hid (HB6r.out.trans (hb7.mono HB6r.out.size))
    have HOwn7 := Lib.hid ((HOwn.out.below stays_val hb6).below stays_val hb7)
    have Hs7 : Hid (w4.heap.size ≤ (w6.alloc (.cells #[.string IT] 9)).heap.size) := Lib.hid (Nat.le_trans Hs5.out (Nat.le_trans hb6.size hb7.size))
    clear hw6 hb6 hb7 HIt5
    have bd1 : ((il.map mkB).map Value.string).length + [Value.string IT].length ≤ maxLen := by unfold maxLen; rw [List.length_map, List.length_map, Hm1.out]; simp only [List.length_cons, List.length_nil]; have := Hm10.out; omega
    have bd2 : (((il.map mkB).map Value.string).length + [Value.string IT].length) * 16 ≤ 140737488355328 := by rw [List.length_map, List.length_map, Hm1.out]; simp only [List.length_cons, List.length_nil]; have := Hm10.out; omega
    have hr1 : RowAt RVal 1 (w6.alloc (.cells #[.string IT] 9)) (.slice (some ⟨w6.heap.size, 0, none⟩) 1 1) [Value.string IT] := RowAt.one (R := RVal) (x := Value.string IT) (heap_alloc_new w6 _) rfl ⟨rfl, rfl⟩
    go_wp2_with (at_builtin; refine wpList_append_ownAt (R := RVal) (k := 1) (e := 9) (B := w4.heap.size) (l := (il.map mkB).map .string) (m := [.string IT]) _ (by rfl) _ _ _ (by rfl) i0 _ 16 Tryz.underlying52 hi0 hz0 hz1 hz2 rfl (by omega) flat_val one_val _ (by rfl) HOwn7.out _ (by rfl) hr1 bd1 bd2 Hs7.out ?_)
    intro v8 w8 hv8 hg8 hr8 _
    have hb8 : Below w4.heap.size (w6.alloc (.cells #[.string IT] 9)) w8 := below_of_grown (Below.refl _ _) Hs7.out hg8 hr8
    have HB8 := Lib.hid (HB7.out.trans (hb8.mono HB4.out.size))
    have HB8r := Lib.hid (HB7r.out.trans (hb8.mono HB4r.out.size))
    have hst8 : StrAt w8 v8 (il.map mkB ++ [IT]) := raw_str (by have h9 := hv8.row; rw [List.map_append, List.map_map]; exact h9)
    have HP8 := Lib.hid (Hpt.out w8 v8 hst8 HB8r.out)
    clear hv8 hg8 hr8 hb8 hst8 HOwn7 HOwn Hpt
    go_wp2_with fail
    refine HP8.out.mono ?_
    rintro E w9 ⟨rfl, hb⟩
    have HB9 := Lib.hid (HB8.out.trans (hb.mono HB8.out.size))
    have HB9r := Lib.hid (HB8r.out.trans (hb.mono HB8r.out.size))
    clear hb
    have d9 := below_block HB9r.out C1.out
    have D9 := Lib.hid d9
    clear d9
    go_wp2_with (refine wpList_store_box (by rfl) _ _ _ (by rfl) w.heap.size #[.int .i64 2, .string (mkB J2), .string ⟨#[]⟩, .string ⟨#[]⟩] (by rfl) (by rfl) _ _ (by exact D9.out) (by exact Tryz.sizeOp) (by rfl) (by simp [Value.oneCell']) ?_)
    intro WF bF tF
    have HF := Lib.hid (tF.below HB9.out (Nat.le_refl _))
    have c4 := fun i => cell_block bF i
    go_wp2_with fail
    refine bodyPost_ret (v := .agg #[.int .i64 2, .string (mkB J2), .string ⟨#[]⟩, .string ⟨#[]⟩]) (by simp [results, Tryz.results68, go_sem, c4]) rfl ⟨by rw [HO.out]; rfl, HF.out⟩
  · have hsB : (s == [45]) = false := by rw [beq_eq_false_iff_ne]; exact hsd
    rw [if_neg (fun e => hsd (Option.some.inj e)), hJ] at hO
    have HO := Lib.hid hO.symm
    obtain ⟨ll, hll⟩ : ∃ n, ls.length = n := ⟨_, rfl⟩
    have Hll := Lib.hid hll
    clear hnl hcap hl hb2 b1 hj hs hx hm ht hE hO hJ hnp hm1 hls hdl hgl hp htk hrow h0 hll hfp hlen hsd
    go_enter Tryz.func68, Tryz.ntmps68
    go_upto_region 1 with fail
    rw [← hw]
    clear hw
    go_wp2_with fail
    refine HAt.out.mono ?_
    rintro E w3 ⟨u, rfl, hu, hb⟩
    have HB3 := Lib.hid (HB2.out.trans (hb.mono HB2.out.size))
    have HB3r := Lib.hid hb
    have Hu := Lib.hid hu
    clear hb hu HAt
    go_wp2_with fail
    refine (HAt2.out w3 HB3r.out).mono ?_
    rintro E w4 ⟨u2, rfl, hu, hb⟩
    obtain ⟨ku, hju⟩ := hu _ rfl
    obtain ⟨kn, rfl⟩ : ∃ kn, ku = kn + 1 := by cases ku with | zero => cases hju | succ k => exact ⟨k, rfl⟩
    obtain ⟨ul, rfl, hrw, _⟩ := hju
    obtain ⟨al, cl, e9, _⟩ := hrw.len
    rw [Hll.out] at e9
    subst e9
    have HB4 := Lib.hid (HB3.out.trans (hb.mono HB3.out.size))
    have HB4r := Lib.hid (HB3r.out.trans (hb.mono HB3r.out.size))
    clear hb hu hrw
    have G1 := (as_list (.slice al ll cl)).2.2.2.1
    have e0 : w4.cell? ⟨b, off + m1, none⟩ = some (.string (mkB s)) := (HB4r.out.cell (p := ⟨b, _, none⟩) Hbs.out).trans He0.out
    go_wp2_with fail
    refine (HPt.out w4 HB4r.out).mono ?_
    rintro E w5 ⟨rfl, hb⟩
    have HB5 := Lib.hid (HB4.out.trans (hb.mono HB4.out.size))
    have HB5r := Lib.hid (HB4r.out.trans (hb.mono HB4r.out.size))
    clear hb
    have d9 := below_block HB5r.out C1.out
    have D9 := Lib.hid d9
    clear d9
    go_wp2_with (refine wpList_store_box (by rfl) _ _ _ (by rfl) w.heap.size #[.int .i64 2, .string (mkB J), .string ⟨#[]⟩, .string ⟨#[]⟩] (by rfl) (by rfl) _ _ (by exact D9.out) (by exact Tryz.sizeOp) (by rfl) (by simp [Value.oneCell']) ?_)
    intro WF bF tF
    have HF := Lib.hid (tF.below HB5.out (Nat.le_refl _))
    have c4 := fun i => cell_block bF i
    go_wp2_with fail
    refine bodyPost_ret (v := .agg #[.int .i64 2, .string (mkB J), .string ⟨#[]⟩, .string ⟨#[]⟩]) (by simp [results, Tryz.results68, go_sem, c4]) rfl ⟨by rw [HO.out]; rfl, HF.out⟩
theorem unput_any {n : Nat} {v sv : Value} {x : JV} {l : List Bs} {w : World} (hj : JvAt n [] w v x) (hx : JP.Fit x) (hs : StrAt w sv (l.map mkB)) (hl : l.length ≤ 10) (hm : ∀ s ∈ l, s.length ≤ 1048576) (ht : (l.map fun s => s.length + 1).sum ≤ 1048576) (hE : Env w) (hp : l ≠ [] → ∃ p, JP.atW x l.dropLast = some p) :
    Calls Tryz.prog 68 #[v, sv] w fun e w' => e = .returned (opV (JP.unputP x l)) ∧ Below w.heap.size w w' := by
  by_cases h0 : l = []
  · exact unput_nil hj hx hs hl hm ht hE h0
  · obtain ⟨p, hp⟩ := hp h0
    by_cases h : ∃ ls, p = .list ls
    · obtain ⟨ls, rfl⟩ := h
      exact unput_list hj hx hs hl hm ht hE ls h0 hp
    · exact unput_obj hj hx hs hl hm ht hE p h0 hp (fun ls e => h ⟨ls, e⟩)
end Go.Proofs.YtlcongehmjiabaaGreatDoor
