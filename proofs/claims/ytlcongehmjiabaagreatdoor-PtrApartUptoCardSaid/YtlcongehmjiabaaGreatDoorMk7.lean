/- Texts of ours joined: JsonWithout, WayPut, MaxOK, PtrJoin, PtrSteps, PtrDo, JsonTab, EnvOf, PtrLaws, PtrSameWalk, PtrPutsWalk, PtrCutsWalk. -/
import Derived.Test.YtlcongehmjiabaaGreatDoorShelf
import Derived.Deep.DeepCutAuto
import Derived.Lib.LaidTab
import Derived.Deep.DeepHandedRow
import Derived.Stop.LaidErr
import Derived.Lib.LastIndexByte
import Derived.Lib.Strings
import Derived.Test.YtlcongehmjiabaaGreatDoorMk6
set_option linter.unusedVariables false
set_option linter.unusedSimpArgs false
/- json: (*Object).Without: its contract. -/
namespace Go.Proofs.YtlcongehmjiabaaGreatDoor
open Go.RowKit
open JP (JV Bs)

theorem del_same {w w' : World} {B : Nat} {e : TypeId} {v : Value} {xs : List Value} {g n c : Nat} (h : OwnAt RVal 1 w B e v xs) (hv : v = .slice (some ⟨g, 0, none⟩) n c) (hB : B ≤ g) (ht : Touch g w w') (_hs : B ≤ w.heap.size) : SameBut e w w' ∧ Below B w w' := by
  refine ⟨fun b cur e' fr hb hne => (ht.other b fun eq => ?_).trans hb, ht.below (Below.refl _ _) hB⟩
  obtain ⟨_, _, cur', k⟩ := h.at (g := g) (by rw [hv]; rfl)
  rw [eq, k] at hb
  injection hb with hb
  injection hb with _ hb
  exact hne hb.symm
theorem cut_none {x : Bs} : ∀ {d : List (Bs × JV)}, JP.get x d = none → JP.cut x d = d
  | [], _ => rfl
  | (m, y) :: r, h => by
    unfold JP.get at h
    by_cases hm : m = x
    · rw [if_pos hm] at h; cases h
    · rw [if_neg hm] at h
      unfold JP.cut
      rw [List.filter_cons_of_pos (by simpa using hm)]
      exact congrArg _ (cut_none h)
theorem cut_at {x : Bs} : ∀ {d : List (Bs × JV)} {p : Nat} {y : JV}, JP.Srt d → d[p]? = some (x, y) → JP.cut x d = d.eraseIdx p
  | [], _, _, _, h => by simp at h
  | (m, z) :: r, 0, y, hs, h => by
    simp only [List.getElem?_cons_zero, Option.some.injEq] at h
    cases h
    obtain ⟨h1, _⟩ := List.pairwise_cons.1 hs
    unfold JP.cut
    rw [List.filter_cons_of_neg (by simp), List.eraseIdx_cons_zero, List.filter_eq_self]
    intro a ha
    have := h1 a ha
    rw [bne_iff_ne]
    intro e
    rw [e] at this
    exact List.lt_irrefl _ this
  | (m, z) :: r, p + 1, y, hs, h => by
    obtain ⟨h1, h2⟩ := List.pairwise_cons.1 hs
    rw [List.getElem?_cons_succ] at h
    have hlt := h1 (x, y) (List.mem_of_getElem? h)
    have ih := cut_at h2 h
    unfold JP.cut at ih ⊢
    rw [List.filter_cons_of_pos (by
      rw [bne_iff_ne]
      intro e
      rw [e] at hlt
      exact List.lt_irrefl _ hlt), ih, List.eraseIdx_cons_succ]
theorem cut_srt {x : Bs} {d : List (Bs × JV)} (h : JP.Srt d) : JP.Srt (JP.cut x d) := List.Pairwise.sublist (List.filter_sublist) h
theorem map_erase {α β : Type} (f : α → β) (l : List α) (p : Nat) : (l.eraseIdx p).map f = (l.map f).eraseIdx p := by
  apply List.ext_getElem?
  intro j
  rw [List.getElem?_map, List.getElem?_eraseIdx, List.getElem?_eraseIdx]
  split <;> rw [List.getElem?_map]
theorem pairs_erase {α : Type} {xs : List Value} {l : List α} {P : Value → α → Prop} (h : ∀ (j : Nat) (u : Value) (x : α), xs[j]? = some u → l[j]? = some x → P u x) (p : Nat) :
    ∀ (j : Nat) (u : Value) (x : α), (xs.eraseIdx p)[j]? = some u → (l.eraseIdx p)[j]? = some x → P u x := fun j u x hu hx => by
  rw [List.getElem?_eraseIdx] at hu hx
  by_cases hj : j < p
  · rw [if_pos hj] at hu hx; exact h j u x hu hx
  · rw [if_neg hj] at hu hx; exact h (j + 1) u x hu hx
set_option maxRecDepth 100000 in
set_option maxHeartbeats 6400000 in
theorem without_any {n : Nat} {T : List Nat} {q : Nat} {d : List (Bs × JV)} {x : Bs} {w : World} (h : ObR (JvR n T) T w q d) (hT : ∀ b ∈ T, b < w.heap.size) (hl : d.length ≤ 1048575) :
    Calls Tryz.prog 62 #[.pointer (some ⟨q, 0, none⟩), .string (mkB x)] w fun e w' => ∃ q', e = .returned (.pointer (some ⟨q', 0, none⟩)) ∧ ObR (JvR n T) T w' q' (JP.cut x d) ∧ Below w.heap.size w w' := by
  have hob := h
  obtain ⟨hqT, hs, vn, vv, cn, cv, hrn, hon, hrv, hov⟩ := h
  have HS := Lib.hid (search_any (x := x) hs hrn (by omega))
  have hsp := cut_srt (x := x) hs
  have hF := JP.find_spec (n := x) hs
  obtain ⟨xs, hxl, hxr, hxR⟩ := hrn.raw one_string
  obtain ⟨ys, hyl, hyr, hyR⟩ := hrv.raw (one_jv n T)
  rw [List.length_map] at hxl hyl
  obtain ⟨an, c1, hu1, _, _⟩ := hrn.len
  obtain ⟨av, c2, hu2, _, _⟩ := hrv.len
  obtain ⟨ln, hln⟩ : ∃ n, (d.map fun y => mkB y.1).length = n := ⟨_, rfl⟩
  obtain ⟨lv, hlv⟩ : ∃ n, (d.map (·.2)).length = n := ⟨_, rfl⟩
  rw [hln] at hu1
  rw [hlv] at hu2
  subst hu1
  subst hu2
  clear hln hlv
  have hqw : q < w.heap.size := World.block_lt_of_cell? w ⟨q, 0, none⟩ cn
  rcases hF with ⟨y0, hy0, hg, _⟩ | ⟨_, hg, _⟩
  · have hcut := cut_at hs hy0
    rw [hg] at HS
    have hpn : (JP.cut x d).map (fun z => mkB z.1) = (d.map fun z => mkB z.1).eraseIdx (JP.pos x d) := by rw [hcut]; exact map_erase _ _ _
    have hpv : (JP.cut x d).map (·.2) = (d.map (·.2)).eraseIdx (JP.pos x d) := by rw [hcut]; exact map_erase _ _ _
    have hlt : JP.pos x d < d.length := (List.getElem?_eq_some_iff.1 hy0).1
    obtain ⟨D, hD⟩ : ∃ D, JP.cut x d = D := ⟨_, rfl⟩
    rw [hD] at hpn hpv hsp ⊢
    obtain ⟨p, hp⟩ : ∃ p, JP.pos x d = p := ⟨_, rfl⟩
    rw [hp] at HS hpn hpv hlt
    have HC1 := Lib.hid (fun w' (hb : Below w.heap.size w w') => cloneStr_any (.slice an ln c1) xs w' (hxr.below stays_val hb) (by omega))
    have HC2 := Lib.hid (fun w' (hb : Below w.heap.size w w') => cloneVal_any (.slice av lv c2) ys w' (hyr.below stays_val hb) (by omega))
    have hfin : ∀ w' (q' : Nat) (v8 v9 : Value), KeepT T w w' → q' ∉ T → w'.cell? ⟨q', 0, none⟩ = some v8 → w'.cell? ⟨q', 1, none⟩ = some v9 → RowAt RVal 1 w' v8 (xs.eraseIdx p) → OffT T v8 D → RowAt RVal 1 w' v9 (ys.eraseIdx p) → OffT T v9 D → ObR (JvR n T) T w' q' D := fun w' q' v8 v9 hk hq' k0 k1 hr8 ho8 hr9 ho9 => by
      refine ⟨hq', hsp, v8, v9, k0, k1, ?_, ho8, ?_, ho9⟩
      · rw [hpn]
        refine hr8.ofRaw (by rw [List.length_eraseIdx_of_lt (by omega), List.length_eraseIdx_of_lt (by rw [List.length_map]; omega), List.length_map]; omega) fun j u z hu hz => ?_
        have := pairs_erase (P := fun u z => u = .string z) (strs_raw hxR) p j u z hu hz
        rw [this]; rfl
      · rw [hpv]
        refine hr9.ofRaw (by rw [List.length_eraseIdx_of_lt (by omega), List.length_eraseIdx_of_lt (by rw [List.length_map]; omega), List.length_map]; omega) fun j u z hu hz => ?_
        obtain ⟨v1, e1, h1⟩ := pairs_erase (P := fun u z => JvR n T w [u] z) hyR p j u z hu hz
        exact ⟨v1, e1, h1.keepT hk⟩
    have Hfin := Lib.hid hfin
    have HT := Lib.hid hT
    have hxp : p < xs.length := by omega
    have hyp : p < ys.length := by omega
    have hxs : xs.length ≤ 1048576 := by omega
    have hys : ys.length ≤ 1048576 := by omega
    have hpw : IntKind.i64.wrap ((p : Int) + 1) = (p : Int) + 1 := IntWalk.i64_in _ (by omega)
    clear hg hfin hT hrn hrv hxr hyr hxR hyR hon hov hpn hpv hD hsp hs hxl hyl hp hob hcut hy0 hlt
    go_enter Tryz.func62, Tryz.ntmps62
    go_wp2_with fail
    refine HS.out.mono ?_
    rintro E w1 ⟨rfl, k, rfl⟩
    have Hb1 : Hid (Below w.heap.size w (w.drewN k)) := Lib.hid ((below_drewN0 w k))
    go_upto_region 4 with fail
    refine wp_region_relY 20 (fun w' => Below w.heap.size (w.drewN k) w') (fun i wa wb => if i = 8 then SameBut 9 wa wb ∧ Below w.heap.size wa wb else (if i = 17 then SameBut 51 wa wb ∧ Below w.heap.size wa wb else Below wa.heap.size wa wb)) (fun ii U w' => match ii with
      | 0 => U 0 = .pointer (some ⟨q, 0, none⟩)
      | 1 => U 1 = .pointer (some ⟨q, 0, none⟩)
      | 2 => U 2 = .pointer (some ⟨q, 0, none⟩)
      | 3 => U 3 = .slice an ln c1
      | 4 => OwnAt RVal 1 w' w.heap.size 9 (U 4) xs
      | 5 => U 5 = .int .i64 (p : Int)
      | 6 => U 6 = .int .i64 (p : Int)
      | 7 => U 7 = .int .i64 ((p : Int) + 1)
      | 8 => OwnAt RVal 1 w' w.heap.size 9 (U 8) (xs.eraseIdx p)
      | 9 => U 9 = .pointer (some ⟨q, 0, none⟩)
      | 10 => U 10 = .pointer (some ⟨q, 0, none⟩)
      | 11 => U 11 = .pointer (some ⟨q, 1, none⟩)
      | 12 => U 12 = .slice av lv c2
      | 13 => OwnAt RVal 1 w' w.heap.size 51 (U 13) ys
      | 14 => U 14 = .int .i64 (p : Int)
      | 15 => U 15 = .int .i64 (p : Int)
      | 16 => U 16 = .int .i64 ((p : Int) + 1)
      | 17 => OwnAt RVal 1 w' w.heap.size 51 (U 17) (ys.eraseIdx p)
      | 18 => U 18 = .agg #[U 8, U 17]
      | 19 => ∃ g, U 19 = .pointer (some ⟨g, 0, none⟩) ∧ w.heap.size ≤ g ∧ w'.heap[g]? = some (.cells #[U 8, U 17] 85 (0, 0))
      | _ => True)
      (fun | 1 => [0] | 2 => [1] | 3 => [2] | 4 => [3] | 7 => [6] | 8 => [4, 5, 7] | 10 => [9] | 11 => [10] | 12 => [11] | 13 => [12] | 16 => [15] | 17 => [13, 14, 16] | 18 => [8, 17] | 19 => [18, 8, 17] | _ => [])
      (fun | 4 => [8] | 13 => [17] | _ => []) (by kernel_rfl) (by kernel_rfl) (Below.refl _ _).drew ?_ ?_ ⟨?_, ?_, ?_, ?_, ?_, ?_, ?_, ?_, ?_, ?_, ?_, ?_, ?_, ?_, ?_, ?_, ?_, ?_, ?_, ?_, trivial⟩ ?_
    · intro i wa wb hk hi
      by_cases h8 : i = 8
      · rw [if_pos h8] at hk
        exact hi.trans hk.2
      · rw [if_neg h8] at hk
        by_cases h17 : i = 17
        · rw [if_pos h17] at hk
          exact hi.trans hk.2
        · rw [if_neg h17] at hk
          exact below_then' hi hk
    · intro i j U wa wb hji hkl hk hi h
      by_cases h8 : i = 8
      · rw [if_pos h8] at hk
        subst h8
        have hsm := hk.1
        match j, hji, hkl, h with
        | 0, _, _, h => exact h
        | 1, _, _, h => exact h
        | 2, _, _, h => exact h
        | 3, _, _, h => exact h
        | 4, _, hkl, h => exact absurd (by simp) hkl
        | 5, _, _, h => exact h
        | 6, _, _, h => exact h
        | 7, _, _, h => exact h
        | 8, hji, _, h => exact absurd rfl hji
        | 9, _, _, h => exact h
        | 10, _, _, h => exact h
        | 11, _, _, h => exact h
        | 12, _, _, h => exact h
        | 13, _, _, h => exact OwnAt.same' flat_val h hsm (by decide)
        | 14, _, _, h => exact h
        | 15, _, _, h => exact h
        | 16, _, _, h => exact h
        | 17, _, _, h => exact OwnAt.same' flat_val h hsm (by decide)
        | 18, _, _, h => exact h
        | 19, _, _, h => exact (by obtain ⟨g, h1, h0, h2⟩ := h; exact ⟨g, h1, h0, hsm g _ _ _ h2 (by decide)⟩)
        | _ + 20, _, _, h => trivial
      · rw [if_neg h8] at hk
        by_cases h17 : i = 17
        · rw [if_pos h17] at hk
          subst h17
          have hsm := hk.1
          match j, hji, hkl, h with
          | 0, _, _, h => exact h
          | 1, _, _, h => exact h
          | 2, _, _, h => exact h
          | 3, _, _, h => exact h
          | 4, _, _, h => exact OwnAt.same' flat_val h hsm (by decide)
          | 5, _, _, h => exact h
          | 6, _, _, h => exact h
          | 7, _, _, h => exact h
          | 8, _, _, h => exact OwnAt.same' flat_val h hsm (by decide)
          | 9, _, _, h => exact h
          | 10, _, _, h => exact h
          | 11, _, _, h => exact h
          | 12, _, _, h => exact h
          | 13, _, hkl, h => exact absurd (by simp) hkl
          | 14, _, _, h => exact h
          | 15, _, _, h => exact h
          | 16, _, _, h => exact h
          | 17, hji, _, h => exact absurd rfl hji
          | 18, _, _, h => exact h
          | 19, _, _, h => exact (by obtain ⟨g, h1, h0, h2⟩ := h; exact ⟨g, h1, h0, hsm g _ _ _ h2 (by decide)⟩)
          | _ + 20, _, _, h => trivial
        · rw [if_neg h17] at hk
          match j, h with
          | 0, h => exact h
          | 1, h => exact h
          | 2, h => exact h
          | 3, h => exact h
          | 4, h => exact OwnAt.below stays_val h hk
          | 5, h => exact h
          | 6, h => exact h
          | 7, h => exact h
          | 8, h => exact OwnAt.below stays_val h hk
          | 9, h => exact h
          | 10, h => exact h
          | 11, h => exact h
          | 12, h => exact h
          | 13, h => exact OwnAt.below stays_val h hk
          | 14, h => exact h
          | 15, h => exact h
          | 16, h => exact h
          | 17, h => exact OwnAt.below stays_val h hk
          | 18, h => exact h
          | 19, h => exact (by obtain ⟨g, h1, h0, h2⟩ := h; exact ⟨g, h1, h0, below_block hk h2⟩)
          | _ + 20, h => trivial
    · intro x' w' hb hd
      have hbw : Below w.heap.size w w' := (below_drewN0 w k).trans hb
      have e0 : w'.cell? ⟨q, 0, none⟩ = some (.slice an ln c1) := (hbw.cell (p := ⟨q, 0, none⟩) hqw).trans cn
      have e1 : w'.cell? ⟨q, 1, none⟩ = some (.slice av lv c2) := (hbw.cell (p := ⟨q, 1, none⟩) hqw).trans cv
      refine owesK_here (.pointer (some ⟨q, 0, none⟩)) (by rfl) ?_ rfl (else_of (by decide) (else_of (by decide) (Below.refl _ _)))
      simp only [putAll, List.take_succ_cons, List.take_zero]
      go_simp
    · intro x' w' hb hd
      have hbw : Below w.heap.size w w' := (below_drewN0 w k).trans hb
      have e0 : w'.cell? ⟨q, 0, none⟩ = some (.slice an ln c1) := (hbw.cell (p := ⟨q, 0, none⟩) hqw).trans cn
      have e1 : w'.cell? ⟨q, 1, none⟩ = some (.slice av lv c2) := (hbw.cell (p := ⟨q, 1, none⟩) hqw).trans cv
      have k0 : x' 0 = .pointer (some ⟨q, 0, none⟩) := hd 0 (by simp)
      refine owesK_here (.pointer (some ⟨q, 0, none⟩)) (by rfl) ?_ rfl (else_of (by decide) (else_of (by decide) (Below.refl _ _)))
      simp only [putAll, List.take_succ_cons, List.take_zero]
      go_simp
    · intro x' w' hb hd
      have hbw : Below w.heap.size w w' := (below_drewN0 w k).trans hb
      have e0 : w'.cell? ⟨q, 0, none⟩ = some (.slice an ln c1) := (hbw.cell (p := ⟨q, 0, none⟩) hqw).trans cn
      have e1 : w'.cell? ⟨q, 1, none⟩ = some (.slice av lv c2) := (hbw.cell (p := ⟨q, 1, none⟩) hqw).trans cv
      have k0 : x' 1 = .pointer (some ⟨q, 0, none⟩) := hd 1 (by simp)
      refine owesK_here (.pointer (some ⟨q, 0, none⟩)) (by rfl) ?_ rfl (else_of (by decide) (else_of (by decide) (Below.refl _ _)))
      simp only [putAll, List.take_succ_cons, List.take_zero]
      go_simp
    · intro x' w' hb hd
      have hbw : Below w.heap.size w w' := (below_drewN0 w k).trans hb
      have e0 : w'.cell? ⟨q, 0, none⟩ = some (.slice an ln c1) := (hbw.cell (p := ⟨q, 0, none⟩) hqw).trans cn
      have e1 : w'.cell? ⟨q, 1, none⟩ = some (.slice av lv c2) := (hbw.cell (p := ⟨q, 1, none⟩) hqw).trans cv
      have k0 : x' 2 = .pointer (some ⟨q, 0, none⟩) := hd 2 (by simp)
      refine owesK_here (.slice an ln c1) (by rfl) ?_ rfl (else_of (by decide) (else_of (by decide) (Below.refl _ _)))
      simp only [putAll, List.take_succ_cons, List.take_zero]
      go_simp
    · intro x' w' hb hd
      have hbw : Below w.heap.size w w' := (below_drewN0 w k).trans hb
      have e0 : w'.cell? ⟨q, 0, none⟩ = some (.slice an ln c1) := (hbw.cell (p := ⟨q, 0, none⟩) hqw).trans cn
      have e1 : w'.cell? ⟨q, 1, none⟩ = some (.slice av lv c2) := (hbw.cell (p := ⟨q, 1, none⟩) hqw).trans cv
      have k0 : x' 3 = .slice an ln c1 := hd 3 (by simp)
      refine owesK_call 85 #[.slice an ln c1] (by rfl) ?_ ((HC1.out w' hbw).mono fun e w2 ⟨v', h1, h2, h3⟩ => ⟨v', h1, h2.mono hbw.size, else_of (by decide) (else_of (by decide) h3)⟩)
      simp only [putAll, List.take_succ_cons, List.take_zero]
      go_simp
    · intro x' w' hb hd
      have hbw : Below w.heap.size w w' := (below_drewN0 w k).trans hb
      have e0 : w'.cell? ⟨q, 0, none⟩ = some (.slice an ln c1) := (hbw.cell (p := ⟨q, 0, none⟩) hqw).trans cn
      have e1 : w'.cell? ⟨q, 1, none⟩ = some (.slice av lv c2) := (hbw.cell (p := ⟨q, 1, none⟩) hqw).trans cv
      refine owesK_here (.int .i64 (p : Int)) (by rfl) ?_ rfl (else_of (by decide) (else_of (by decide) (Below.refl _ _)))
      simp only [putAll, List.take_succ_cons, List.take_zero]
      go_simp
    · intro x' w' hb hd
      have hbw : Below w.heap.size w w' := (below_drewN0 w k).trans hb
      have e0 : w'.cell? ⟨q, 0, none⟩ = some (.slice an ln c1) := (hbw.cell (p := ⟨q, 0, none⟩) hqw).trans cn
      have e1 : w'.cell? ⟨q, 1, none⟩ = some (.slice av lv c2) := (hbw.cell (p := ⟨q, 1, none⟩) hqw).trans cv
      refine owesK_here (.int .i64 (p : Int)) (by rfl) ?_ rfl (else_of (by decide) (else_of (by decide) (Below.refl _ _)))
      simp only [putAll, List.take_succ_cons, List.take_zero]
      go_simp
    · intro x' w' hb hd
      have hbw : Below w.heap.size w w' := (below_drewN0 w k).trans hb
      have e0 : w'.cell? ⟨q, 0, none⟩ = some (.slice an ln c1) := (hbw.cell (p := ⟨q, 0, none⟩) hqw).trans cn
      have e1 : w'.cell? ⟨q, 1, none⟩ = some (.slice av lv c2) := (hbw.cell (p := ⟨q, 1, none⟩) hqw).trans cv
      have k0 : x' 6 = .int .i64 (p : Int) := hd 6 (by simp)
      refine owesK_here (.int .i64 ((p : Int) + 1)) (by rfl) ?_ rfl (else_of (by decide) (else_of (by decide) (Below.refl _ _)))
      simp only [putAll, List.take_succ_cons, List.take_zero]
      go_simp
    · intro x' w' hb hd
      have hbw : Below w.heap.size w w' := (below_drewN0 w k).trans hb
      have e0 : w'.cell? ⟨q, 0, none⟩ = some (.slice an ln c1) := (hbw.cell (p := ⟨q, 0, none⟩) hqw).trans cn
      have e1 : w'.cell? ⟨q, 1, none⟩ = some (.slice av lv c2) := (hbw.cell (p := ⟨q, 1, none⟩) hqw).trans cv
      have k4 : OwnAt RVal 1 w' w.heap.size 9 (x' 4) xs := hd 4 (by simp)
      have k5 : x' 5 = .int .i64 (p : Int) := hd 5 (by simp)
      have k7 : x' 7 = .int .i64 ((p : Int) + 1) := hd 7 (by simp)
      refine owesK_call 87 #[x' 4, .int .i64 (p : Int), .int .i64 ((p : Int) + 1)] (by rfl) ?_ ((delStr_any (x' 4) xs w.heap.size p w' k4 hxp hxs).mono fun e w2 ⟨g, c, h0, hB, h1, h2, h3⟩ => ⟨_, h1, h2, then_of rfl (del_same k4 h0 hB h3 hbw.size)⟩)
      simp only [putAll, List.take_succ_cons, List.take_zero]
      go_simp
    · intro x' w' hb hd
      have hbw : Below w.heap.size w w' := (below_drewN0 w k).trans hb
      have e0 : w'.cell? ⟨q, 0, none⟩ = some (.slice an ln c1) := (hbw.cell (p := ⟨q, 0, none⟩) hqw).trans cn
      have e1 : w'.cell? ⟨q, 1, none⟩ = some (.slice av lv c2) := (hbw.cell (p := ⟨q, 1, none⟩) hqw).trans cv
      refine owesK_here (.pointer (some ⟨q, 0, none⟩)) (by rfl) ?_ rfl (else_of (by decide) (else_of (by decide) (Below.refl _ _)))
      simp only [putAll, List.take_succ_cons, List.take_zero]
      go_simp
    · intro x' w' hb hd
      have hbw : Below w.heap.size w w' := (below_drewN0 w k).trans hb
      have e0 : w'.cell? ⟨q, 0, none⟩ = some (.slice an ln c1) := (hbw.cell (p := ⟨q, 0, none⟩) hqw).trans cn
      have e1 : w'.cell? ⟨q, 1, none⟩ = some (.slice av lv c2) := (hbw.cell (p := ⟨q, 1, none⟩) hqw).trans cv
      have k0 : x' 9 = .pointer (some ⟨q, 0, none⟩) := hd 9 (by simp)
      refine owesK_here (.pointer (some ⟨q, 0, none⟩)) (by rfl) ?_ rfl (else_of (by decide) (else_of (by decide) (Below.refl _ _)))
      simp only [putAll, List.take_succ_cons, List.take_zero]
      go_simp
    · intro x' w' hb hd
      have hbw : Below w.heap.size w w' := (below_drewN0 w k).trans hb
      have e0 : w'.cell? ⟨q, 0, none⟩ = some (.slice an ln c1) := (hbw.cell (p := ⟨q, 0, none⟩) hqw).trans cn
      have e1 : w'.cell? ⟨q, 1, none⟩ = some (.slice av lv c2) := (hbw.cell (p := ⟨q, 1, none⟩) hqw).trans cv
      have k0 : x' 10 = .pointer (some ⟨q, 0, none⟩) := hd 10 (by simp)
      refine owesK_here (.pointer (some ⟨q, 1, none⟩)) (by rfl) ?_ rfl (else_of (by decide) (else_of (by decide) (Below.refl _ _)))
      simp only [putAll, List.take_succ_cons, List.take_zero]
      go_simp
    · intro x' w' hb hd
      have hbw : Below w.heap.size w w' := (below_drewN0 w k).trans hb
      have e0 : w'.cell? ⟨q, 0, none⟩ = some (.slice an ln c1) := (hbw.cell (p := ⟨q, 0, none⟩) hqw).trans cn
      have e1 : w'.cell? ⟨q, 1, none⟩ = some (.slice av lv c2) := (hbw.cell (p := ⟨q, 1, none⟩) hqw).trans cv
      have k0 : x' 11 = .pointer (some ⟨q, 1, none⟩) := hd 11 (by simp)
      refine owesK_here (.slice av lv c2) (by rfl) ?_ rfl (else_of (by decide) (else_of (by decide) (Below.refl _ _)))
      simp only [putAll, List.take_succ_cons, List.take_zero]
      go_simp
    · intro x' w' hb hd
      have hbw : Below w.heap.size w w' := (below_drewN0 w k).trans hb
      have e0 : w'.cell? ⟨q, 0, none⟩ = some (.slice an ln c1) := (hbw.cell (p := ⟨q, 0, none⟩) hqw).trans cn
      have e1 : w'.cell? ⟨q, 1, none⟩ = some (.slice av lv c2) := (hbw.cell (p := ⟨q, 1, none⟩) hqw).trans cv
      have k0 : x' 12 = .slice av lv c2 := hd 12 (by simp)
      refine owesK_call 58 #[.slice av lv c2] (by rfl) ?_ ((HC2.out w' hbw).mono fun e w2 ⟨v', h1, h2, h3⟩ => ⟨v', h1, h2.mono hbw.size, else_of (by decide) (else_of (by decide) h3)⟩)
      simp only [putAll, List.take_succ_cons, List.take_zero]
      go_simp
    · intro x' w' hb hd
      have hbw : Below w.heap.size w w' := (below_drewN0 w k).trans hb
      have e0 : w'.cell? ⟨q, 0, none⟩ = some (.slice an ln c1) := (hbw.cell (p := ⟨q, 0, none⟩) hqw).trans cn
      have e1 : w'.cell? ⟨q, 1, none⟩ = some (.slice av lv c2) := (hbw.cell (p := ⟨q, 1, none⟩) hqw).trans cv
      refine owesK_here (.int .i64 (p : Int)) (by rfl) ?_ rfl (else_of (by decide) (else_of (by decide) (Below.refl _ _)))
      simp only [putAll, List.take_succ_cons, List.take_zero]
      go_simp
    · intro x' w' hb hd
      have hbw : Below w.heap.size w w' := (below_drewN0 w k).trans hb
      have e0 : w'.cell? ⟨q, 0, none⟩ = some (.slice an ln c1) := (hbw.cell (p := ⟨q, 0, none⟩) hqw).trans cn
      have e1 : w'.cell? ⟨q, 1, none⟩ = some (.slice av lv c2) := (hbw.cell (p := ⟨q, 1, none⟩) hqw).trans cv
      refine owesK_here (.int .i64 (p : Int)) (by rfl) ?_ rfl (else_of (by decide) (else_of (by decide) (Below.refl _ _)))
      simp only [putAll, List.take_succ_cons, List.take_zero]
      go_simp
    · intro x' w' hb hd
      have hbw : Below w.heap.size w w' := (below_drewN0 w k).trans hb
      have e0 : w'.cell? ⟨q, 0, none⟩ = some (.slice an ln c1) := (hbw.cell (p := ⟨q, 0, none⟩) hqw).trans cn
      have e1 : w'.cell? ⟨q, 1, none⟩ = some (.slice av lv c2) := (hbw.cell (p := ⟨q, 1, none⟩) hqw).trans cv
      have k0 : x' 15 = .int .i64 (p : Int) := hd 15 (by simp)
      refine owesK_here (.int .i64 ((p : Int) + 1)) (by rfl) ?_ rfl (else_of (by decide) (else_of (by decide) (Below.refl _ _)))
      simp only [putAll, List.take_succ_cons, List.take_zero]
      go_simp
    · intro x' w' hb hd
      have hbw : Below w.heap.size w w' := (below_drewN0 w k).trans hb
      have e0 : w'.cell? ⟨q, 0, none⟩ = some (.slice an ln c1) := (hbw.cell (p := ⟨q, 0, none⟩) hqw).trans cn
      have e1 : w'.cell? ⟨q, 1, none⟩ = some (.slice av lv c2) := (hbw.cell (p := ⟨q, 1, none⟩) hqw).trans cv
      have k4 : OwnAt RVal 1 w' w.heap.size 51 (x' 13) ys := hd 13 (by simp)
      have k5 : x' 14 = .int .i64 (p : Int) := hd 14 (by simp)
      have k7 : x' 16 = .int .i64 ((p : Int) + 1) := hd 16 (by simp)
      refine owesK_call 64 #[x' 13, .int .i64 (p : Int), .int .i64 ((p : Int) + 1)] (by rfl) ?_ ((delVal_any (x' 13) ys w.heap.size p w' k4 hyp hys).mono fun e w2 ⟨g, c, h0, hB, h1, h2, h3⟩ => ⟨_, h1, h2, else_of (by decide) (then_of rfl (del_same k4 h0 hB h3 hbw.size))⟩)
      simp only [putAll, List.take_succ_cons, List.take_zero]
      go_simp
    · intro x' w' hb hd
      have hbw : Below w.heap.size w w' := (below_drewN0 w k).trans hb
      have e0 : w'.cell? ⟨q, 0, none⟩ = some (.slice an ln c1) := (hbw.cell (p := ⟨q, 0, none⟩) hqw).trans cn
      have e1 : w'.cell? ⟨q, 1, none⟩ = some (.slice av lv c2) := (hbw.cell (p := ⟨q, 1, none⟩) hqw).trans cv
      have k8 : OwnAt RVal 1 w' w.heap.size 9 (x' 8) (xs.eraseIdx p) := hd 8 (by simp)
      have k17 : OwnAt RVal 1 w' w.heap.size 51 (x' 17) (ys.eraseIdx p) := hd 17 (by simp)
      obtain ⟨a8, c8, e8, _, _⟩ := k8.row.len
      obtain ⟨a17, c17, e17, _, _⟩ := k17.row.len
      refine owesK_here (.agg #[x' 8, x' 17]) (by rfl) ?_ rfl (else_of (by decide) (else_of (by decide) (Below.refl _ _)))
      simp only [putAll, List.take_succ_cons, List.take_zero]
      go_simp
    · intro x' w' hb hd
      have hbw : Below w.heap.size w w' := (below_drewN0 w k).trans hb
      have e0 : w'.cell? ⟨q, 0, none⟩ = some (.slice an ln c1) := (hbw.cell (p := ⟨q, 0, none⟩) hqw).trans cn
      have e1 : w'.cell? ⟨q, 1, none⟩ = some (.slice av lv c2) := (hbw.cell (p := ⟨q, 1, none⟩) hqw).trans cv
      have k8 : OwnAt RVal 1 w' w.heap.size 9 (x' 8) (xs.eraseIdx p) := hd 8 (by simp)
      have k17 : OwnAt RVal 1 w' w.heap.size 51 (x' 17) (ys.eraseIdx p) := hd 17 (by simp)
      have k18 : x' 18 = .agg #[x' 8, x' 17] := hd 18 (by simp)
      obtain ⟨a8, c8, e8, _, _⟩ := k8.row.len
      obtain ⟨a17, c17, e17, _, _⟩ := k17.row.len
      refine owesK_makes (.pointer (some ⟨w'.heap.size, 0, none⟩)) (w' := w'.alloc (.cells #[x' 8, x' 17] 85)) (by rfl) ?_ (⟨_, rfl, hbw.size, heap_alloc_new w' _⟩) (else_of (by decide) (else_of (by decide) ((Below.refl _ _).alloc (Nat.le_refl _) _)))
      simp only [putAll, List.take_succ_cons, List.take_zero]
      go_simp
    · intro x' w' hb hR
      have hbw : Below w.heap.size w w' := (below_drewN0 w k).trans hb
      have e0 : w'.cell? ⟨q, 0, none⟩ = some (.slice an ln c1) := (hbw.cell (p := ⟨q, 0, none⟩) hqw).trans cn
      have e1 : w'.cell? ⟨q, 1, none⟩ = some (.slice av lv c2) := (hbw.cell (p := ⟨q, 1, none⟩) hqw).trans cv
      have k8 : OwnAt RVal 1 w' w.heap.size 9 (x' 8) (xs.eraseIdx p) := hR 8 (by omega) rfl
      have k17 : OwnAt RVal 1 w' w.heap.size 51 (x' 17) (ys.eraseIdx p) := hR 17 (by omega) rfl
      obtain ⟨q', k19, hq1, kq⟩ : ∃ g, x' 19 = .pointer (some ⟨g, 0, none⟩) ∧ w.heap.size ≤ g ∧ w'.heap[g]? = some (.cells #[x' 8, x' 17] 85 (0, 0)) := hR 19 (by omega) rfl
      have Hb := Lib.hid hbw
      have K8 := Lib.hid k8
      have K17 := Lib.hid k17
      have Kq := Lib.hid kq
      clear hR hb hbw k8 k17 kq e0 e1
      simp only [putAll, List.take_succ_cons, List.take_zero, List.drop_succ_cons, List.drop_zero]
      try simp only [Act.put, List.setIfInBounds_toArray, List.set_cons_zero, List.set_cons_succ]
      go_wp2_with fail
      go_ret
      refine ⟨q', ?_, ?_, Hb.out⟩
      · show Ending.returned (x' 19) = _
        rw [k19]
      · refine Hfin.out w' q' (x' 8) (x' 17) (KeepT.of Hb.out) (fun hm => by have h9 := HT.out _ hm; omega) ?_ ?_ K8.out.row (off_new K8.out HT.out) K17.out.row (off_new K17.out HT.out)
        · rw [cell_block Kq.out]; rfl
        · rw [cell_block Kq.out]; rfl
  · rw [hg] at HS
    have hcut := cut_none hg
    rw [hcut]
    have Hob := Lib.hid hob
    clear hg hrn hrv hxr hyr hxR hyR hon hov hsp hs hxl hyl hob hcut hT
    go_enter Tryz.func62, Tryz.ntmps62
    go_wp2_with fail
    refine HS.out.mono ?_
    rintro E w1 ⟨rfl, k, rfl⟩
    go_wp2_with fail
    go_ret
    exact ⟨q, rfl, Hob.out.keepT (KeepT.drewN w k) (fun _ _ ⟨v, e, hv⟩ => ⟨v, e, hv.keepT (KeepT.drewN w k)⟩), below_drewN0 w k⟩
end Go.Proofs.YtlcongehmjiabaaGreatDoor
/- tree.Put, Cut: their contracts (printed by gen_put.py). -/
namespace Go.Proofs.YtlcongehmjiabaaGreatDoor
open Go.RowKit
open JP (JV Bs)

theorem place_no {s : Bs} {many : Nat} {w : World} (h : JP.place s many = none) (hs : s.length ≤ 1048576) (hm : many ≤ 1048576) (ht : TabOK w) (he : ErrOK w) :
    Calls Tryz.prog 57 #[.string (mkB s), .int .i64 (many : Int)] w fun e w' => ∃ z : Int, e = .returned (.tuple #[.int .i64 z, .bool false]) ∧ Below w.heap.size w w' := by
  unfold JP.place at h
  have hne : s ≠ [45] := fun e => by rw [if_pos e] at h; cases h
  rw [if_neg hne] at h
  have HI := Lib.hid (index_no h hs (by omega) ht he)
  have hp : ((mkB s).toList == [45]) = false := by
    rw [ByteArray.toList_eq, mkB_list, beq_eq_false_iff_ne]
    exact hne
  rw [show ((many + 1 : Nat) : Int) = (many : Int) + 1 from by omega] at HI
  clear h hs ht he hne
  go_enter Tryz.func57, Tryz.ntmps57
  go_wp2_with fail
  refine HI.out.mono ?_
  rintro E w1 ⟨z, rfl, hb⟩
  have HB := Lib.hid hb
  clear hb
  go_wp2_with fail
  go_ret2
  exact ⟨z, rfl, HB.out⟩
theorem place_yes {s : Bs} {many k : Nat} {w : World} (h : JP.place s many = some k) (hs : s.length ≤ 1048576) (hm : many ≤ 1048576) (ht : TabOK w) (he : ErrOK w) :
    Calls Tryz.prog 57 #[.string (mkB s), .int .i64 (many : Int)] w fun e w' => e = .returned (.tuple #[.int .i64 (k : Int), .bool true]) ∧ Below w.heap.size w w' := by
  unfold JP.place at h
  by_cases hd : s = [45]
  · rw [if_pos hd] at h
    cases h
    have hp : ((mkB s).toList == [45]) = true := by
      rw [ByteArray.toList_eq, mkB_list, beq_iff_eq]
      exact hd
    clear hd hs ht he
    go_enter Tryz.func57, Tryz.ntmps57
    go_wp2_with fail
    go_ret2
    exact ⟨rfl, Below.refl _ _⟩
  · rw [if_neg hd] at h
    have HI := Lib.hid (index_yes h hs (by omega) ht he)
    have hp : ((mkB s).toList == [45]) = false := by
      rw [ByteArray.toList_eq, mkB_list, beq_eq_false_iff_ne]
      exact hd
    rw [show ((many + 1 : Nat) : Int) = (many : Int) + 1 from by omega] at HI
    clear h hs ht he hd
    go_enter Tryz.func57, Tryz.ntmps57
    go_wp2_with fail
    refine HI.out.mono ?_
    rintro E w1 ⟨rfl, hb⟩
    have HB := Lib.hid hb
    clear hb
    go_wp2_with fail
    go_ret2
    exact ⟨rfl, HB.out⟩
theorem place_le {s : Bs} {many k : Nat} (h : JP.place s many = some k) : k ≤ many := by
  unfold JP.place at h
  split at h
  · cases h; exact Nat.le_refl _
  · have := (JP.idx_some h).1; omega
/-- what the closure has captured: a box that holds a value -/
def BoxOf (cb : Nat) (y : JV) (w : World) : Prop := ∃ wv m, w.cell? ⟨cb, 0, none⟩ = some wv ∧ JvAt m [] w wv y
theorem BoxOf.below {cb : Nat} {y : JV} {w w' : World} (h : BoxOf cb y w) (hb : Below w.heap.size w w') : BoxOf cb y w' := by
  obtain ⟨wv, m, h1, h2⟩ := h
  exact ⟨wv, m, (hb.cell (p := ⟨cb, 0, none⟩) (World.block_lt_of_cell? w ⟨cb, 0, none⟩ h1)).trans h1, h2.below hb⟩
theorem three_ways (x : JV) : (∃ l, x = .obj l) ∨ (∃ l, x = .list l) ∨ ((∀ l, x ≠ .obj l) ∧ (∀ l, x ≠ .list l)) := by
  cases x with
  | obj l => exact .inl ⟨l, rfl⟩
  | list l => exact .inr (.inl ⟨l, rfl⟩)
  | _ => exact .inr (.inr ⟨fun l e => (by cases e), fun l e => (by cases e)⟩)
theorem putL_no {w x : JV} {s : Bs} (h1 : ∀ l, x ≠ .obj l) (h2 : ∀ l, x ≠ .list l) : JP.putL w x s = none ∧ JP.insL w x s = none ∧ JP.cutL x s = none := by
  cases x with
  | obj l => exact absurd rfl (h1 l)
  | list l => exact absurd rfl (h2 l)
  | _ => exact ⟨rfl, rfl, rfl⟩
set_option maxRecDepth 100000 in
set_option maxHeartbeats 6400000 in
theorem tputL_any {cb : Nat} {y : JV} (n : Nat) (v : Value) (x : JV) (s : Bs) (w : World) (h : JvAt n [] w v x) (hz : (JP.text x).length ≤ 1000000) (hs : s.length ≤ 1048576) (ht : TabOK w) (he : ErrOK w) (hc : BoxOf cb y w) :
    Calls Tryz.prog 55 #[v, .string (mkB s), .pointer (some ⟨cb, 0, none⟩)] w (MadeE (JP.putL y x s) w) := by
  obtain ⟨R0, hR⟩ : ∃ R, JP.putL y x s = R := ⟨_, rfl⟩
  rw [hR]
  have HR := Lib.hid hR
  clear hR
  obtain ⟨wv, m, ec, hy⟩ := hc
  have hcb : cb < w.heap.size := World.block_lt_of_cell? w ⟨cb, 0, none⟩ ec
  cases n with
  | zero => cases h
  | succ n =>
    rcases three_ways x with ⟨l, rfl⟩ | ⟨l, rfl⟩ | ⟨h1, h2⟩
    · obtain ⟨q, rfl, ho⟩ := h
      have G1 := (as_obj (.pointer (some ⟨q, 0, none⟩))).2.2.2.2
      have hl : l.length ≤ 1000000 := by have := lenF_len l; have := JP.obj_len_ge l; omega
      have HWi := Lib.hid (with_any (x := s) (ho.upsJ (Nat.le_max_left n m)) (hy.ups (Nat.le_max_right n m)) (fun b hb => by cases hb) (by omega))
      have HN : Hid (R0 = some (.obj (JP.put s y l))) := Lib.hid HR.out.symm
      clear ho hy ht he hz hs hl
      go_enter Tryz.func55, Tryz.ntmps55
      go_wp2_with fail
      refine HWi.out.mono ?_
      rintro E w1 ⟨q', rfl, ho, hb⟩
      have HB := Lib.hid hb
      have HO := Lib.hid ho
      clear hb ho
      go_wp2_with fail
      go_ret2
      exact MadeE.yes (k := max n m + 1) HN.out ⟨q', rfl, HO.out⟩ HB.out
    · have hj := h
      obtain ⟨u, rfl, hr, _⟩ := h
      obtain ⟨a1, c1, rfl, _, _⟩ := hr.len
      obtain ⟨G1, G2⟩ := (as_list (.slice a1 l.length c1)).2.2.2
      have hl : l.length ≤ 1000000 := by have := lenL_len l; have := JP.list_len_ge l; omega
      cases hpl : JP.place s l.length with
      | none =>
        have HI := Lib.hid (place_no hpl hs (by omega) ht he)
        have HN : Hid (R0 = none) := Lib.hid (by rw [← HR.out, JP.putL, hpl])
        clear hpl ht he hs hr hz hj hy HR
        go_enter Tryz.func55, Tryz.ntmps55
        go_wp2_with fail
        refine HI.out.mono ?_
        rintro E w1 ⟨z, rfl, hb⟩
        have HB := Lib.hid hb
        clear hb
        go_wp2_with fail
        go_ret2
        exact MadeE.no HN.out HB.out
      | some k =>
        have HI := Lib.hid (place_yes hpl hs (by omega) ht he)
        have hkl := place_le hpl
        obtain ⟨xs, x1, x2, x3⟩ := list_raw hr
        obtain ⟨i0, hi0, hz0, hz1, hz2⟩ := info_parts Tryz.infoVal
        have HC1 := Lib.hid (fun w' (hb : Below w.heap.size w w') => cloneVal_any (.slice a1 l.length c1) xs w' (x2.below stays_val hb) (by omega))
        have HX3 := Lib.hid x3
        have HX1 := Lib.hid x1
        have HY := Lib.hid hy
        have hv1 := jv_cell hy
        have HVf := Lib.hid (jv_form hy)
        by_cases hkn : k = l.length
        · subst hkn
          have HN : Hid (R0 = some (.list (l ++ [y]))) := Lib.hid (by rw [← HR.out, JP.putL, hpl]; dsimp only; rw [if_pos rfl])
          clear ht he hs hr x2 x3 hz HR x1 hy hpl hj hkl
          go_enter Tryz.func55, Tryz.ntmps55
          go_wp2_with fail
          refine HI.out.mono ?_
          rintro E w1 ⟨rfl, hb⟩
          have HB1 := Lib.hid hb
          have ec1 : w1.cell? ⟨cb, 0, none⟩ = some wv := (hb.cell (p := ⟨cb, 0, none⟩) hcb).trans ec
          clear hb
          go_upto_region 9 with fail
          refine wp_region_relB 4 (fun ii U w' => match ii with
            | 0 => U 0 = .slice a1 l.length c1
            | 1 => OwnAt RVal 1 w' w.heap.size 51 (U 1) xs
            | 2 => U 2 = wv
            | 3 => ∃ g, U 3 = .slice (some ⟨g, 0, none⟩) 1 1 ∧ w'.heap[g]? = some (.cells #[wv] 51 (0, 0))
            | _ => True)
            (fun | 1 => [0] | 3 => [2] | _ => []) (by kernel_rfl) (by kernel_rfl) ?_ ⟨?_, ?_, ?_, ?_, trivial⟩ ?_
          · intro j u w1 w2 hb h
            match j, h with
            | 0, h => exact h
            | 1, h => exact OwnAt.below stays_val h hb
            | 2, h => exact h
            | 3, h => exact (by obtain ⟨g, h1, h2⟩ := h; exact ⟨g, h1, below_block hb h2⟩)
            | _ + 4, h => trivial
          · intro x' w' hb hd
            have hbr : Below w.heap.size w w' := HB1.out.trans (((below_drew1 w1).trans hb).mono HB1.out.size)
            have e0 : w'.cell? ⟨cb, 0, none⟩ = some wv := (hbr.cell (p := ⟨cb, 0, none⟩) hcb).trans ec
            refine owes_here (.slice a1 l.length c1) (by rfl) ?_ rfl
            simp only [putAll, List.take_succ_cons, List.take_zero]
            go_simp
          · intro x' w' hb hd
            have hbr : Below w.heap.size w w' := HB1.out.trans (((below_drew1 w1).trans hb).mono HB1.out.size)
            have e0 : w'.cell? ⟨cb, 0, none⟩ = some wv := (hbr.cell (p := ⟨cb, 0, none⟩) hcb).trans ec
            have k0 : x' 0 = .slice a1 l.length c1 := hd 0 (by simp)
            refine owes_call 58 #[.slice a1 l.length c1] (by rfl) ?_ ((HC1.out w' hbr).mono fun e w2 ⟨v', h1, h2, h3⟩ => ⟨v', h1, h2.mono hbr.size, h3⟩)
            simp only [putAll, List.take_succ_cons, List.take_zero]
            go_simp
          · intro x' w' hb hd
            have hbr : Below w.heap.size w w' := HB1.out.trans (((below_drew1 w1).trans hb).mono HB1.out.size)
            have e0 : w'.cell? ⟨cb, 0, none⟩ = some wv := (hbr.cell (p := ⟨cb, 0, none⟩) hcb).trans ec
            refine owes_here wv (by rfl) ?_ rfl
            simp only [putAll, List.take_succ_cons, List.take_zero]
            go_simp
          · intro x' w' hb hd
            have hbr : Below w.heap.size w w' := HB1.out.trans (((below_drew1 w1).trans hb).mono HB1.out.size)
            have e0 : w'.cell? ⟨cb, 0, none⟩ = some wv := (hbr.cell (p := ⟨cb, 0, none⟩) hcb).trans ec
            have k0 : x' 2 = wv := hd 2 (by simp)
            have hf := HVf.out
            refine owes_makes (.slice (some ⟨w'.heap.size, 0, none⟩) 1 1) (w' := w'.alloc (.cells #[wv] 51)) (by rfl) ?_ (⟨_, rfl, heap_alloc_new w' _⟩) ((Below.refl _ _).alloc (Nat.le_refl _) _)
            simp only [putAll, List.take_succ_cons, List.take_zero]
            rcases hf with rfl | ⟨t, u, rfl⟩
            · go_simp
            · go_simp
          · intro x' w' hb hR
            have hbr : Below w.heap.size w w' := HB1.out.trans (((below_drew1 w1).trans hb).mono HB1.out.size)
            have e0 : w'.cell? ⟨cb, 0, none⟩ = some wv := (hbr.cell (p := ⟨cb, 0, none⟩) hcb).trans ec
            have k1 : OwnAt RVal 1 w' w.heap.size 51 (x' 1) xs := hR 1 (by omega)
            obtain ⟨g, kg1, kg2⟩ : ∃ g, x' 3 = .slice (some ⟨g, 0, none⟩) 1 1 ∧ w'.heap[g]? = some (.cells #[wv] 51 (0, 0)) := hR 3 (by omega)
            have Ho1 := Lib.hid k1
            have Hb1 := Lib.hid hbr
            have hs1 := hbr.size
            have Hg := Lib.hid kg2
            clear hR hb hbr kg2 k1 e0
            simp only [putAll, List.take_succ_cons, List.take_zero, List.drop_succ_cons, List.drop_zero]
            try simp only [Act.put, List.setIfInBounds_toArray, List.set_cons_zero, List.set_cons_succ]
            go_wp2_with (at_builtin; refine wpList_append_ownAt (R := RVal) (k := 1) (e := 51) (B := w.heap.size) (l := xs) (m := [wv]) _ (by rfl) _ _ _ (by rfl) i0 _ 16 Tryz.underlying81 hi0 hz0 hz1 hz2 rfl (by omega) flat_val one_val _ (by rfl) Ho1.out _ (by exact kg1) (RowAt.one (R := RVal) (k := 1) (cs := #[wv]) Hg.out rfl ⟨rfl, hv1⟩) (by unfold maxLen; rw [HX1.out]; simp; omega) (by rw [HX1.out]; simp; omega) (by omega) ?_)
            intro v' w2 hv' hg hr _
            have hb2 : Below w.heap.size w w2 := below_of_grown Hb1.out hs1 hg hr
            have Hb2 := Lib.hid hb2
            have Hv := Lib.hid hv'
            clear hv' hg hr hb2
            go_wp2_with fail
            go_ret2
            refine MadeE.yes (k := max n m + 1) HN.out ?_ Hb2.out
            refine jv_list Hv.out.row (by rw [List.length_append, List.length_append, HX1.out]; rfl) fun j u z hu hz => ?_
            by_cases hj : j < l.length
            · rw [List.getElem?_append_left (by rw [HX1.out]; exact hj)] at hu
              rw [List.getElem?_append_left hj] at hz
              exact ((HX3.out j u z hu hz).below Hb2.out).ups (Nat.le_max_left n m)
            · rw [List.getElem?_append_right (by rw [HX1.out]; omega), HX1.out] at hu
              rw [List.getElem?_append_right (by omega)] at hz
              by_cases hj2 : j - l.length = 0
              · rw [hj2] at hu hz
                cases hu
                cases hz
                exact (HY.out.below Hb2.out).ups (Nat.le_max_right n m)
              · rw [List.getElem?_eq_none (by simp; omega)] at hu
                cases hu
        · have hidx : JP.idx s l.length = some k := by
            have hne : s ≠ [45] := fun e => by
              unfold JP.place at hpl
              rw [if_pos e] at hpl
              exact hkn (Option.some.inj hpl).symm
            exact (JP.put_dash hne (by omega) hpl).2.resolve_left hkn
          have hcd : JP.child (.list l) s = some (l[k]'(JP.idx_some hidx).1) := by
            show (JP.idx s l.length).bind (fun n => l[n]?) = _
            rw [hidx]
            exact List.getElem?_eq_getElem _
          have HRp := Lib.hid (fun (w' : World) (hb : Below w.heap.size w w') => replaced_any (s := s) (hj.below hb) (hy.below hb) hcd hz hs (ht.below hb) (he.below hb))
          have HN : Hid (R0 = some (JP.repl (.list l) s y)) := Lib.hid (by rw [← HR.out, JP.putL, hpl, JP.repl, hidx]; dsimp only; rw [if_neg hkn])
          have q1 : ((k : Int) == (l.length : Int)) = false := by rw [beq_eq_false_iff_ne]; omega
          clear ht he hs hr x2 x3 hz HR x1 hy hpl hj hkl hcd hidx hkn
          go_enter Tryz.func55, Tryz.ntmps55
          go_wp2_with fail
          refine HI.out.mono ?_
          rintro E w1 ⟨rfl, hb⟩
          have HB1 := Lib.hid hb
          have ec1 : w1.cell? ⟨cb, 0, none⟩ = some wv := (hb.cell (p := ⟨cb, 0, none⟩) hcb).trans ec
          clear hb
          go_wp2_with fail
          refine (HRp.out w1 HB1.out).mono ?_
          rintro E w2 ⟨u2, rfl, ⟨k2, hk2⟩, hb2⟩
          have HB2 := Lib.hid (HB1.out.trans (hb2.mono HB1.out.size))
          have HJ := Lib.hid hk2
          clear hb2 hk2
          go_wp2_with fail
          go_ret2
          exact MadeE.yes HN.out HJ.out HB2.out
    · have G1 := as_other h h1
      have G2 := as_nolist h h2
      have HN : Hid (R0 = none) := Lib.hid (by rw [← HR.out]; exact (putL_no (w := y) h1 h2).1)
      clear h h1 h2 ht he hz hs HR hy
      go_enter Tryz.func55, Tryz.ntmps55
      go_wp2_with fail
      go_ret2
      exact MadeE.no HN.out (Below.refl _ _)
theorem enter_tput (a : Array Value) (w : World) : (callFunc 55 a).run Tryz.prog w = .ok (.enter 55 a) w := by kernel_rfl
set_option maxRecDepth 100000 in
set_option maxHeartbeats 3200000 in
theorem tput_any {n m : Nat} {v sv wv : Value} {x y : JV} {l : List Bs} {w : World} (h : JvAt n [] w v x) (hy : JvAt m [] w wv y) (hz : (JP.text x).length ≤ 1000000) (hs : StrAt w sv (l.map mkB)) (hl : ∀ s ∈ l, s.length ≤ 1048576) (hll : l.length ≤ 1048576) (ht : TabOK w) (he : ErrOK w) :
    Calls Tryz.prog 30 #[v, sv, wv] w (MadeE (JP.putW x l y) w) := by
  obtain ⟨a1, c1, hu, _, _⟩ := hs.len
  rw [List.length_map] at hu
  subst hu
  obtain ⟨W, hW⟩ : ∃ W, w.alloc (.cells #[wv] 51) = W := ⟨_, rfl⟩
  have hf := jv_form hy
  have hb : Below w.heap.size w W := by rw [← hW]; exact (Below.refl _ _).alloc (Nat.le_refl _) _
  have hcell : W.cell? ⟨w.heap.size, 0, none⟩ = some wv := by rw [← hW, cell_block (heap_alloc_new w _)]; rfl
  have HB := Lib.hid hb
  by_cases h0 : l = []
  · subst h0
    have HJ := Lib.hid (hy.below hb)
    have HN : Hid (JP.putW x [] y = some y) := Lib.hid (if_pos rfl)
    clear h hy hz hs hl hll ht he hb
    go_enter Tryz.func30, Tryz.ntmps30
    rcases hf with rfl | ⟨t, u, rfl⟩
    all_goals
      go_wp2_with fail
      go_ret2
      exact MadeE.yes HN.out HJ.out HB.out
  · have hU := under1_any (cap := .pointer (some ⟨w.heap.size, 0, none⟩)) (F := JP.putL y) enter_tput (Cap := BoxOf w.heap.size y) (fun w' w2 h hb => h.below hb) (fun n v x s w' h1 h2 h3 h4 h5 h6 => tputL_any n v x s w' h1 h2 h3 h4 h5 h6) l n v (.slice a1 l.length c1) x W h0 (h.below hb) hz (hs.below hb) hl hll (ht.below hb) (he.below hb) ⟨wv, m, hcell, hy.below hb⟩
    have HU := Lib.hid hU
    have HN : Hid (JP.putW x l y = JP.under (JP.putL y) x l) := Lib.hid (if_neg h0)
    have q1 : ((l.length : Int) == 0) = false := by
      rw [beq_eq_false_iff_ne]
      intro e
      exact h0 (List.eq_nil_of_length_eq_zero (by omega))
    clear h hy hz hs hl hll ht he hb hU h0
    rw [HN.out]
    go_enter Tryz.func30, Tryz.ntmps30
    rcases hf with rfl | ⟨t, u, rfl⟩
    all_goals
      go_wp2_with fail
      refine HU.out.mono ?_
      rintro E w1 ⟨u, rfl, hu, hb1⟩
      have HB1 := Lib.hid (HB.out.trans (hb1.mono HB.out.size))
      have Hu := Lib.hid hu
      clear hb1 hu
      go_wp2_with fail
      go_ret2
      exact ⟨u, rfl, Hu.out, HB1.out⟩
set_option maxRecDepth 100000 in
set_option maxHeartbeats 6400000 in
theorem tcutL_any (n : Nat) (v : Value) (x : JV) (s : Bs) (w : World) (h : JvAt n [] w v x) (hz : (JP.text x).length ≤ 1000000) (hs : s.length ≤ 1048576) (ht : TabOK w) (he : ErrOK w) :
    Calls Tryz.prog 61 #[v, .string (mkB s)] w (MadeE (JP.cutL x s) w) := by
  obtain ⟨R0, hR⟩ : ∃ R, JP.cutL x s = R := ⟨_, rfl⟩
  rw [hR]
  have HR := Lib.hid hR
  clear hR
  have HCh := Lib.hid (child_any (s := s) h hz hs ht he)
  cases n with
  | zero => cases h
  | succ n =>
    have G1o : ∀ hh : (∀ l, x ≠ .obj l), _ := fun hh => as_other h hh
    cases hcd : JP.child x s with
    | none =>
      rw [hcd] at HCh
      have HN : Hid (R0 = none) := Lib.hid (by
        rw [← HR.out]
        cases x with
        | obj l => rw [JP.cutL, if_neg (by rw [show JP.get s l = none from hcd]; decide)]
        | list l =>
          rw [JP.cutL]
          cases hi : JP.idx s l.length with
          | none => rfl
          | some k =>
            have h9 : (JP.idx s l.length).bind (fun n => l[n]?) = none := hcd
            rw [hi] at h9
            have := (JP.idx_some hi).1
            have h8 : l[k]? = none := h9
            rw [List.getElem?_eq_getElem this] at h8
            cases h8
        | _ => rfl)
      clear hcd G1o h hz hs ht he HR
      go_enter Tryz.func61, Tryz.ntmps61
      go_wp2_with fail
      refine HCh.out.mono ?_
      rintro E w1 ⟨u, rfl, _, hb⟩
      have HB := Lib.hid hb
      clear hb
      go_wp2_with fail
      go_ret2
      exact MadeE.no HN.out HB.out
    | some c =>
      rw [hcd] at HCh
      clear G1o
      rcases three_ways x with ⟨l, rfl⟩ | ⟨l, rfl⟩ | ⟨h1, h2⟩
      · obtain ⟨q, rfl, ho⟩ := h
        have G1 := (as_obj (.pointer (some ⟨q, 0, none⟩))).2.2.2.2
        have hl : l.length ≤ 1000000 := by have := lenF_len l; have := JP.obj_len_ge l; omega
        have HWi := Lib.hid (fun (w' : World) (hb : Below w.heap.size w w') => without_any (x := s) (ho.keepJ (KeepT.of hb)) (fun b hb => by cases hb) (by omega))
        have HN : Hid (R0 = some (.obj (JP.cut s l))) := Lib.hid (by rw [← HR.out, JP.cutL, if_pos (by rw [show JP.get s l = some c from hcd]; rfl)])
        clear ho ht he hz hs hl hcd HR
        go_enter Tryz.func61, Tryz.ntmps61
        go_wp2_with fail
        refine HCh.out.mono ?_
        rintro E w1 ⟨u, rfl, _, hb⟩
        have HB1 := Lib.hid hb
        clear hb
        go_wp2_with fail
        refine (HWi.out w1 HB1.out).mono ?_
        rintro E w2 ⟨q', rfl, ho, hb⟩
        have HB := Lib.hid (HB1.out.trans (hb.mono HB1.out.size))
        have HO := Lib.hid ho
        clear hb ho
        go_wp2_with fail
        go_ret2
        exact MadeE.yes (k := n + 1) HN.out ⟨q', rfl, HO.out⟩ HB.out
      · obtain ⟨u, rfl, hr, _⟩ := h
        obtain ⟨a1, c1, rfl, _, _⟩ := hr.len
        obtain ⟨G1, G2⟩ := (as_list (.slice a1 l.length c1)).2.2.2
        have hl : l.length ≤ 1000000 := by have := lenL_len l; have := JP.list_len_ge l; omega
        obtain ⟨k, hix, _⟩ := Option.bind_eq_some_iff.1 (show (JP.idx s l.length).bind (fun n => l[n]?) = some c from hcd)
        have k1 := (JP.idx_some hix).1
        have HI := Lib.hid (fun (w' : World) (hb : Below w.heap.size w w') => index_yes hix hs (by omega) (ht.below hb) (he.below hb))
        have HN : Hid (R0 = some (.list (l.eraseIdx k))) := Lib.hid (by rw [← HR.out, JP.cutL, hix])
        obtain ⟨xs, x1, x2, x3⟩ := list_raw hr
        have HC1 := Lib.hid (fun w' (hb : Below w.heap.size w w') => cloneVal_any (.slice a1 l.length c1) xs w' (x2.below stays_val hb) (by omega))
        have HX3 := Lib.hid x3
        have HX1 := Lib.hid x1
        clear ht he hs hr x2 x3 hz HR hix x1 hcd
        go_enter Tryz.func61, Tryz.ntmps61
        go_wp2_with fail
        refine HCh.out.mono ?_
        rintro E w1 ⟨u, rfl, _, hb⟩
        have HB1 := Lib.hid hb
        clear hb
        go_wp2_with fail
        refine (HI.out w1 HB1.out).mono ?_
        rintro E w2 ⟨rfl, hb⟩
        have HB2 := Lib.hid (HB1.out.trans (hb.mono HB1.out.size))
        clear hb
        go_wp2_with fail
        refine (HC1.out w2 HB2.out).mono ?_
        rintro E w3 ⟨v9, rfl, hown, hb⟩
        have HB3 := Lib.hid (HB2.out.trans (hb.mono HB2.out.size))
        have HD := Lib.hid (delVal_any v9 xs w2.heap.size k w3 hown (by rw [HX1.out]; exact k1) (by rw [HX1.out]; omega))
        have hs2 := HB2.out.size
        clear hown hb
        go_wp2_with fail
        refine HD.out.mono ?_
        rintro E w4 ⟨g, c9, _, hB, rfl, hown, t4⟩
        have HB4 : Hid (Below w.heap.size w w4) := Lib.hid (t4.below HB3.out (by omega))
        have HO := Lib.hid hown
        clear hown t4
        go_wp2_with fail
        go_ret2
        refine MadeE.yes (k := n + 1) HN.out ?_ HB4.out
        refine jv_list HO.out.row (by rw [List.length_eraseIdx_of_lt (by rw [HX1.out]; exact k1), List.length_eraseIdx_of_lt k1, HX1.out]) fun j u z hu hz => ?_
        exact pairs_erase (P := fun u z => JvAt n [] w4 u z) (fun j u z hu hz => (HX3.out j u z hu hz).below HB4.out) k j u z hu hz
      · exfalso
        cases x with
        | obj l => exact absurd rfl (h1 l)
        | list l => exact absurd rfl (h2 l)
        | _ => cases hcd
theorem enter_tcut (a : Array Value) (w : World) : (callFunc 61 a).run Tryz.prog w = .ok (.enter 61 a) w := by kernel_rfl
set_option maxRecDepth 100000 in
set_option maxHeartbeats 3200000 in
theorem tcut_any {n : Nat} {v sv : Value} {x : JV} {l : List Bs} {w : World} (h : JvAt n [] w v x) (hz : (JP.text x).length ≤ 1000000) (hs : StrAt w sv (l.map mkB)) (hl : ∀ s ∈ l, s.length ≤ 1048576) (hll : l.length ≤ 1048576) (h0 : l ≠ []) (ht : TabOK w) (he : ErrOK w) :
    Calls Tryz.prog 33 #[v, sv] w (MadeE (JP.cutW x l) w) := by
  have HU := Lib.hid (under0_any (F := JP.cutL) enter_tcut (Cap := fun _ => True) (fun _ _ _ _ => trivial) (fun n v x s w' h1 h2 h3 h4 h5 _ => tcutL_any n v x s w' h1 h2 h3 h4 h5) l n v sv x w h0 h hz hs hl hll ht he trivial)
  unfold JP.cutW
  clear h hz hs hl hll ht he h0
  go_enter Tryz.func33, Tryz.ntmps33
  go_wp2_with fail
  refine HU.out.mono ?_
  rintro E w1 ⟨u, rfl, hu, hb1⟩
  have HB1 := Lib.hid hb1
  have Hu := Lib.hid hu
  clear hb1 hu
  go_wp2_with fail
  go_ret2
  exact ⟨u, rfl, Hu.out, HB1.out⟩
end Go.Proofs.YtlcongehmjiabaaGreatDoor
/- What the library's string functions read: one variable's cell, of whatever value. -/
namespace Go.Proofs.YtlcongehmjiabaaGreatDoor
open Go.RowKit

/-- what the library's string functions read -/
def MaxOK (m : Int) (w : World) : Prop := w.cell? ⟨0, 0, none⟩ = some (.int .i64 m)
theorem MaxOK.below {m : Int} {w w' : World} (h : MaxOK m w) (hb : Below w.heap.size w w') : MaxOK m w' := by
  have hlt : 0 < w.heap.size := by
    rcases Nat.eq_zero_or_pos w.heap.size with h0 | h0
    · unfold MaxOK World.cell? at h
      rw [Array.getElem?_eq_none (by simpa using h0)] at h
      simp at h
    · exact h0
  exact (hb.cell (p := ⟨0, 0, none⟩) hlt).trans h
theorem MaxOK.drewN {m : Int} {w : World} (h : MaxOK m w) (k : Nat) : MaxOK m (w.drewN k) := h
theorem max_of {w : World} (h : w.ShapedOpen Tryz.prog) : ∃ m, MaxOK m w := Tryz.laysM143.s1_3 w h
end Go.Proofs.YtlcongehmjiabaaGreatDoor
/- ptr: a step is escaped and read: the calls; Join: its contract. -/
namespace Go.Proofs.YtlcongehmjiabaaGreatDoor
open Go.RowKit

theorem esc_len (l : List UInt8) : (escS l).length ≤ 2 * l.length := by
  rw [escS_eq]
  induction l with
  | nil => simp
  | cons b l ih =>
    rw [List.flatMap_cons, List.length_append, List.length_cons]
    have : (escB b).length ≤ 2 := by unfold escB; split; · simp
                                     split <;> simp
    omega
def joinL (l : List ByteArray) : List UInt8 := l.flatMap fun s => 47 :: escS s.data.toList
theorem joinL_len (l : List ByteArray) : (joinL l).length ≤ 2 * total l := by
  induction l with
  | nil => simp [joinL]
  | cons s r ih =>
    have h1 := esc_len s.data.toList
    have h2 : s.data.toList.length = s.size := by simp
    unfold joinL at ih ⊢
    rw [List.flatMap_cons, List.length_append, List.length_cons]
    have h3 : total (s :: r) = s.size + 1 + total r := by simp [total]
    omega
set_option maxRecDepth 100000 in
set_option maxHeartbeats 800000 in
theorem ptrJoin_any (v : Value) (l : List ByteArray) (m : Int) (w : World) (h : StrAt w v l) (hl : total l ≤ 4194304) (hm : MaxOK m w) :
    Calls Tryz.prog 92 #[v] w fun e w' => e = .returned (if 10 < l.length then .tuple #[.string ⟨#[]⟩, .int .i64 2] else .tuple #[.string ⟨(joinL l).toArray⟩, .int .i64 0]) ∧ Below w.heap.size w w' := by
  have hll : l.length ≤ 4194304 := by have := total_length l; omega
  obtain ⟨a1, c1, rfl, hc1, hc2⟩ := h.row.len
  have H := Lib.hid h
  have Hm := Lib.hid hm
  have Hl := Lib.hid hl
  clear h hm hl
  by_cases h10 : 10 < l.length
  · rw [if_pos h10]
    have q0 : (10 : Int) < (l.length : Int) := by omega
    go_enter Tryz.func92, Tryz.ntmps92
    go_wp2_with fail
    go_ret2
    exact ⟨rfl, Below.refl _ _⟩
  · rw [if_neg h10]
    have q0 : ¬ (10 : Int) < (l.length : Int) := by omega
    go_enter Tryz.func92, Tryz.ntmps92
    go_wp2_with fail
    go_loopg [4, 12] l.length (fun k u4 u12 wr => ∃ i : Nat, i + k = l.length ∧ u12 = .int .i64 (i : Int) ∧ u4 = .string ⟨(joinL (l.take i)).toArray⟩ ∧ Hid (Below w.heap.size w wr))
    case atStart => exact ⟨0, by omega, rfl, rfl, Lib.hid (Below.refl _ _)⟩
    case round =>
      obtain ⟨i, hig, rfl, rfl, Hbel⟩ := hrel
      have hsr := Hbel.out.size
      cases gk with
      | zero =>
        obtain rfl : i = l.length := by omega
        have Ht : Hid (l.take l.length = l) := Lib.hid (List.take_of_length_le (Nat.le_refl _))
        rw [Ht.out]
        go_wp2_with fail
        go_ret2
        exact ⟨rfl, Hbel.out⟩
      | succ k =>
        have hil : i < l.length := by omega
        obtain ⟨x, hxi⟩ : ∃ x, l[i]? = some x := ⟨l[i]'(by omega), List.getElem?_eq_getElem _⟩
        obtain ⟨b, o, c', hv, _, _, hbs, hcell⟩ := H.out.row.form (by omega) (by omega)
        injection hv with u1 u2 u3
        subst u1
        clear u2 u3
        obtain ⟨ds, _, hcc, hR⟩ := hcell i x hxi
        have hR' : ds = [.string x] := hR
        subst hR'
        have e0 : wr.cell? ⟨b, o + i, none⟩ = some (.string x) := (Hbel.out.cell (p := ⟨b, _, none⟩) hbs).trans (by simpa using hcc 0 _ rfl)
        have q1 : (0 : Int) ≤ (i : Int) := by omega
        have q2 : (i : Int) < (l.length : Int) := by omega
        have hx1 := total_mem (List.mem_of_getElem? hxi)
        have hxs : x.size ≤ 4194304 := by have := Hl.out; omega
        have Hxi := Lib.hid hxi
        clear hcc hcell hxi hx1
        obtain ⟨J, HJ⟩ : ∃ J : ByteArray, Hid (⟨(joinL (l.take i)).toArray⟩ = J) := ⟨_, Lib.hid rfl⟩
        have hJ : J.size ≤ 8388608 := by
          rw [← HJ.out]
          have h1 := joinL_len (l.take i)
          have h2 : total (l.take i) ≤ total l := by
            unfold total
            rw [List.map_take]
            conv => rhs; rw [← List.take_append_drop i (l.map fun s => s.size + 1)]
            rw [List.sum_append]; omega
          have h3 := Hl.out
          show (joinL (l.take i)).toArray.size ≤ _
          rw [List.size_toArray]; omega
        rw [HJ.out]
        go_wp2_with fail
        refine (Tryz.strings_ReplaceAll x ⟨#[126]⟩ ⟨#[126, 48]⟩ m wr (by omega) (Hm.out.below Hbel.out) (by decide) (by
          have h1 := Lib.countB_le ⟨#[126]⟩ (by decide) x.size x (Nat.le_refl _)
          have h2 : (ByteArray.mk #[126, 48]).size = 2 := rfl
          rw [h2]; omega)).mono ?_
        rintro E w2 ⟨rfl, hb2⟩
        have Hb2 := Lib.hid (Hbel.out.trans (hb2.mono hsr))
        have hs2 := Hb2.out.size
        clear hb2
        obtain ⟨y, Hy⟩ : ∃ y : ByteArray, Hid ((⟨(Lib.replaceAll x.data.toList [126] [126, 48]).toArray⟩ : ByteArray) = y) := ⟨_, Lib.hid rfl⟩
        have hy0 : (⟨(Lib.replaceAll x.data.toList (⟨#[126]⟩ : ByteArray).data.toList (⟨#[126, 48]⟩ : ByteArray).data.toList).toArray⟩ : ByteArray) = y := Hy.out
        have hyd : y.data.toList = Lib.replaceAll x.data.toList [126] [126, 48] := by rw [← Hy.out]
        have hys : y.size ≤ 8388608 := by
          have h1 : y.data.toList.length = y.size := by simp
          rw [← h1, hyd, replaceAll_one (by decide)]
          have h2 : ∀ q : List UInt8, (q.flatMap fun b => if b = 126 then [126, 48] else [b]).length ≤ 2 * q.length := fun q => by
            induction q with
            | nil => simp
            | cons b q ih =>
              rw [List.flatMap_cons, List.length_append, List.length_cons]
              have : (if b = 126 then [126, 48] else [b] : List UInt8).length ≤ 2 := by split <;> simp
              omega
          have h3 := h2 x.data.toList
          have h4 : x.data.toList.length = x.size := by simp
          omega
        rw [hy0]
        have Hyd := Lib.hid hyd
        clear hy0 hyd
        go_wp2_with fail
        refine (Tryz.strings_ReplaceAll y ⟨#[47]⟩ ⟨#[126, 49]⟩ m w2 (by omega) (Hm.out.below Hb2.out) (by decide) (by
          have h1 := Lib.countB_le ⟨#[47]⟩ (by decide) y.size y (Nat.le_refl _)
          have h2 : (ByteArray.mk #[126, 49]).size = 2 := rfl
          rw [h2]; omega)).mono ?_
        rintro E w3 ⟨rfl, hb3⟩
        have Hb3 := Lib.hid (Hb2.out.trans (hb3.mono hs2))
        obtain ⟨z, Hz⟩ : ∃ z : ByteArray, Hid ((⟨(escS x.data.toList).toArray⟩ : ByteArray) = z) := ⟨_, Lib.hid rfl⟩
        have hz0 : (⟨(Lib.replaceAll y.data.toList (⟨#[47]⟩ : ByteArray).data.toList (⟨#[126, 49]⟩ : ByteArray).data.toList).toArray⟩ : ByteArray) = z := by rw [← Hz.out, Hyd.out]; rfl
        have hzs : z.size ≤ 8388608 := by
          rw [← Hz.out]
          have h1 := esc_len x.data.toList
          have h4 : x.data.toList.length = x.size := by simp
          show (escS x.data.toList).toArray.size ≤ _
          rw [List.size_toArray]; omega
        rw [hz0]
        have s1 : ¬ 9223372036854775807 < 1 + z.size := by omega
        have s2 : ¬ 9223372036854775807 < (⟨#[47]⟩ : ByteArray).size + z.size := by have : (ByteArray.mk #[47]).size = 1 := rfl; rw [this]; omega
        have s3 : ¬ 9223372036854775807 < J.size + (1 + z.size) := by omega
        have s4 : ¬ 9223372036854775807 < J.size + ((⟨#[47]⟩ : ByteArray) ++ z).size := by rw [ByteArray.size_append]; have : (ByteArray.mk #[47]).size = 1 := rfl; rw [this]; omega
        have Hnew : Hid (J ++ ((⟨#[47]⟩ : ByteArray) ++ z) = ⟨(joinL (l.take (i + 1))).toArray⟩) := Lib.hid (by
          rw [← HJ.out, ← Hz.out, List.take_add_one, Hxi.out]
          apply ByteArray.ext
          simp [joinL])
        clear hb3 hz0 e0
        go_wp2_with fail
        go_roundg k
        case measure => omega
        case rel => exact ⟨i + 1, by omega, by go_num, congrArg Value.string Hnew.out, Hb3⟩
end Go.Proofs.YtlcongehmjiabaaGreatDoor
/- ptr.Steps: its contract. -/
namespace Go.Proofs.YtlcongehmjiabaaGreatDoor
open Go.RowKit

theorem joinL_map (l : List ByteArray) : joinL l = joinK (l.map (·.data.toList)) := by
  unfold joinL joinK
  rw [List.flatMap_map]
/-- strings.Split at one byte -/
theorem split_any (s : ByteArray) (c : UInt8) (m : Int) (w : World) (hs : s.size ≤ 16777216) (hm : MaxOK m w) :
    Calls Tryz.prog 71 #[.string s, .string ⟨#[c]⟩] w fun e w' => ∃ L : List ByteArray, L.map (·.data.toList) = splitL c s.data.toList ∧ e = .returned (.slice (some ⟨w.heap.size, 0, none⟩) L.length L.length) ∧
      w'.heap[w.heap.size]? = some (.cells (strs L).toArray 9 (0, 0)) ∧ w'.heap.size = w.heap.size + 1 ∧ Below w.heap.size w w' := by
  refine (Tryz.strings_Split s ⟨#[c]⟩ m w (by omega) hm (Nat.le_refl 1)).mono ?_
  rintro E w' ⟨rfl, rfl⟩
  have h1 : (Lib.splitB ⟨#[c]⟩ 0 (Lib.countB s ⟨#[c]⟩) s).length = Lib.countB s ⟨#[c]⟩ + 1 := Lib.splitB_all ⟨#[c]⟩ (Nat.le_refl 1) 0 _ s rfl
  refine ⟨Lib.splitB ⟨#[c]⟩ 0 (Lib.countB s ⟨#[c]⟩) s, ?_, by rw [h1], heap_alloc_at rfl, World.size_alloc _ _, (Below.refl _ w).alloc (Nat.le_refl _) _⟩
  rw [Lib.splitB_data]
  exact splitK_scan c s.data.toList
theorem splitL_len (c : UInt8) (s : List UInt8) : (splitL c s).length ≤ s.length + 1 := by
  induction s with
  | nil => simp [splitL]
  | cons x r ih =>
    rw [splitL]
    split
    · simp; omega
    · split
      · rename_i h1 h2
        rw [h2] at ih; simp at ih ⊢; omega
      · simp
theorem splitL_mem_len (c : UInt8) (s q : List UInt8) (h : q ∈ splitL c s) : q.length ≤ s.length := by
  have h1 : ((splitL c s).flatMap fun p => c :: p).length = s.length + 1 := by rw [splitL_join]; rfl
  have h2 : ∀ m : List (List UInt8), q ∈ m → q.length + 1 ≤ (m.flatMap fun p => c :: p).length := fun m => by
    induction m with
    | nil => intro h; cases h
    | cons a r ih =>
      intro h
      rw [List.flatMap_cons, List.length_append, List.length_cons]
      rcases List.mem_cons.1 h with rfl | h
      · omega
      · have := ih h; omega
  have := h2 _ h
  omega
def unB (s : ByteArray) : ByteArray := ⟨(unescS s.data.toList).toArray⟩
/-- the pieces, the first i of them read -/
def lstB (L : List ByteArray) (i : Nat) : List ByteArray := (L.take i).map unB ++ L.drop i
theorem lstB_get {L : List ByteArray} {i : Nat} {x : ByteArray} (h : L[i]? = some x) : (strs (lstB L i)).toArray[i]? = some (.string x) := by
  have hi := (List.getElem?_eq_some_iff.1 h).1
  rw [List.getElem?_toArray]
  refine strs_get ?_
  unfold lstB
  rw [List.getElem?_append_right (by simp; omega)]
  simp only [List.length_map, List.length_take, List.getElem?_drop]
  rw [show i + (i - min i L.length) = i by omega]
  exact h
theorem lstB_set {L : List ByteArray} {i : Nat} {x : ByteArray} (h : L[i]? = some x) : (strs (lstB L i)).toArray.setIfInBounds i (.string (unB x)) = (strs (lstB L (i + 1))).toArray := by
  have hi := (List.getElem?_eq_some_iff.1 h).1
  have hx := (List.getElem?_eq_some_iff.1 h).2
  rw [List.setIfInBounds_toArray]
  congr 1
  unfold strs lstB
  rw [List.drop_eq_getElem_cons hi, hx, List.take_succ_eq_append_getElem hi, hx]
  simp only [List.map_append, List.map_cons, List.map_nil, List.append_assoc, List.cons_append, List.nil_append]
  rw [List.set_append_right _ _ (by simp; omega)]
  simp [show i - min i L.length = 0 by omega]
theorem steps_bad {q : List UInt8} {L : List ByteArray} {x : ByteArray} (hL : L.map (·.data.toList) = splitL 47 q) (hx : x ∈ L) (h : okEsc x.data.toList = false) : stepsP (47 :: q) = (16, []) := by
  unfold stepsP
  simp only
  rw [if_neg (by simp), if_neg]
  rw [List.all_eq_true]
  intro h2
  have := h2 x.data.toList (by rw [← hL]; exact List.mem_map_of_mem hx)
  rw [h] at this
  cases this
theorem steps_good {q : List UInt8} {L : List ByteArray} (hL : L.map (·.data.toList) = splitL 47 q) (h : ∀ x ∈ L, okEsc x.data.toList = true) : stepsP (47 :: q) = if 10 < L.length then (2, []) else (0, (L.map unB).map (·.data.toList)) := by
  have h1 : L.length = (splitL 47 q).length := by rw [← hL, List.length_map]
  unfold stepsP
  simp only
  rw [if_neg (by simp), if_pos, h1]
  · congr 2
    unfold stepsL
    rw [← hL, List.map_map, List.map_map]
    congr 1
  · rw [← hL, List.all_eq_true]
    intro y hy
    obtain ⟨x, hx, rfl⟩ := List.mem_map.1 hy
    exact h x hx
theorem all_snoc {α : Type} {l : List α} {p : α → Prop} {j : Nat} {t : α} (h : ∀ y ∈ l.take j, p y) (ht : l[j]? = some t) (hp : p t) : Hid (∀ y ∈ l.take (j + 1), p y) := Lib.hid fun y hy => by
  rw [List.take_add_one, ht] at hy
  rcases List.mem_append.1 hy with h1 | h1
  · exact h y h1
  · simp at h1; subst h1; exact hp
theorem repl_len (l : List UInt8) : (Lib.replaceAll l [126, 49] [47]).length ≤ l.length := by
  rw [replaceAll_two (by decide)]
  exact rep2_len (by decide) _ _ (Nat.le_refl _)
theorem okEsc_tail {x : ByteArray} {L2 : List ByteArray} (h : L2.map (·.data.toList) = splitL 126 x.data.toList) : okEsc x.data.toList = L2.tail.all fun t => headOK t.data.toList := by
  rw [okEsc_split _ _ (Nat.le_refl _), ← h]
  cases L2 with
  | nil => rfl
  | cons a r => rw [List.map_cons, List.tail_cons, List.tail_cons, List.all_map]; rfl
theorem headOK_nil {t : ByteArray} (h : t.size = 0) : headOK t.data.toList = false := by
  have : t.data.toList = [] := List.eq_nil_of_length_eq_zero (by simpa using h)
  rw [this]; rfl
theorem headOK_cons {t : ByteArray} (h : 0 < t.size) : headOK t.data.toList = (t[0] == 48 || t[0] == 49) := by
  have h2 : t.data.toList = t[0] :: t.data.toList.drop 1 := by
    have := List.drop_eq_getElem_cons (l := t.data.toList) (i := 0) (by simpa using h)
    rw [List.drop_zero] at this
    exact this
  rw [h2]; rfl
def StepsAt (r : Int × List (List UInt8)) (w : World) (E : Ending) (w' : World) : Prop :=
  ∃ v', E = .returned (.tuple #[v', .int .i64 r.1]) ∧ (∃ l : List ByteArray, StrAt w' v' l ∧ l.map (·.data.toList) = r.2) ∧ Below w.heap.size w w'
set_option maxRecDepth 100000 in
set_option maxHeartbeats 1600000 in
theorem ptrSteps_any (p : ByteArray) (m : Int) (w : World) (hp : p.size ≤ 8388608) (hm : MaxOK m w) :
    Calls Tryz.prog 43 #[.string p] w (StepsAt (stepsP p.data.toList) w) := by
  have Hm := Lib.hid hm
  clear hm
  obtain ⟨R, HR⟩ : ∃ R, Hid (stepsP p.data.toList = R) := ⟨_, Lib.hid rfl⟩
  rw [HR.out]
  go_enter Tryz.func43, Tryz.ntmps43
  by_cases h0 : p.size = 0
  · have h1 : p.data.toList = [] := List.eq_nil_of_length_eq_zero (by simpa using h0)
    have q0 : p.toList.isEmpty = true := by rw [ByteArray.toList_eq, h1]; rfl
    go_wp2_with fail
    go_ret2
    have h2 : R = (0, []) := by rw [← HR.out, h1]; rfl
    subst h2
    exact ⟨_, rfl, ⟨[], StrAt.nil _, rfl⟩, Below.refl _ _⟩
  · have h0' : 0 < p.size := by omega
    have q0 : p.toList.isEmpty = false := by
      rw [ByteArray.toList_eq]
      cases h : p.data.toList with
      | nil => exact absurd (by rw [← Array.length_toList, h]; rfl : p.data.size = 0) h0
      | cons => rfl
    by_cases h47 : p[0] = 47
    · have q1 : ((p[0].toNat : Int) != 47) = false := by rw [h47]; rfl
      have q2 : 1 ≤ p.size := by omega
      have hpd : p.data.toList = 47 :: p.data.toList.drop 1 := by
        have := List.drop_eq_getElem_cons (l := p.data.toList) (i := 0) (by simpa using h0')
        rw [List.drop_zero] at this
        rw [← h47]; exact this
      have hqd : (p.extract 1 p.size).data.toList = p.data.toList.drop 1 := Lib.extract_to_end p 1
      have hqs : (p.extract 1 p.size).size ≤ 8388608 := by rw [ByteArray.size_extract]; omega
      have Hpd := Lib.hid hpd
      have Hqd := Lib.hid hqd
      clear hpd hqd h47 h0
      go_wp2_with fail
      refine (split_any (p.extract 1 p.size) 47 m w (by omega) Hm.out).mono ?_
      rintro E w1 ⟨L, hL, rfl, hh, hs1, hb⟩
      have HL := Lib.hid hL
      have Hh := Lib.hid hh
      have Hb := Lib.hid hb
      have hLl : L.length ≤ 8388609 := by
        have h1 : L.length = (splitL 47 (p.extract 1 p.size).data.toList).length := by rw [← hL, List.length_map]
        have h2 := splitL_len 47 (p.extract 1 p.size).data.toList
        have h3 : (p.extract 1 p.size).data.toList.length = (p.extract 1 p.size).size := by simp
        omega
      clear hL hh hb
      go_wp2_with fail
      go_loopg [20] L.length (fun k u20 wr => ∃ i : Nat, i + k = L.length ∧ u20 = .int .i64 (i : Int) ∧ Hid (wr.heap[w.heap.size]? = some (.cells (strs (lstB L i)).toArray 9 (0, 0))) ∧ Hid (Below w.heap.size w wr) ∧ Hid (∀ x ∈ L.take i, okEsc x.data.toList = true))
      case atStart => exact ⟨0, by omega, rfl, Lib.hid (by simpa [lstB] using Hh.out), Hb, Lib.hid (by simp)⟩
      case round =>
        obtain ⟨i, hig, rfl, Hc, Hbel, Hok⟩ := hrel
        have hsr := Hbel.out.size
        cases gk with
        | zero =>
          obtain rfl : i = L.length := by omega
          have hR : R = if 10 < L.length then (2, []) else (0, (L.map unB).map (·.data.toList)) := by
            rw [← HR.out, Hpd.out]
            exact steps_good (HL.out.trans (by rw [Hqd.out])) fun x hx => Hok.out x (by rw [List.take_of_length_le (Nat.le_refl _)]; exact hx)
          have HR2 := Lib.hid hR
          clear hR
          by_cases h10 : 10 < L.length
          · have q3 : (10 : Int) < (L.length : Int) := by omega
            have HR3 : Hid (R = (2, [])) := Lib.hid (by rw [HR2.out, if_pos h10])
            clear h10
            go_wp2_with fail
            go_ret2
            refine ⟨_, congrArg (fun n => Ending.returned (.tuple #[_, Value.int .i64 n])) (by rw [HR3.out]), ⟨[], StrAt.nil _, by rw [HR3.out]; rfl⟩, Hbel.out⟩
          · have q3 : ¬ (10 : Int) < (L.length : Int) := by omega
            have HR3 : Hid (R = (0, (L.map unB).map (·.data.toList))) := Lib.hid (by rw [HR2.out, if_neg h10])
            clear h10
            go_wp2_with fail
            go_ret2
            have h6 : lstB L L.length = L.map unB := by simp [lstB]
            refine ⟨.slice (some ⟨w.heap.size, 0, none⟩) L.length L.length, congrArg (fun n => Ending.returned (.tuple #[_, Value.int .i64 n])) (by rw [HR3.out]), ⟨L.map unB, .inr ⟨⟨w.heap.size, 0, none⟩, L.length, by rw [List.length_map], by rw [List.length_map]; exact Nat.le_refl _, by unfold maxLen; omega, fun j x hx => ?_⟩, by rw [HR3.out]⟩, Hbel.out⟩
            rw [add_plain', Nat.zero_add, cell_block Hc.out j, h6, List.getElem?_toArray]
            exact strs_get hx
        | succ k =>
          have hil : i < L.length := by omega
          obtain ⟨x, hxi⟩ : ∃ x, L[i]? = some x := ⟨L[i]'(by omega), List.getElem?_eq_getElem _⟩
          have e0 : wr.cell? ⟨w.heap.size, i, none⟩ = some (.string x) := (cell_block Hc.out i).trans (lstB_get hxi)
          have q3 : (0 : Int) ≤ (i : Int) := by omega
          have q4 : (i : Int) < (L.length : Int) := by omega
          have hxs : x.size ≤ 8388608 := by
            have h1 := splitL_mem_len 47 (p.extract 1 p.size).data.toList x.data.toList (by rw [← HL.out]; exact List.mem_map_of_mem (List.mem_of_getElem? hxi))
            have h2 : (p.extract 1 p.size).data.toList.length = (p.extract 1 p.size).size := by simp
            have h3 : x.data.toList.length = x.size := by simp
            omega
          have Hxi := Lib.hid hxi
          clear hxi
          go_wp2_with fail
          refine (split_any x 126 m wr (by omega) (Hm.out.below Hbel.out)).mono ?_
          rintro E w2 ⟨L2, hL2, rfl, hh2, hs2, hb2⟩
          have HL2 := Lib.hid hL2
          have Hh2 := Lib.hid hh2
          have Hb2 := Lib.hid (Hbel.out.trans (hb2.mono hsr))
          have Hc2 : Hid (w2.heap[w.heap.size]? = some (.cells (strs (lstB L i)).toArray 9 (0, 0))) := Lib.hid (below_block hb2 Hc.out)
          have hL2n : 1 ≤ L2.length := by
            have h1 : L2.length = (splitL 126 x.data.toList).length := by rw [← hL2, List.length_map]
            have h2 := splitL_ne 126 x.data.toList
            cases h3 : splitL 126 x.data.toList with
            | nil => exact absurd h3 h2
            | cons => rw [h1, h3]; simp
          have hL2l : L2.length ≤ 8388609 := by
            have h1 : L2.length = (splitL 126 x.data.toList).length := by rw [← hL2, List.length_map]
            have h2 := splitL_len 126 x.data.toList
            have h3 : x.data.toList.length = x.size := by simp
            omega
          have hB2 : Hid (wr.heap.size = wr.heap.size) := Lib.hid rfl
          obtain ⟨B2, HB2⟩ : ∃ B2, Hid (wr.heap.size = B2) := ⟨_, Lib.hid rfl⟩
          have Hh3 : Hid (w2.heap[B2]? = some (.cells (strs L2).toArray 9 (0, 0))) := Lib.hid (by rw [← HB2.out]; exact Hh2.out)
          rw [HB2.out]
          clear hL2 hh2 hb2 e0 hB2 Hh2
          obtain ⟨n2, Hn2⟩ : ∃ n2, Hid (L2.length = n2) := ⟨_, Lib.hid rfl⟩
          rw [Hn2.out] at hL2n hL2l ⊢
          go_upto_region 10 with fail
          go_cut [28, 29, 30] (fun u28 u29 u30 wx => ∃ o c : Nat, u28 = .slice (some ⟨B2, o, none⟩) (n2 - 1) c ∧ u29 = .int .i64 ((n2 - 1 : Nat) : Int) ∧ u30 = .int .i64 0 ∧ Hid (∀ j t, L2.tail[j]? = some t → wx.cell? ⟨B2, o + j, none⟩ = some (.string t)) ∧ w2 = wx)
          case first =>
            have htail : ∀ j t, L2.tail[j]? = some t → w2.cell? ⟨B2, 1 + j, none⟩ = some (.string t) := fun j t ht => by
              rw [cell_block Hh3.out (1 + j), List.getElem?_toArray, Nat.add_comm]
              refine strs_get ?_
              rw [List.getElem?_tail] at ht; exact ht
            have Htail := Lib.hid htail
            clear htail
            by_cases h1 : n2 = 1
            · subst h1
              go_wp2_with fail
              go_meet
              refine ⟨_, _, rfl, rfl, rfl, Lib.hid fun j t ht => ?_, rfl⟩
              have h2 := (List.getElem?_eq_some_iff.1 ht).1
              have h3 := Hn2.out
              simp at h2; omega
            · have q5 : ¬ n2 = 1 := h1
              go_wp2_with fail
              go_meet
              exact ⟨_, _, rfl, rfl, rfl, Htail, rfl⟩
          case rest =>
          obtain ⟨o, c, rfl, rfl, rfl, Hcl, rfl⟩ := hcut
          obtain ⟨n2', Hn2'⟩ : ∃ n2', Hid (n2 - 1 = n2') := ⟨_, Lib.hid rfl⟩
          rw [Hn2'.out]
          have hn2' : n2' ≤ 8388609 := by have := Hn2'.out; omega
          go_wp2_with fail
          go_loopg [30] n2' (fun kj u30 wj => ∃ j : Nat, j + kj = n2' ∧ u30 = .int .i64 (j : Int) ∧ Hid (∀ t ∈ L2.tail.take j, headOK t.data.toList = true) ∧ w2 = wj)
          case atStart => exact ⟨0, by omega, rfl, Lib.hid (by simp), rfl⟩
          case round =>
            obtain ⟨j, hjk, rfl, Hj, rfl⟩ := hrel
            cases gk with
            | zero =>
              have hok : okEsc x.data.toList = true := by
                rw [okEsc_tail HL2.out, List.all_eq_true]
                intro t ht
                have h1 : L2.tail.length = n2' := by rw [List.length_tail, Hn2.out, Hn2'.out]
                refine Hj.out t ?_
                rw [List.take_of_length_le (by omega)]; exact ht
              have Hok2 : Hid (∀ y ∈ L.take (i + 1), okEsc y.data.toList = true) := Lib.hid fun y hy => by
                rw [List.take_add_one, Hxi.out] at hy
                rcases List.mem_append.1 hy with h | h
                · exact Hok.out y h
                · simp at h; subst h; exact hok
              obtain rfl : j = n2' := by omega
              clear hok
              have e2 : w2.cell? ⟨w.heap.size, i, none⟩ = some (.string x) := (cell_block Hc2.out i).trans (lstB_get Hxi.out)
              go_wp2_with fail
              refine (Tryz.strings_ReplaceAll x ⟨#[126, 49]⟩ ⟨#[47]⟩ m w2 (by omega) (Hm.out.below Hb2.out) (by decide) (by
                have h1 := Lib.countB_le ⟨#[126, 49]⟩ (by decide) x.size x (Nat.le_refl _)
                have h2 : (ByteArray.mk #[47]).size = 1 := rfl
                rw [h2]; omega)).mono ?_
              rintro E w3 ⟨rfl, hb3⟩
              have hs2' := Hb2.out.size
              have Hb3 := Lib.hid (Hb2.out.trans (hb3.mono hs2'))
              have Hc3 := Lib.hid (below_block hb3 Hc2.out)
              have hs3 := Hb3.out.size
              obtain ⟨y, Hy⟩ : ∃ y : ByteArray, Hid ((⟨(Lib.replaceAll x.data.toList [126, 49] [47]).toArray⟩ : ByteArray) = y) := ⟨_, Lib.hid rfl⟩
              have hy0 : (⟨(Lib.replaceAll x.data.toList (⟨#[126, 49]⟩ : ByteArray).data.toList (⟨#[47]⟩ : ByteArray).data.toList).toArray⟩ : ByteArray) = y := Hy.out
              have hyd : y.data.toList = Lib.replaceAll x.data.toList [126, 49] [47] := by rw [← Hy.out]
              have hys : y.size ≤ 8388608 := by
                have h1 : y.data.toList.length = y.size := by simp
                have h2 := repl_len x.data.toList
                have h4 : x.data.toList.length = x.size := by simp
                rw [← hyd] at h2
                omega
              rw [hy0]
              have Hyd := Lib.hid hyd
              clear hy0 hyd hb3 e2
              go_wp2_with fail
              refine (Tryz.strings_ReplaceAll y ⟨#[126, 48]⟩ ⟨#[126]⟩ m w3 (by omega) (Hm.out.below Hb3.out) (by decide) (by
                have h1 := Lib.countB_le ⟨#[126, 48]⟩ (by decide) y.size y (Nat.le_refl _)
                have h2 : (ByteArray.mk #[126]).size = 1 := rfl
                rw [h2]; omega)).mono ?_
              rintro E w4 ⟨rfl, hb4⟩
              have Hb4 := Lib.hid (Hb3.out.trans (hb4.mono hs3))
              have hc4 := below_block hb4 Hc3.out
              obtain ⟨z, Hz⟩ : ∃ z : ByteArray, Hid (unB x = z) := ⟨_, Lib.hid rfl⟩
              have hz0 : (⟨(Lib.replaceAll y.data.toList (⟨#[126, 48]⟩ : ByteArray).data.toList (⟨#[126]⟩ : ByteArray).data.toList).toArray⟩ : ByteArray) = z := by rw [← Hz.out, Hyd.out]; rfl
              rw [hz0]
              have e4 : w4.cell? ⟨w.heap.size, i, none⟩ = some (.string x) := (cell_block hc4 i).trans (lstB_get Hxi.out)
              have f4 : w4.frozen? ⟨w.heap.size, i, none⟩ = false := free_block hc4 i
              have Hc4 := Lib.hid hc4
              clear hb4 hz0 hc4
              go_wp2_with fail
              go_roundg k
              case measure => omega
              case rel =>
                refine ⟨i + 1, by omega, by go_num, Lib.hid ?_, Lib.hid ((Hb4.out).setCell (p := ⟨w.heap.size, i, none⟩) (Nat.le_refl _) _), Hok2⟩
                rw [(touch_setCell Hc4.out).1, ← Hz.out, lstB_set Hxi.out]
            | succ kj =>
              have hjl : j < n2' := by omega
              have htl : j < L2.tail.length := by rw [List.length_tail, Hn2.out, Hn2'.out]; exact hjl
              obtain ⟨t, ht⟩ : ∃ t, L2.tail[j]? = some t := ⟨L2.tail[j], List.getElem?_eq_getElem htl⟩
              have e1 : w2.cell? ⟨B2, o + j, none⟩ = some (.string t) := Hcl.out j t ht
              have q5 : (0 : Int) ≤ (j : Int) := by omega
              have q6 : (j : Int) < (n2' : Int) := by omega
              have hbad : headOK t.data.toList = false → R = (16, []) := fun h => by
                rw [← HR.out, Hpd.out]
                refine steps_bad (HL.out.trans (by rw [Hqd.out])) (List.mem_of_getElem? Hxi.out) ?_
                rw [okEsc_tail HL2.out, List.all_eq_false]
                exact ⟨t, List.mem_of_getElem? ht, by rw [h]; simp⟩
              have Hbad := Lib.hid hbad
              have Ht := Lib.hid ht
              clear hbad ht
              by_cases ht0 : t.size = 0
              · have h1 : t.data.toList = [] := List.eq_nil_of_length_eq_zero (by simpa using ht0)
                have q7 : t.toList.isEmpty = true := by rw [ByteArray.toList_eq, h1]; rfl
                have HR2 := Lib.hid (Hbad.out (headOK_nil ht0))
                clear h1 ht0 Hbad
                go_wp2_with fail
                go_ret2
                exact ⟨_, congrArg (fun n => Ending.returned (.tuple #[_, Value.int .i64 n])) (by rw [HR2.out]), ⟨[], StrAt.nil _, by rw [HR2.out]; rfl⟩, Hb2.out⟩
              · have ht0' : 0 < t.size := by omega
                have q7 : t.toList.isEmpty = false := by
                  rw [ByteArray.toList_eq]
                  cases h : t.data.toList with
                  | nil => exact absurd (by rw [← Array.length_toList, h]; rfl : t.data.size = 0) ht0
                  | cons => rfl
                have hh := headOK_cons ht0'
                have key : ∀ d : UInt8, ((t[0].toNat : Int) != (d.toNat : Int)) = (t[0] != d) := fun d => by
                  by_cases h : t[0] = d
                  · rw [h]; simp
                  · have h2 : ¬ t[0].toNat = d.toNat := fun e => h (UInt8.toNat_inj.1 e)
                    rw [bne_iff_ne.2 h, bne_iff_ne]; omega
                by_cases h48 : t[0] = 48
                · have q8 : ((t[0].toNat : Int) != 48) = false := (key 48).trans (by rw [h48]; rfl)
                  have Hgo : Hid (headOK t.data.toList = true) := Lib.hid (by rw [hh, h48]; rfl)
                  clear ht0 hh key h48 Hbad
                  go_wp2_with fail
                  go_roundg kj
                  case measure => omega
                  case rel => exact ⟨j + 1, by omega, by go_num, all_snoc Hj.out Ht.out Hgo.out, rfl⟩
                · have q8 : ((t[0].toNat : Int) != 48) = true := (key 48).trans (bne_iff_ne.2 h48)
                  by_cases h49 : t[0] = 49
                  · have q9 : ((t[0].toNat : Int) != 49) = false := (key 49).trans (by rw [h49]; rfl)
                    have Hgo : Hid (headOK t.data.toList = true) := Lib.hid (by rw [hh, h49]; rfl)
                    clear ht0 hh key h48 h49 Hbad
                    go_wp2_with fail
                    go_roundg kj
                    case measure => omega
                    case rel => exact ⟨j + 1, by omega, by go_num, all_snoc Hj.out Ht.out Hgo.out, rfl⟩
                  · have q9 : ((t[0].toNat : Int) != 49) = true := (key 49).trans (bne_iff_ne.2 h49)
                    have HR2 := Lib.hid (Hbad.out (by rw [hh, Bool.or_eq_false_iff, beq_eq_false_iff_ne, beq_eq_false_iff_ne]; exact ⟨h48, h49⟩))
                    clear ht0 hh key h48 h49 Hbad
                    go_wp2_with fail
                    go_ret2
                    exact ⟨_, congrArg (fun n => Ending.returned (.tuple #[_, Value.int .i64 n])) (by rw [HR2.out]), ⟨[], StrAt.nil _, by rw [HR2.out]; rfl⟩, Hb2.out⟩
    · have q1 : ((p[0].toNat : Int) != 47) = true := by
        rw [bne_iff_ne]; intro h; apply h47; apply UInt8.toNat_inj.1; have h2 : (47 : UInt8).toNat = 47 := rfl; omega
      go_wp2_with fail
      go_ret2
      have hpd : p.data.toList = p[0] :: p.data.toList.drop 1 := by
        have := List.drop_eq_getElem_cons (l := p.data.toList) (i := 0) (by simpa using h0')
        rw [List.drop_zero] at this
        exact this
      have h2 : R = (16, []) := by
        rw [← HR.out, hpd]
        unfold stepsP
        simp only
        rw [if_pos h47]
      subst h2
      exact ⟨_, rfl, ⟨[], StrAt.nil _, rfl⟩, Below.refl _ _⟩
end Go.Proofs.YtlcongehmjiabaaGreatDoor
/- ptr.Get, Put, Cut: their contracts. -/
namespace Go.Proofs.YtlcongehmjiabaaGreatDoor
open Go.RowKit
open JP (JV Bs)

/-- what the library reads -/
def Env (w : World) : Prop := TabOK w ∧ ErrOK w ∧ ∃ m, MaxOK m w
theorem Env.below {w w' : World} (h : Env w) (hb : Below w.heap.size w w') : Env w' := ⟨h.1.below hb, h.2.1.below hb, by obtain ⟨m, hm⟩ := h.2.2; exact ⟨m, hm.below hb⟩⟩
theorem steps_mem {p : Bs} {l : List Bs} (h : stepsP p = (0, l)) : ∀ s ∈ l, s.length ≤ p.length := fun s hs => by
  have h1 : (l.map fun s : Bs => s.length + 1).sum ≤ p.length := steps_total h
  have : ∀ (k : List Bs), s ∈ k → s.length ≤ (k.map fun s => s.length + 1).sum := by
    intro k
    induction k with
    | nil => intro h; cases h
    | cons a r ih =>
      intro hm
      rw [List.map_cons, List.sum_cons]
      rcases List.mem_cons.1 hm with rfl | hm
      · omega
      · have := ih hm; omega
  have := this l hs
  omega
theorem map_mk (L : List ByteArray) : (L.map (·.data.toList)).map mkB = L := by
  rw [List.map_map]
  conv => rhs; rw [← List.map_id L]
  exact List.map_congr_left fun s _ => mkB_of s
set_option maxRecDepth 100000 in
set_option maxHeartbeats 3200000 in
theorem pboth_any (d p : ByteArray) (w : World) (hd : d.size ≤ 1048576) (hp : p.size ≤ 1048576) (hE : Env w) :
    Calls Tryz.prog 24 #[.string d, .string p] w fun e w' => ∃ v sv, e = .returned (.tuple #[v, sv, .int .i64 (JP.dpE d.data.toList p.data.toList)]) ∧ (JP.dpE d.data.toList p.data.toList = 0 → (∃ n, JvAt n [] w' v (JP.readL d.data.toList).1) ∧ StrAt w' sv ((stepsP p.data.toList).2.map mkB)) ∧ Below w.heap.size w w' := by
  have HR := Lib.hid (read_any d w hd)
  obtain ⟨m, hm⟩ := hE.2.2
  have HS := Lib.hid (fun (w' : World) (hb : Below w.heap.size w w') => ptrSteps_any p m w' (by omega) (hm.below hb))
  obtain ⟨x, hx⟩ : ∃ x, (JP.readL d.data.toList).1 = x := ⟨_, rfl⟩
  obtain ⟨er, her⟩ : ∃ er, (JP.readL d.data.toList).2 = er := ⟨_, rfl⟩
  obtain ⟨ep, hep⟩ : ∃ er, (stepsP p.data.toList).1 = er := ⟨_, rfl⟩
  obtain ⟨l, hl⟩ : ∃ er, (stepsP p.data.toList).2 = er := ⟨_, rfl⟩
  have hsp : stepsP p.data.toList = (ep, l) := Prod.ext hep hl
  obtain ⟨E0, hE0⟩ : ∃ T, JP.dpE d.data.toList p.data.toList = T := ⟨_, rfl⟩
  have HEx : Hid (E0 = if er = 0 then ep else er) := Lib.hid (by rw [← hE0]; unfold JP.dpE; rw [her, hep])
  rw [hx, her] at HR
  rw [hsp] at HS
  rw [hE0, hx, hl]
  clear hx her hep hl hsp hE0 hE hm
  go_enter Tryz.func24, Tryz.ntmps24
  go_wp2_with fail
  refine HR.out.mono ?_
  rintro E w1 ⟨u, rfl, ⟨n, hj⟩, hb⟩
  have HJ := Lib.hid hj
  have HB := Lib.hid hb
  clear hj hb HR
  by_cases he : er = 0
  · subst he
    have HEt : Hid (E0 = ep) := Lib.hid (by rw [HEx.out]; exact if_pos rfl)
    go_wp2_with fail
    refine (HS.out w1 HB.out).mono ?_
    rintro E w2 ⟨sv, rfl, ⟨L, hL, hLl⟩, hb⟩
    have hLl : L.map (·.data.toList) = l := hLl
    have HSt : Hid (StrAt w2 sv (l.map mkB)) := Lib.hid (by rw [← hLl, map_mk]; exact hL)
    have HJ1 := Lib.hid (HJ.out.below hb)
    have HB2 := Lib.hid (HB.out.trans (hb.mono HB.out.size))
    clear hb hL hLl HJ HB
    go_wp2_with fail
    go_ret3
    exact ⟨_, _, by rw [HEt.out] <;> rfl, fun _ => ⟨⟨_, HJ1.out⟩, HSt.out⟩, HB2.out⟩
  · have n0 : (er != 0) = true := by rw [bne_iff_ne]; exact he
    have HEt : Hid (E0 = er) := Lib.hid (by rw [HEx.out]; exact if_neg he)
    have Hne := Lib.hid he
    clear he
    go_wp2_with fail
    go_ret3
    exact ⟨_, _, by rw [HEt.out] <;> rfl, fun h => absurd (HEt.out.symm.trans h) Hne.out, HB.out⟩
set_option maxRecDepth 100000 in
set_option maxHeartbeats 1600000 in
theorem ptold_any (o : Option JV) (u : Value) (w : World) (h : ∀ c, o = some c → (∃ k, JvAt k [] w u c) ∧ (JP.text c).length ≤ 4194304) (ht : TabOK w) :
    Calls Tryz.prog 29 #[u, .int .i64 (JP.codE 7 o)] w fun e w' => e = .returned (.tuple #[.string (mkB (JP.ptoldT o)), .int .i64 (JP.ptoldE 7 o)]) ∧ Below w.heap.size w w' := by
  cases o with
  | none =>
    have hq : JP.codE 7 none = 7 := rfl
    rw [hq]
    clear h hq
    go_enter Tryz.func29, Tryz.ntmps29
    go_wp2_with fail
    go_ret2
    exact ⟨rfl, Below.refl _ _⟩
  | some c =>
    obtain ⟨⟨k, hk⟩, hl⟩ := h c rfl
    have HT := Lib.hid (tell_any k u c w hk hl (by have := JP.size_le_len c; omega) ht)
    have hq : JP.codE 7 (some c) = 0 := rfl
    rw [hq, show JP.ptoldT (some c) = JP.tellT c from rfl, show JP.ptoldE 7 (some c) = JP.tellE c from rfl]
    clear h hq hk hl
    go_enter Tryz.func29, Tryz.ntmps29
    go_wp2_with fail
    refine HT.out.mono ?_
    rintro E w1 ⟨rfl, hb⟩
    have HB := Lib.hid hb
    clear hb
    go_wp2_with fail
    go_ret2
    exact ⟨rfl, HB.out⟩
def AnsAt (t : Bs) (c : Int) (w : World) (e : Ending) (w' : World) : Prop := e = .returned (.tuple #[.string (mkB t), .int .i64 c]) ∧ Below w.heap.size w w'
theorem AnsAt.mk' {t t' : Bs} {c c' : Int} {w w' : World} (h1 : t = t') (h2 : c = c') (hb : Below w.heap.size w w') : AnsAt t c w (.returned (.tuple #[.string (mkB t'), .int .i64 c'])) w' := ⟨by rw [h1, h2], hb⟩
theorem AnsAt.no {t : Bs} {c c' : Int} {w w' : World} (h1 : t = []) (h2 : c = c') (hb : Below w.heap.size w w') : AnsAt t c w (.returned (.tuple #[.string ⟨#[]⟩, .int .i64 c'])) w' := ⟨by rw [h1, h2]; rfl, hb⟩
set_option maxRecDepth 100000 in
set_option maxHeartbeats 3200000 in
theorem pget_any (d p : ByteArray) (w : World) (hd : d.size ≤ 1048576) (hp : p.size ≤ 1048576) (hE : Env w) :
    Calls Tryz.prog 10 #[.string d, .string p] w (AnsAt (JP.getT d.data.toList p.data.toList) (JP.getE d.data.toList p.data.toList) w) := by
  have HP := Lib.hid (pboth_any d p w hd hp hE)
  have HEn := Lib.hid hE
  have hps : p.data.toList.length ≤ 1048576 := by rw [list_size]; exact hp
  by_cases h0 : JP.dpE d.data.toList p.data.toList = 0
  · obtain ⟨x, l, h1, h2, h3, h4, h5⟩ := JP.dp_ok h0
    have hlm := steps_mem h2
    have hg := JP.get_of h1 h2
    have hz := h3.2.2.2
    rw [h0, h1, h2] at HP
    obtain ⟨E0, hE0⟩ : ∃ T, JP.getE d.data.toList p.data.toList = T := ⟨_, rfl⟩
    obtain ⟨T0, hT0⟩ : ∃ T, JP.getT d.data.toList p.data.toList = T := ⟨_, rfl⟩
    rw [hE0, hT0] at hg ⊢
    have Hg := Lib.hid hg
    have Hlm : Hid (∀ s ∈ l, s.length ≤ 1048576) := Lib.hid (fun s hs => Nat.le_trans (hlm s hs) hps)
    clear hg h0 h1 h2 h3 h4 hlm hE0 hT0 hE hps hd hp
    go_enter Tryz.func10, Tryz.ntmps10
    go_wp2_with fail
    refine HP.out.mono ?_
    rintro E w1 ⟨v, sv, rfl, hvs, hb⟩
    obtain ⟨⟨n, hj⟩, hst⟩ := hvs (by first | rfl | trivial)
    have HB := Lib.hid hb
    have HA := Lib.hid (at_any hj (by show (JP.text x).length ≤ 1000000; omega) hst Hlm.out (by show l.length ≤ 1048576; omega) (HEn.out.1.below hb) (HEn.out.2.1.below hb))
    clear hb hvs hj hst
    obtain ⟨A0, hA0⟩ : ∃ A, JP.atW x l = A := ⟨_, rfl⟩
    have HA : Hid (Calls Tryz.prog 25 #[v, sv] w1 (ChildAt A0 w1)) := Lib.hid (by rw [← hA0]; exact HA.out)
    have Hg2 : Hid ((∀ c, A0 = some c → E0 = 0 ∧ T0 = JP.text c) ∧ (A0 = none → E0 = 7 ∧ T0 = [])) := Lib.hid (by rw [← hA0]; exact Hg.out)
    have Hfit : Hid (∀ c, A0 = some c → (JP.text c).length ≤ 4194304) := Lib.hid (fun c hc => by
      have h9 : (JP.text x).length ≤ 2000 := hz
      rw [← hA0] at hc
      have : ∀ (l : List Bs) (x : JV), JP.atW x l = some c → (JP.text c).length ≤ (JP.text x).length := by
        intro l
        induction l with
        | nil => intro x h; rw [JP.atW] at h; cases h; exact Nat.le_refl _
        | cons s r ih =>
          intro x h
          rw [JP.atW_cons] at h
          obtain ⟨y, h1, h2⟩ := Option.bind_eq_some_iff.1 h
          have := ih y h2
          have := (JP.child_len h1).1
          omega
      have := this l x hc
      omega)
    clear hA0
    cases A0 with
    | none =>
      have Hf := Lib.hid (Hg2.out.2 rfl)
      go_wp2_with fail
      refine HA.out.mono ?_
      rintro E w2 ⟨u, rfl, _, hb⟩
      have HB2 := Lib.hid (HB.out.trans (hb.mono HB.out.size))
      clear hb
      go_wp2_with fail
      go_ret2
      exact AnsAt.no Hf.out.2 Hf.out.1 HB2.out
    | some c =>
      have Hf := Lib.hid (Hg2.out.1 c rfl)
      go_wp2_with fail
      refine HA.out.mono ?_
      rintro E w2 ⟨u, rfl, hu, hb⟩
      obtain ⟨k, hk⟩ := hu c rfl
      have HB2 := Lib.hid (HB.out.trans (hb.mono HB.out.size))
      have HT := Lib.hid (text_any k u c w2 hk (Hfit.out c rfl) (HEn.out.1.below HB2.out))
      clear hb hu hk
      go_wp2_with fail
      refine HT.out.mono ?_
      rintro E w3 ⟨rfl, hb⟩
      have HB3 := Lib.hid (HB2.out.trans (hb.mono HB2.out.size))
      clear hb
      go_wp2_with fail
      go_ret2
      exact AnsAt.mk' Hf.out.2 Hf.out.1 HB3.out
  · have e1 : JP.getE d.data.toList p.data.toList = JP.dpE d.data.toList p.data.toList := if_neg h0
    have e2 : JP.getT d.data.toList p.data.toList = [] := if_neg h0
    rw [e1, e2]
    obtain ⟨E0, hE0⟩ : ∃ T, JP.dpE d.data.toList p.data.toList = T := ⟨_, rfl⟩
    rw [hE0] at HP h0 ⊢
    have n0 : (E0 != 0) = true := by rw [bne_iff_ne]; exact h0
    clear h0 e1 e2 hE0 hE hps hd hp
    go_enter Tryz.func10, Tryz.ntmps10
    go_wp2_with fail
    refine HP.out.mono ?_
    rintro E w1 ⟨v, sv, rfl, _, hb⟩
    have HB := Lib.hid hb
    clear hb
    go_wp2_with fail
    go_ret2
    exact AnsAt.no rfl rfl HB.out
set_option maxRecDepth 100000 in
set_option maxHeartbeats 3200000 in
theorem pput_any (d p vd : ByteArray) (w : World) (hd : d.size ≤ 1048576) (hp : p.size ≤ 1048576) (hv : vd.size ≤ 1048576) (hE : Env w) :
    Calls Tryz.prog 12 #[.string d, .string p, .string vd] w (AnsAt (JP.putT d.data.toList p.data.toList vd.data.toList) (JP.putE d.data.toList p.data.toList vd.data.toList) w) := by
  have HP := Lib.hid (pboth_any d p w hd hp hE)
  have HEn := Lib.hid hE
  have hps : p.data.toList.length ≤ 1048576 := by rw [list_size]; exact hp
  by_cases h0 : JP.dpE d.data.toList p.data.toList = 0
  · obtain ⟨x, l, h1, h2, h3, h4, h5⟩ := JP.dp_ok h0
    have hlm := steps_mem h2
    have hg := fun y => @JP.put_of d.data.toList p.data.toList vd.data.toList x y l h1 h2
    have hbad := @JP.put_bad d.data.toList p.data.toList vd.data.toList x l h1 h2
    have hz := h3.2.2.2
    have HR := Lib.hid (fun w' => read_any vd w' hv)
    have hfy : (JP.readL vd.data.toList).2 = 0 → JP.Fit (JP.readL vd.data.toList).1 := JP.read_fit'
    obtain ⟨y, hy⟩ : ∃ y, (JP.readL vd.data.toList).1 = y := ⟨_, rfl⟩
    obtain ⟨er, her⟩ : ∃ er, (JP.readL vd.data.toList).2 = er := ⟨_, rfl⟩
    have hre : JP.readL vd.data.toList = (y, er) := Prod.ext hy her
    rw [hre] at HR hbad hfy hg
    rw [h0, h1, h2] at HP
    obtain ⟨E0, hE0⟩ : ∃ T, JP.putE d.data.toList p.data.toList vd.data.toList = T := ⟨_, rfl⟩
    obtain ⟨T0, hT0⟩ : ∃ T, JP.putT d.data.toList p.data.toList vd.data.toList = T := ⟨_, rfl⟩
    rw [hE0, hT0] at hg hbad ⊢
    have Hg := Lib.hid (hg y)
    have Hbad := Lib.hid hbad
    have Hfy := Lib.hid hfy
    have Hfx := Lib.hid h3
    have Hlm : Hid (∀ s ∈ l, s.length ≤ 1048576) := Lib.hid (fun s hs => Nat.le_trans (hlm s hs) hps)
    clear hg h0 h1 h2 h3 h4 hlm hE0 hT0 hE hps hd hp hv hbad hfy hy her hre
    go_enter Tryz.func12, Tryz.ntmps12
    go_wp2_with fail
    refine HP.out.mono ?_
    rintro E w1 ⟨v, sv, rfl, hvs, hb⟩
    obtain ⟨⟨n, hj⟩, hst⟩ := hvs (by first | rfl | trivial)
    have hj : JvAt n [] w1 v x := hj
    have hst : StrAt w1 sv (l.map mkB) := hst
    have HB := Lib.hid hb
    have HJ := Lib.hid hj
    have HSt := Lib.hid hst
    clear hb hvs hj hst
    go_wp2_with fail
    refine (HR.out w1).mono ?_
    rintro E w2 ⟨u, rfl, ⟨n2, hj2⟩, hb⟩
    have hj2 : JvAt n2 [] w2 u y := hj2
    have HB2 := Lib.hid (HB.out.trans (hb.mono HB.out.size))
    have HJ1 := Lib.hid (HJ.out.below hb)
    have HS1 := Lib.hid (HSt.out.below hb)
    have HJ2 := Lib.hid hj2
    clear hb hj2
    by_cases he : er = 0
    · subst he
      have hfy := Hfy.out rfl
      have hg := Hg.out rfl
      have HPu := Lib.hid (tput_any HJ1.out HJ2.out (by omega) HS1.out Hlm.out (by omega) (HEn.out.1.below HB2.out) (HEn.out.2.1.below HB2.out))
      have hlen := fun z hz => (JP.putW_len (z := z) (B := 1048576) Hfx.out hfy Hlm.out hz).2
      obtain ⟨O0, hO0⟩ : ∃ O, JP.putW x l y = O := ⟨_, rfl⟩
      rw [hO0] at HPu hg hlen
      have Hg2 := Lib.hid hg
      have Hlen := Lib.hid hlen
      clear hg hlen hfy hO0
      go_wp2_with fail
      refine HPu.out.mono ?_
      rintro E w3 ⟨u3, rfl, hu3, hb⟩
      have HB3 := Lib.hid (HB2.out.trans (hb.mono HB2.out.size))
      have HT := Lib.hid (ptold_any O0 u3 w3 (fun c hc => ⟨hu3 c hc, by have := Hlen.out c hc; omega⟩) (HEn.out.1.below HB3.out))
      clear hb hu3
      go_wp2_with fail
      refine HT.out.mono ?_
      rintro E w4 ⟨rfl, hb⟩
      have HB4 := Lib.hid (HB3.out.trans (hb.mono HB3.out.size))
      clear hb
      go_wp2_with fail
      go_ret2
      exact AnsAt.mk' Hg2.out.2 Hg2.out.1 HB4.out
    · have n0 : (er != 0) = true := by rw [bne_iff_ne]; exact he
      have Hb := Lib.hid (Hbad.out he)
      clear he
      go_wp2_with fail
      go_ret2
      exact AnsAt.no Hb.out.2 Hb.out.1 HB2.out
  · have e1 : JP.putE d.data.toList p.data.toList vd.data.toList = JP.dpE d.data.toList p.data.toList := if_neg h0
    have e2 : JP.putT d.data.toList p.data.toList vd.data.toList = [] := if_neg h0
    rw [e1, e2]
    obtain ⟨E0, hE0⟩ : ∃ T, JP.dpE d.data.toList p.data.toList = T := ⟨_, rfl⟩
    rw [hE0] at HP h0 ⊢
    have n0 : (E0 != 0) = true := by rw [bne_iff_ne]; exact h0
    clear h0 e1 e2 hE0 hE hps hd hp hv
    go_enter Tryz.func12, Tryz.ntmps12
    go_wp2_with fail
    refine HP.out.mono ?_
    rintro E w1 ⟨v, sv, rfl, _, hb⟩
    have HB := Lib.hid hb
    clear hb
    go_wp2_with fail
    go_ret2
    exact AnsAt.no rfl rfl HB.out
set_option maxRecDepth 100000 in
set_option maxHeartbeats 3200000 in
theorem pcut_any (d p : ByteArray) (w : World) (hd : d.size ≤ 1048576) (hp : p.size ≤ 1048576) (hE : Env w) :
    Calls Tryz.prog 15 #[.string d, .string p] w (AnsAt (JP.pcutT d.data.toList p.data.toList) (JP.pcutE d.data.toList p.data.toList) w) := by
  have HP := Lib.hid (pboth_any d p w hd hp hE)
  have HEn := Lib.hid hE
  have hps : p.data.toList.length ≤ 1048576 := by rw [list_size]; exact hp
  by_cases h0 : JP.dpE d.data.toList p.data.toList = 0
  · obtain ⟨x, l, h1, h2, h3, h4, h5⟩ := JP.dp_ok h0
    have hlm := steps_mem h2
    have e1 : JP.pcutE d.data.toList p.data.toList = if l = [] then 1 else JP.ptoldE 7 (JP.cutW x l) := by unfold JP.pcutE; rw [if_pos h0, h1, h2]
    have e2 : JP.pcutT d.data.toList p.data.toList = if l = [] then [] else JP.ptoldT (JP.cutW x l) := by unfold JP.pcutT; rw [if_pos h0, h1, h2]
    rw [e1, e2]
    have hz := h3.2.2.2
    rw [h0, h1, h2] at HP
    have Hfx := Lib.hid h3
    have Hlm : Hid (∀ s ∈ l, s.length ≤ 1048576) := Lib.hid (fun s hs => Nat.le_trans (hlm s hs) hps)
    clear h0 h1 h2 h3 h4 hlm e1 e2 hE hps hd hp
    by_cases hl0 : l = []
    · subst hl0
      rw [if_pos rfl, if_pos rfl]
      go_enter Tryz.func15, Tryz.ntmps15
      go_wp2_with fail
      refine HP.out.mono ?_
      rintro E w1 ⟨v, sv, rfl, hvs, hb⟩
      obtain ⟨_, hst⟩ := hvs (by first | rfl | trivial)
      have hst : StrAt w1 sv [] := hst
      obtain ⟨a1, c1, rfl, _, _⟩ := hst.len
      have HB := Lib.hid hb
      clear hb hvs hst
      go_wp2_with fail
      go_ret2
      exact AnsAt.no rfl rfl HB.out
    · rw [if_neg hl0, if_neg hl0]
      have q1 : ((l.length : Int) == 0) = false := by
        rw [beq_eq_false_iff_ne]
        intro e
        exact hl0 (List.eq_nil_of_length_eq_zero (by omega))
      have Hl0 := Lib.hid hl0
      clear hl0
      go_enter Tryz.func15, Tryz.ntmps15
      go_wp2_with fail
      refine HP.out.mono ?_
      rintro E w1 ⟨v, sv, rfl, hvs, hb⟩
      obtain ⟨⟨n, hj⟩, hst⟩ := hvs (by first | rfl | trivial)
      have hj : JvAt n [] w1 v x := hj
      have hst : StrAt w1 sv (l.map mkB) := hst
      obtain ⟨a1, c1, hu, _, _⟩ := hst.len
      rw [List.length_map] at hu
      subst hu
      have HB := Lib.hid hb
      have HC := Lib.hid (tcut_any hj (by omega) hst Hlm.out (by omega) Hl0.out (HEn.out.1.below hb) (HEn.out.2.1.below hb))
      have hlen := fun z hz => (JP.cutW_len (z := z) (B := 1048576) Hfx.out Hlm.out hz).2
      obtain ⟨O0, hO0⟩ : ∃ O, JP.cutW x l = O := ⟨_, rfl⟩
      rw [hO0] at HC hlen
      have Hlen := Lib.hid hlen
      have HO0 := Lib.hid hO0
      clear hb hvs hj hst hlen hO0
      go_wp2_with fail
      refine HC.out.mono ?_
      rintro E w3 ⟨u3, rfl, hu3, hb⟩
      have HB3 := Lib.hid (HB.out.trans (hb.mono HB.out.size))
      have HT := Lib.hid (ptold_any O0 u3 w3 (fun c hc => ⟨hu3 c hc, by have := Hlen.out c hc; omega⟩) (HEn.out.1.below HB3.out))
      clear hb hu3
      go_wp2_with fail
      refine HT.out.mono ?_
      rintro E w4 ⟨rfl, hb⟩
      have HB4 := Lib.hid (HB3.out.trans (hb.mono HB3.out.size))
      clear hb
      go_wp2_with fail
      go_ret2
      exact AnsAt.mk' (by rw [HO0.out]) (by rw [HO0.out]) HB4.out
  · have e1 : JP.pcutE d.data.toList p.data.toList = JP.dpE d.data.toList p.data.toList := if_neg h0
    have e2 : JP.pcutT d.data.toList p.data.toList = [] := if_neg h0
    rw [e1, e2]
    obtain ⟨E0, hE0⟩ : ∃ T, JP.dpE d.data.toList p.data.toList = T := ⟨_, rfl⟩
    rw [hE0] at HP h0 ⊢
    have n0 : (E0 != 0) = true := by rw [bne_iff_ne]; exact h0
    clear h0 e1 e2 hE0 hE hps hd hp
    go_enter Tryz.func15, Tryz.ntmps15
    go_wp2_with fail
    refine HP.out.mono ?_
    rintro E w1 ⟨v, sv, rfl, _, hb⟩
    have HB := Lib.hid hb
    clear hb
    go_wp2_with fail
    go_ret2
    exact AnsAt.no rfl rfl HB.out
end Go.Proofs.YtlcongehmjiabaaGreatDoor
/- The table that strconv reads stands third on the lists of the rows about documents. -/
namespace Go.Proofs.YtlcongehmjiabaaGreatDoor
open Go.RowKit Go.ChangeShapes Go.WideShapes Go.ChangeAt

theorem laid_tail {P : Program} {W : World} {x : String × DataW Unit} {r : List (String × DataW Unit)} (h : laidMet P (x :: r) W) : laidMet P r W := by
  obtain ⟨ps, ⟨g, t, cs, fuel, p, q, _, _, _, _, hq, rfl⟩, hnd, hall⟩ := h
  exact ⟨q, hq, (List.nodup_append.1 hnd).2.1, fun b off hb => hall b off (List.mem_append_right _ hb)⟩
noncomputable def tabG : Nat := (Tryz.prog.globalNamed "internal/strconv.uint64pow10").getD 0
noncomputable def tabT : TypeId := ((Tryz.prog.globals[tabG]?).map (·.type)).getD 0
noncomputable def tabE : TypeId := match Tryz.prog.underlying tabT with | some (.array _ e) => e | _ => 0
noncomputable def tabN : Nat := match Tryz.prog.underlying tabT with | some (.array n _) => n | _ => 0
theorem gTab1 : Tryz.prog.globalNamed "internal/strconv.uint64pow10" = some tabG := by kernel_rfl
theorem gTab2 : (Tryz.prog.globals[tabG]?).map (·.type) = some tabT := by kernel_rfl
theorem gTab3 : Tryz.prog.underlying tabT = some (.array tabN tabE) := by kernel_rfl
theorem gTab4 : Tryz.prog.underlying tabE = some (.int .u64) := by kernel_rfl
theorem gTab5 : Tryz.prog.cellsOf tabE = 1 := by kernel_rfl
theorem gTab6 : Tryz.prog.cellsOf tabT = tabN := by kernel_rfl
theorem tab_of {W : World} {x1 x2 : String × DataW Unit} {r : List (String × DataW Unit)} {d : DataW Unit} (hd : d = Lib.tabData .u64 Lib.pow10Tab) (h : laidMet Tryz.prog (x1 :: x2 :: ("internal/strconv.uint64pow10", d) :: r) W) : TabOK W := by
  subst hd
  exact Lib.tabIs_of_head gTab1 gTab2 gTab3 gTab4 gTab5 gTab6 (laid_tail (laid_tail h))
end Go.Proofs.YtlcongehmjiabaaGreatDoor
/- What the library reads, out of what is laid: the table, two sentinels, a cell. -/
namespace Go.Proofs.YtlcongehmjiabaaGreatDoor
open Go.RowKit Go.ChangeShapes Go.WideShapes Go.ChangeAt

theorem star_err : "*" ++ "errors.errorString" = "*errors.errorString" := by decide
theorem row_err (u : TypeId) (h : Tryz.prog.typeName? 3 u = some "*errors.errorString") : u = 192 :=
  typeName_ptr_named (nm := "errors.errorString") (by rw [star_err]; kernel_rfl) (by kernel_rfl) (by decide) u (by rw [star_err]; exact h)
noncomputable def errR : Nat := (Tryz.prog.globalNamed "strconv.ErrRange").getD 0
noncomputable def errS : Nat := (Tryz.prog.globalNamed "strconv.ErrSyntax").getD 0
theorem errR1 : Tryz.prog.globalNamed "strconv.ErrRange" = some errR := by kernel_rfl
theorem errS1 : Tryz.prog.globalNamed "strconv.ErrSyntax" = some errS := by kernel_rfl
theorem errR2 : (Tryz.prog.globals[errR]?).map (·.type) = some 122 := by kernel_rfl
theorem errS2 : (Tryz.prog.globals[errS]?).map (·.type) = some 122 := by kernel_rfl
theorem errCells : Tryz.prog.cellsOf 194 = 1 := by kernel_rfl
theorem errCells2 : Tryz.prog.cellsOf 9 = 1 := by kernel_rfl
theorem err_of {W : World} {x1 x2 x3 x4 : String × DataW Unit} {t1 t2 : List UInt8} {d1 d2 : DataW Unit} {r : List (String × DataW Unit)} (h1 : d1 = .iface "*errors.errorString" (.ptr (.agg [.lit (.string t1)]))) (h2 : d2 = .iface "*errors.errorString" (.ptr (.agg [.lit (.string t2)]))) (h : laidMet Tryz.prog (x1 :: x2 :: x3 :: x4 :: ("strconv.ErrRange", d1) :: ("strconv.ErrSyntax", d2) :: r) W) : ErrOK W := by
  subst h1; subst h2
  have h4 := h.tail.tail.tail.tail
  obtain ⟨a0, s0, hv0, _⟩ := laid_sentinel h4 errR1 errR2 Tryz.underlying122 row_err Tryz.underlying192 Tryz.underlying194 rfl rfl Tryz.underlying9 errCells errCells2
  obtain ⟨a1, s1, hv1, _⟩ := laid_sentinel h4.tail errS1 errS2 Tryz.underlying122 row_err Tryz.underlying192 Tryz.underlying194 rfl rfl Tryz.underlying9 errCells errCells2
  exact ⟨_, _, _, _, hv1, hv0⟩
theorem env_of {W : World} {x1 x2 x4 : String × DataW Unit} {t1 t2 : List UInt8} {d d1 d2 : DataW Unit} {r : List (String × DataW Unit)} (hd : d = Lib.tabData .u64 Lib.pow10Tab) (h1 : d1 = .iface "*errors.errorString" (.ptr (.agg [.lit (.string t1)]))) (h2 : d2 = .iface "*errors.errorString" (.ptr (.agg [.lit (.string t2)]))) (h : laidMet Tryz.prog (x1 :: x2 :: ("internal/strconv.uint64pow10", d) :: x4 :: ("strconv.ErrRange", d1) :: ("strconv.ErrSyntax", d2) :: r) W) (hs : W.ShapedOpen Tryz.prog) : Env W :=
  ⟨tab_of hd h, err_of h1 h2 h, max_of hs⟩
end Go.Proofs.YtlcongehmjiabaaGreatDoor
/- ptr: the laws of what is answered, in plain Lean. -/
namespace Go.Proofs.YtlcongehmjiabaaGreatDoor
open Go.RowKit
open JP (JV Bs)

namespace JP
variable {d p q v w : Bs}
/-- PtrSame -/
theorem ptr_same (h : getE d p = 0) : putE d p (getT d p) = 0 ∧ putT d p (getT d p) = canonT d := by
  obtain ⟨x, l, c, h1, h2, h3, h4, h5⟩ := get_ok h
  rw [h5]
  obtain ⟨a, b⟩ := put_of h1 h2 (fit_read (at_fit h3 h4))
  rw [a, b, put_at (fit_S h3) (fit_few h3) h4, canonT_ok h1]
  exact tell_fit h3
theorem joinK_last {l : List Bs} {s : Bs} (h : l.getLast? = some s) : ∃ r, joinK l = joinK r ++ 47 :: escS s ∧ l = r ++ [s] := by
  obtain ⟨r, rfl⟩ := List.getLast?_eq_some_iff.1 h
  refine ⟨r, ?_, rfl⟩
  unfold joinK
  rw [List.flatMap_append]
  simp
theorem esc_dash : escS [45] = [45] := by rw [escS_eq]; decide
theorem end_suffix {l : List Bs} (h : l.getLast? = some [45]) : Lib.hasSuffix (joinK l) [47, 45] = true := by
  obtain ⟨r, h1, _⟩ := joinK_last h
  rw [h1, esc_dash]
  unfold Lib.hasSuffix
  rw [List.isSuffixOf_iff_suffix]
  exact List.suffix_append _ _
/-- PtrPuts -/
theorem ptr_puts (h : putE d p v = 0) (ha : Lib.hasSuffix p [47, 45] = false) : getE (putT d p v) p = 0 ∧ getT (putT d p v) p = canonT v ∧ putT (putT d p v) p w = putT d p w ∧ putE (putT d p v) p w = putE d p w := by
  obtain ⟨x, l, y, z, h1, h2, h3, fx, fy, hz, ht, e⟩ := put_ok h
  have hj := (join_steps h2).1
  have hlast : l.getLast? ≠ some [45] := fun e => by
    have := end_suffix e
    rw [hj, ha] at this
    cases this
  obtain ⟨wz, _⟩ := putW_len (B := p.length) fx fy (fun s hs => by
    have h9 : (l.map fun s : Bs => s.length + 1).sum ≤ p.length := steps_total h2
    have : ∀ (k : List Bs), s ∈ k → s.length ≤ (k.map fun s : Bs => s.length + 1).sum := by
      intro k
      induction k with
      | nil => intro h; cases h
      | cons a r ih =>
        intro hm
        rw [List.map_cons, List.sum_cons]
        rcases List.mem_cons.1 hm with rfl | hm
        · omega
        · have := ih hm; omega
    have := this l hs
    omega) hz
  obtain ⟨fz, ez⟩ := tell_ok wz ht
  have hr := fit_read fz
  rw [e, ez]
  obtain ⟨t1, t2⟩ := put_there (fit_S fx) (fit_few fx) (by have := fz.2.2.2; omega) hlast hz
  obtain ⟨g1, g2⟩ := (get_of hr h2).1 y t1
  refine ⟨g1, by rw [g2, canonT_ok h3], ?_⟩
  by_cases hw : (readL w).2 = 0
  · have hw' : readL w = ((readL w).1, 0) := Prod.ext rfl hw
    obtain ⟨u, k1, k2⟩ := t2 (readL w).1
    obtain ⟨a1, a2⟩ := put_of hr h2 hw'
    obtain ⟨b1, b2⟩ := put_of h1 h2 hw'
    rw [a1, a2, b1, b2, k1, k2]
    exact ⟨rfl, rfl⟩
  · obtain ⟨a1, a2⟩ := put_bad hr h2 hw
    obtain ⟨b1, b2⟩ := put_bad h1 h2 hw
    rw [a1, a2, b1, b2]
    exact ⟨rfl, rfl⟩
theorem joinK_append (a b : List Bs) : joinK (a ++ b) = joinK a ++ joinK b := by unfold joinK; rw [List.flatMap_append]
theorem joinK_prefix {a b : List Bs} (h : a <+: b) : joinK a = joinK b ∨ Lib.hasPrefix (joinK b) (joinK a ++ [47]) = true := by
  obtain ⟨k, rfl⟩ := h
  cases k with
  | nil => exact .inl (by rw [List.append_nil])
  | cons s r =>
    refine .inr ?_
    unfold Lib.hasPrefix
    rw [List.isPrefixOf_iff_prefix, joinK_append]
    refine ⟨escS s ++ joinK r, ?_⟩
    unfold joinK
    rw [List.flatMap_cons]
    simp
theorem steps_le {l : List Bs} (h2 : stepsP p = (0, l)) : ∀ s ∈ l, s.length ≤ p.length := fun s hs => by
  have h9 : (l.map fun s : Bs => s.length + 1).sum ≤ p.length := steps_total h2
  have : ∀ (k : List Bs), s ∈ k → s.length ≤ (k.map fun s : Bs => s.length + 1).sum := by
    intro k
    induction k with
    | nil => intro h; cases h
    | cons a r ih =>
      intro hm
      rw [List.map_cons, List.sum_cons]
      rcases List.mem_cons.1 hm with rfl | hm
      · omega
      · have := ih hm; omega
  have := this l hs
  omega
/-- PtrApart -/
theorem ptr_apart (hp : getE d p = 0) (hq : getE d q = 0) (hne : p ≠ q) (h1 : Lib.hasPrefix p (q ++ [47]) = false) (h2 : Lib.hasPrefix q (p ++ [47]) = false) (ha : putE d p v = 0) (hb : putE d q w = 0) : putT (putT d p v) q w = putT (putT d q w) p v ∧ putE (putT d p v) q w = putE (putT d q w) p v := by
  obtain ⟨x, lp, a, r1, s1, fx, g1, _⟩ := get_ok hp
  obtain ⟨x', lq, b, r2, s2, _, g2, _⟩ := get_ok hq
  rw [r1] at r2
  obtain rfl : x = x' := (Prod.mk.inj r2).1
  obtain ⟨x2, lp2, y, z, r3, s3, r4, _, fy, hz, tz, ez⟩ := put_ok ha
  rw [r1] at r3
  obtain rfl : x = x2 := (Prod.mk.inj r3).1
  rw [s1] at s3
  obtain rfl : lp = lp2 := (Prod.mk.inj s3).2
  obtain ⟨x3, lq2, y2, z2, r5, s5, r6, _, fy2, hz2, tz2, ez2⟩ := put_ok hb
  rw [r1] at r5
  obtain rfl : x = x3 := (Prod.mk.inj r5).1
  rw [s2] at s5
  obtain rfl : lq = lq2 := (Prod.mk.inj s5).2
  obtain ⟨wz, _⟩ := putW_len (B := p.length) fx fy (steps_le s1) hz
  obtain ⟨wz2, _⟩ := putW_len (B := q.length) fx fy2 (steps_le s2) hz2
  obtain ⟨fz, e1⟩ := tell_ok wz tz
  obtain ⟨fz2, e2⟩ := tell_ok wz2 tz2
  rw [ez, ez2, e1, e2]
  have jp := (join_steps s1).1
  have jq := (join_steps s2).1
  obtain ⟨u, k1, k2⟩ := put_apart (B := 2000) (fit_S fx) (by have := fx.2.2.2; omega) fz.2.2.2 fz2.2.2.2 g1 g2 (fun h => by
    rcases joinK_prefix h with h | h
    · rw [jp, jq] at h; exact hne h
    · rw [jp, jq, h2] at h; cases h) (fun h => by
    rcases joinK_prefix h with h | h
    · rw [jp, jq] at h; exact hne h.symm
    · rw [jp, jq, h1] at h; cases h) hz hz2
  obtain ⟨a1, a2⟩ := put_of (fit_read fz) s2 r6
  obtain ⟨b1, b2⟩ := put_of (fit_read fz2) s1 r4
  rw [a1, a2, b1, b2, k1, k2]
  exact ⟨rfl, rfl⟩
/-! Cut -/
theorem pcut_ok (h : pcutE d p = 0) : ∃ x l z, readL d = (x, 0) ∧ stepsP p = (0, l) ∧ Fit x ∧ l ≠ [] ∧ cutW x l = some z ∧ Fit z ∧ pcutT d p = text z := by
  by_cases h0 : dpE d p = 0
  · obtain ⟨x, l, h1, h2, h3, _⟩ := dp_ok h0
    unfold pcutE at h
    rw [if_pos h0, h1, h2] at h
    unfold pcutT
    rw [if_pos h0, h1, h2]
    by_cases hl : l = []
    · rw [if_pos hl] at h; cases h
    · rw [if_neg hl] at h
      rw [if_neg hl]
      cases hz : cutW x l with
      | none => dsimp only at h; rw [hz] at h; cases h
      | some z =>
        dsimp only at h ⊢
        rw [hz] at h
        obtain ⟨fz, ez⟩ := tell_ok (cutW_len (B := p.length) h3 (steps_le h2) hz).1 h
        exact ⟨x, l, z, rfl, rfl, h3, hl, hz, fz, ez⟩
  · unfold pcutE at h; rw [if_neg h0] at h; exact absurd h h0
theorem pcut_no (h : pcutE d p ≠ 0) : pcutT d p = [] := by
  unfold pcutT
  by_cases h0 : dpE d p = 0
  · rw [if_pos h0]
    unfold pcutE at h
    rw [if_pos h0] at h
    by_cases hl : (stepsP p).2 = []
    · rw [if_pos hl]
    · rw [if_neg hl] at h ⊢
      exact ptold_no h
  · rw [if_neg h0]
theorem pcutT_len (d p : Bs) : (pcutT d p).length ≤ 2000 := by
  by_cases h : pcutE d p = 0
  · obtain ⟨x, l, z, _, _, _, _, _, fz, e⟩ := pcut_ok h
    rw [e]; exact fz.2.2.2
  · rw [pcut_no h]; exact Nat.zero_le _
theorem kind_of {s : Bs} {x : JV} (h : readL s = (x, 0)) : kindT s = kind x := by unfold kindT; rw [h]; rfl
theorem many_of {s : Bs} {x : JV} (h : readL s = (x, 0)) : manyT s = size x := by unfold manyT; rw [h]; rfl
/-- where the last step begins -/
def upK (p : Bs) : Bs := joinK (stepsP p).2.dropLast
/-- PtrCuts -/
theorem ptr_cuts (h : pcutE d p = 0) : getE d (upK p) = 0 ∧ canonE (getT d (upK p)) = 0 ∧ canonE (pcutT d p) = 0 ∧ canonE d = 0 ∧ ((kindT (getT d (upK p)) = 6 ∧ getE d p = 0 ∧ getE (pcutT d p) p = 7 ∧ putE (pcutT d p) p (getT d p) = 0 ∧ putT (pcutT d p) p (getT d p) = canonT d) ∨ (kindT (getT d (upK p)) = 5 ∧ manyT (pcutT d p) < manyT d)) := by
  obtain ⟨x, l, z, h1, h2, fx, hl, hz, fz, ez⟩ := pcut_ok h
  have hj := join_steps h2
  have hup : stepsP (upK p) = (0, l.dropLast) := by
    unfold upK
    rw [h2]
    exact steps_join _ (show l.dropLast.length ≤ 10 from by rw [List.length_dropLast]; omega)
  obtain ⟨pa, g1, way⟩ := cut_there (fit_S fx) (fit_few fx) (fit_few fz) hz
  obtain ⟨e1, e2⟩ := (get_of h1 hup).1 pa g1
  have fp := at_fit fx g1
  have rp := fit_read fp
  have rz := fit_read fz
  rw [e1, e2, ez]
  refine ⟨rfl, by unfold canonE; rw [rp], by unfold canonE; rw [rz], by unfold canonE; rw [h1], ?_⟩
  rw [kind_of rp]
  rcases way with ⟨k, was, a1, a2, a3⟩ | ⟨k, a⟩
  · refine .inl ⟨k, ?_⟩
    obtain ⟨c1, c2⟩ := (get_of h1 h2).1 was a1
    obtain ⟨d1, d2⟩ := (get_of rz h2).2 a2
    rw [c1, c2, d1]
    obtain ⟨b1, b2⟩ := put_of rz h2 (fit_read (at_fit fx a1))
    rw [b1, b2, a3, canonT_ok h1]
    exact ⟨rfl, rfl, (tell_fit fx).1, (tell_fit fx).2⟩
  · refine .inr ⟨k, ?_⟩
    rw [many_of rz, many_of h1]
    exact a
theorem cut_nonempty (h : pcutE d p = 0) : ∃ (r : List Bs) (s : Bs), p = joinK r ++ 47 :: escS s ∧ upK p = joinK r := by
  obtain ⟨x, l, z, h1, h2, fx, hl, _⟩ := pcut_ok h
  have hj := join_steps h2
  obtain ⟨s, hs⟩ : ∃ s, l.getLast? = some s := by
    cases hx : l.getLast? with
    | none => exact absurd (List.getLast?_eq_none_iff.1 hx) hl
    | some s => exact ⟨s, rfl⟩
  obtain ⟨r, e1, e2⟩ := joinK_last hs
  refine ⟨r, s, by rw [← e1, hj.1], ?_⟩
  unfold upK
  rw [h2, e2]
  simp
end JP
/-- where the last '/' stands -/
theorem last_slash {p : ByteArray} {a b : Bs} (h : p.data.toList = a ++ 47 :: b) (hb : (47 : UInt8) ∉ b) : Lib.lastIndexByte p 47 = (a.length : Int) := by
  have hsz : p.size = a.length + 1 + b.length := by
    have := congrArg List.length h
    rw [list_size] at this
    simp only [List.length_append, List.length_cons] at this
    omega
  have hget : ∀ j, j < p.size → p.data[j]! = (a ++ 47 :: b)[j]! := fun j hj => by
    rw [← h]
    have hj2 : j < p.data.size := hj
    rw [getElem!_pos p.data j hj2, getElem!_pos p.data.toList j (by simpa using hj2)]
    simp
  rcases Lib.lastIndexByte_spec p 47 with ⟨_, hn⟩ | ⟨i, hi, e, hc, hn⟩
  · exfalso
    have := hn a.length (by omega)
    rw [hget _ (by omega), getElem!_pos _ _ (by simp)] at this
    rw [List.getElem_append_right (Nat.le_refl _)] at this
    simp at this
  · rw [e]
    rcases Nat.lt_trichotomy i a.length with h1 | h1 | h1
    · exfalso
      have := hn a.length h1 (by omega)
      rw [hget _ (by omega), getElem!_pos _ _ (by simp)] at this
      rw [List.getElem_append_right (Nat.le_refl _)] at this
      simp at this
    · rw [h1]
    · exfalso
      rw [hget i hi, getElem!_pos _ _ (by simp; omega)] at hc
      rw [List.getElem_append_right (by omega)] at hc
      have hi2 : i - a.length = (i - a.length - 1) + 1 := by omega
      have hlt : i - a.length - 1 < b.length := by omega
      have h4 : (47 :: b)[i - a.length]'(by simp; omega) = b[i - a.length - 1] := by
        rw [List.getElem_cons]
        rw [dif_neg (by omega)]
      rw [h4] at hc
      have h5 : b[i - a.length - 1] = 47 := by
        apply UInt8.toNat_inj.1
        show _ = 47
        omega
      exact hb (h5 ▸ List.getElem_mem hlt)
namespace JP
theorem fitS_of {v : JV} (h : wf v) (hs : size v ≤ 200) (hd : deep v ≤ 10) (hl : (text v).length ≤ 2000) : Fit v := ⟨h, hs, hd, hl⟩
theorem fit_one : Fit (.num 1) := ⟨by rw [wf]; exact ⟨by decide, by decide⟩, by decide, by decide, by decide +kernel⟩
theorem fit_two : Fit (.num 2) := ⟨by rw [wf]; exact ⟨by decide, by decide⟩, by decide, by decide, by decide +kernel⟩
theorem read_one : readL [49] = (.num 1, 0) := by have := fit_read fit_one; rw [show text (.num 1) = [49] from by decide +kernel] at this; exact this
theorem read_two : readL [50] = (.num 2, 0) := by have := fit_read fit_two; rw [show text (.num 2) = [50] from by decide +kernel] at this; exact this
theorem steps_a : stepsP [47, 97] = (0, [[97]]) := by
  have := steps_join [[97]] (by decide)
  rw [show joinK [[97]] = [47, 97] from by unfold joinK; rw [List.flatMap_cons, escS_eq]; decide] at this
  exact this
theorem steps_none : stepsP [] = (0, []) := steps_join [] (by decide)
theorem ptr_const1 : putE [49] [47, 97] [50] = 7 := by
  rw [(put_of read_one steps_a read_two).1]; rfl
theorem ptr_const2 : getE [49] [47, 97] = 7 := ((get_of read_one steps_a).2 rfl).1
theorem ptr_const3 : pcutE [49] [] = 1 := by
  unfold pcutE
  rw [if_pos (dp_of read_one steps_none), steps_none]; rfl
end JP
end Go.Proofs.YtlcongehmjiabaaGreatDoor
/- The law PtrSame. -/
namespace Go.Proofs.YtlcongehmjiabaaGreatDoor
open Go.RowKit
open JP (JV Bs)

set_option maxRecDepth 100000 in
set_option maxHeartbeats 6400000 in
theorem ptrSame_walk (d p : ByteArray) (w : World) (hbulk : d.data.toList.length + 1 + (p.data.toList.length + 1 + 0) ≤ 1048576) (hE : Env w) :
    Calls Tryz.prog 4 #[.string d, .string p] w fun e w' => e = .returned (.bool true) ∧ Below w.heap.size w w' := by
  have hd : d.size ≤ 1048576 := by rw [list_size d] at hbulk; omega
  have hp : p.size ≤ 1048576 := by rw [list_size p] at hbulk; omega
  have HB0 := Lib.hid (Below.refl w.heap.size w)
  obtain ⟨w0, hw0⟩ : ∃ x, x = w := ⟨_, rfl⟩
  have t0 : (mkB []).toList.isEmpty = true := by rw [mkB_empty]; rfl
  have H1 := Lib.hid (fun (w' : World) (h : Below w.heap.size w w') => pget_any d p w' hd hp (hE.below h))
  have H2 := Lib.hid (fun (w' : World) (h : Below w.heap.size w w') => pget_any ⟨#[49]⟩ ⟨#[47, 97]⟩ w' (by decide) (by decide) (hE.below h))
  have H4 := Lib.hid (fun (w' : World) (h : Below w.heap.size w w') => canonK_any d w' hd (hE.1.below h))
  rw [JP.ptr_const2] at H2
  obtain ⟨T2, hT2⟩ : ∃ T, JP.getT (⟨#[49]⟩ : ByteArray).data.toList (⟨#[47, 97]⟩ : ByteArray).data.toList = T := ⟨_, rfl⟩
  rw [hT2] at H2
  obtain ⟨E4, hE4⟩ : ∃ T, JP.canonE d.data.toList = T := ⟨_, rfl⟩
  rw [hE4] at H4
  clear hT2 hE4
  by_cases he : JP.getE d.data.toList p.data.toList = 0
  · obtain ⟨k1, k2⟩ := JP.ptr_same he
    have hl := JP.getT_len d.data.toList p.data.toList
    obtain ⟨G, hG⟩ : ∃ P, JP.getT d.data.toList p.data.toList = P := ⟨_, rfl⟩
    obtain ⟨T, hT⟩ : ∃ P, JP.canonT d.data.toList = P := ⟨_, rfl⟩
    rw [hG] at k1 k2 hl H1
    rw [he] at H1
    rw [hT] at k2 H4
    have H3 := Lib.hid (fun (w' : World) (h : Below w.heap.size w w') => pput_any d p (mkB G) w' hd hp (by rw [mkB_size]; omega) (hE.below h))
    rw [mkB_list, k1, k2] at H3
    have t1 : ((mkB T).toList == (mkB T).toList) = true := by simp
    clear hG hT k1 k2 hl hE hd hp hbulk he
    subst hw0
    go_enter Tryz.func4, Tryz.ntmps4
    go_wp2_with fail
    refine (H1.out w0 HB0.out).mono ?_
    rintro E w1 ⟨rfl, hb⟩
    have HB1 := Lib.hid (HB0.out.trans (hb.mono HB0.out.size))
    clear hb
    go_wp2_with fail
    refine (H2.out w1 HB1.out).mono ?_
    rintro E w2 ⟨rfl, hb⟩
    have HB2 := Lib.hid (HB1.out.trans (hb.mono HB1.out.size))
    clear hb
    go_wp2_with fail
    refine (H3.out w2 HB2.out).mono ?_
    rintro E w3 ⟨rfl, hb⟩
    have HB3 := Lib.hid (HB2.out.trans (hb.mono HB2.out.size))
    clear hb
    go_wp2_with fail
    refine (H4.out w3 HB3.out).mono ?_
    rintro E w4 ⟨rfl, hb⟩
    have HB4 := Lib.hid (HB3.out.trans (hb.mono HB3.out.size))
    clear hb
    go_wp2_with fail
    go_ret
    exact ⟨by first | rfl | (rw [t1] <;> rfl), HB4.out⟩
  · have n0 : (JP.getE d.data.toList p.data.toList != 0) = true := by rw [bne_iff_ne]; exact he
    rw [JP.get_no he] at H1
    obtain ⟨E1, hE1⟩ : ∃ E, JP.getE d.data.toList p.data.toList = E := ⟨_, rfl⟩
    rw [hE1] at H1 n0
    clear hE hd hp hbulk he hE1
    subst hw0
    go_enter Tryz.func4, Tryz.ntmps4
    go_wp2_with fail
    refine (H1.out w0 HB0.out).mono ?_
    rintro E w1 ⟨rfl, hb⟩
    have HB1 := Lib.hid (HB0.out.trans (hb.mono HB0.out.size))
    clear hb
    go_wp2_with fail
    refine (H2.out w1 HB1.out).mono ?_
    rintro E w2 ⟨rfl, hb⟩
    have HB2 := Lib.hid (HB1.out.trans (hb.mono HB1.out.size))
    clear hb
    go_wp2_with fail
    go_ret
    exact ⟨by first | rfl | (rw [t0] <;> rfl), HB2.out⟩
end Go.Proofs.YtlcongehmjiabaaGreatDoor
/- The law PtrPuts. -/
namespace Go.Proofs.YtlcongehmjiabaaGreatDoor
open Go.RowKit
open JP (JV Bs)

theorem atEnd_any (p : ByteArray) (w : World) (hp : p.size ≤ 1048576) : Calls Tryz.prog 14 #[.string p] w fun e w' => e = .returned (.bool (Lib.hasSuffix p.data.toList [47, 45])) ∧ w = w' := by
  have H := Lib.hid (Tryz.strings_HasSuffix p ⟨#[47, 45]⟩ w (by omega))
  rw [show (⟨#[47, 45]⟩ : ByteArray).data.toList = [47, 45] from rfl] at H
  obtain ⟨B, hB⟩ : ∃ B, Lib.hasSuffix p.data.toList [47, 45] = B := ⟨_, rfl⟩
  rw [hB] at H ⊢
  clear hB
  go_enter Tryz.func14, Tryz.ntmps14
  go_wp2_with fail
  refine H.out.mono ?_
  rintro E w1 ⟨rfl, rfl⟩
  go_wp2_with fail
  go_ret
  exact ⟨rfl, rfl⟩
set_option maxRecDepth 100000 in
set_option maxHeartbeats 6400000 in
theorem ptrPuts_walk (d p v u : ByteArray) (w : World) (hbulk : d.data.toList.length + 1 + (p.data.toList.length + 1 + (v.data.toList.length + 1 + (u.data.toList.length + 1 + 0))) ≤ 1048576) (hE : Env w) :
    Calls Tryz.prog 5 #[.string d, .string p, .string v, .string u] w fun e w' => e = .returned (.bool true) ∧ Below w.heap.size w w' := by
  have hd : d.size ≤ 1048576 := by rw [list_size d] at hbulk; omega
  have hp : p.size ≤ 1048576 := by rw [list_size p] at hbulk; omega
  have hv : v.size ≤ 1048576 := by rw [list_size v] at hbulk; omega
  have hu : u.size ≤ 1048576 := by rw [list_size u] at hbulk; omega
  have HB0 := Lib.hid (Below.refl w.heap.size w)
  obtain ⟨w0, hw0⟩ : ∃ x, x = w := ⟨_, rfl⟩
  have t0 : (mkB []).toList.isEmpty = true := by rw [mkB_empty]; rfl
  have H1 := Lib.hid (fun (w' : World) (h : Below w.heap.size w w') => pput_any d p v w' hd hp hv (hE.below h))
  have H2 := Lib.hid (fun (w' : World) (h : Below w.heap.size w w') => pput_any ⟨#[49]⟩ ⟨#[47, 97]⟩ ⟨#[50]⟩ w' (by decide) (by decide) (by decide) (hE.below h))
  have H3 := Lib.hid (fun (w' : World) => atEnd_any p w' hp)
  have H4 := Lib.hid (fun (w' : World) (h : Below w.heap.size w w') => canonK_any v w' hv (hE.1.below h))
  have H7 := Lib.hid (fun (w' : World) (h : Below w.heap.size w w') => pput_any d p u w' hd hp hu (hE.below h))
  rw [JP.ptr_const1] at H2
  obtain ⟨T2, hT2⟩ : ∃ T, JP.putT (⟨#[49]⟩ : ByteArray).data.toList (⟨#[47, 97]⟩ : ByteArray).data.toList (⟨#[50]⟩ : ByteArray).data.toList = T := ⟨_, rfl⟩
  rw [hT2] at H2
  obtain ⟨E4, hE4⟩ : ∃ T, JP.canonE v.data.toList = T := ⟨_, rfl⟩
  rw [hE4] at H4
  clear hT2 hE4
  by_cases he : JP.putE d.data.toList p.data.toList v.data.toList = 0
  · have key := @JP.ptr_puts d.data.toList p.data.toList v.data.toList u.data.toList he
    have hl := JP.putT_len d.data.toList p.data.toList v.data.toList
    obtain ⟨G, hG⟩ : ∃ P, JP.putT d.data.toList p.data.toList v.data.toList = P := ⟨_, rfl⟩
    rw [hG] at key hl H1
    rw [he] at H1
    obtain ⟨S, hS⟩ : ∃ S, Lib.hasSuffix p.data.toList [47, 45] = S := ⟨_, rfl⟩
    rw [hS] at key H3
    cases S with
    | true =>
      clear key hl hE hd hp hv hu hbulk he hG hS
      subst hw0
      go_enter Tryz.func5, Tryz.ntmps5
      go_wp2_with fail
      refine (H1.out w0 HB0.out).mono ?_
      rintro E w1 ⟨rfl, hb⟩
      have HB1 := Lib.hid (HB0.out.trans (hb.mono HB0.out.size))
      clear hb
      go_wp2_with fail
      refine (H2.out w1 HB1.out).mono ?_
      rintro E w2 ⟨rfl, hb⟩
      have HB2 := Lib.hid (HB1.out.trans (hb.mono HB1.out.size))
      clear hb
      go_wp2_with fail
      refine (H3.out _).mono ?_
      rintro E w9 ⟨rfl, rfl⟩
      go_wp2_with fail
      go_ret
      exact ⟨by first | rfl | (rw [t0] <;> rfl), HB2.out⟩
    | false =>
      obtain ⟨k1, k2, k3, k4⟩ := key rfl
      obtain ⟨T, hT⟩ : ∃ P, JP.canonT v.data.toList = P := ⟨_, rfl⟩
      rw [hT] at k2 H4
      obtain ⟨T7, hT7⟩ : ∃ P, JP.putT d.data.toList p.data.toList u.data.toList = P := ⟨_, rfl⟩
      obtain ⟨E7, hE7⟩ : ∃ P, JP.putE d.data.toList p.data.toList u.data.toList = P := ⟨_, rfl⟩
      rw [hT7] at k3 H7
      rw [hE7] at k4 H7
      have H5 := Lib.hid (fun (w' : World) (h : Below w.heap.size w w') => pget_any (mkB G) p w' (by rw [mkB_size]; omega) hp (hE.below h))
      have H6 := Lib.hid (fun (w' : World) (h : Below w.heap.size w w') => pput_any (mkB G) p u w' (by rw [mkB_size]; omega) hp hu (hE.below h))
      rw [mkB_list, k1, k2] at H5
      rw [mkB_list, k3, k4] at H6
      have t1 : ((mkB T).toList == (mkB T).toList) = true := by simp
      have t3 : ((mkB T).toList != (mkB T).toList) = false := by simp
      have t2 : ((mkB T7).toList == (mkB T7).toList) = true := by simp
      have t4 : (E7 == E7) = true := by simp
      clear hG hS hT hT7 hE7 k1 k2 k3 k4 hl hE hd hp hv hu hbulk he key
      subst hw0
      go_enter Tryz.func5, Tryz.ntmps5
      go_wp2_with fail
      refine (H1.out w0 HB0.out).mono ?_
      rintro E w1 ⟨rfl, hb⟩
      have HB1 := Lib.hid (HB0.out.trans (hb.mono HB0.out.size))
      clear hb
      go_wp2_with fail
      refine (H2.out w1 HB1.out).mono ?_
      rintro E w2 ⟨rfl, hb⟩
      have HB2 := Lib.hid (HB1.out.trans (hb.mono HB1.out.size))
      clear hb
      go_wp2_with fail
      refine (H3.out _).mono ?_
      rintro E w9 ⟨rfl, rfl⟩
      go_wp2_with fail
      refine (H4.out w2 HB2.out).mono ?_
      rintro E w3 ⟨rfl, hb⟩
      have HB3 := Lib.hid (HB2.out.trans (hb.mono HB2.out.size))
      clear hb
      go_wp2_with fail
      refine (H5.out w3 HB3.out).mono ?_
      rintro E w4 ⟨rfl, hb⟩
      have HB4 := Lib.hid (HB3.out.trans (hb.mono HB3.out.size))
      clear hb
      go_wp2_with fail
      refine (H6.out w4 HB4.out).mono ?_
      rintro E w5 ⟨rfl, hb⟩
      have HB5 := Lib.hid (HB4.out.trans (hb.mono HB4.out.size))
      clear hb
      go_wp2_with fail
      refine (H7.out w5 HB5.out).mono ?_
      rintro E w6 ⟨rfl, hb⟩
      have HB6 := Lib.hid (HB5.out.trans (hb.mono HB5.out.size))
      clear hb
      go_wp2_with fail
      go_ret
      exact ⟨by first | rfl | (simp only [t2, t4] <;> rfl), HB6.out⟩
  · have n0 : (JP.putE d.data.toList p.data.toList v.data.toList != 0) = true := by rw [bne_iff_ne]; exact he
    have n1 : (JP.putE d.data.toList p.data.toList v.data.toList == 0) = false := by rw [beq_eq_false_iff_ne]; exact he
    rw [JP.put_no he] at H1
    obtain ⟨E1, hE1⟩ : ∃ E, JP.putE d.data.toList p.data.toList v.data.toList = E := ⟨_, rfl⟩
    rw [hE1] at H1 n0 n1
    clear hE hd hp hv hu hbulk he hE1
    subst hw0
    go_enter Tryz.func5, Tryz.ntmps5
    go_wp2_with fail
    refine (H1.out w0 HB0.out).mono ?_
    rintro E w1 ⟨rfl, hb⟩
    have HB1 := Lib.hid (HB0.out.trans (hb.mono HB0.out.size))
    clear hb
    go_wp2_with fail
    refine (H2.out w1 HB1.out).mono ?_
    rintro E w2 ⟨rfl, hb⟩
    have HB2 := Lib.hid (HB1.out.trans (hb.mono HB1.out.size))
    clear hb
    go_wp2_with fail
    go_ret
    exact ⟨by first | rfl | (rw [t0] <;> rfl), HB2.out⟩
end Go.Proofs.YtlcongehmjiabaaGreatDoor
/- The law PtrCuts. -/
namespace Go.Proofs.YtlcongehmjiabaaGreatDoor
open Go.RowKit
open JP (JV Bs)

theorem last_c (p : ByteArray) {a b : Bs} (h : p.data.toList = a ++ 47 :: b) (hb : (47 : UInt8) ∉ b) (hs : p.size ≤ 1048576) (w : World) : Calls Tryz.prog 16 #[.string p, .string ⟨#[47]⟩] w fun e w' => e = .returned (.int .i64 (a.length : Int)) ∧ w = w' :=
  (Tryz.strings_LastIndex_one p ⟨#[47]⟩ rfl (by omega) w).mono fun _ _ k => ⟨by rw [k.1]; exact congrArg (fun x => Ending.returned (.int .i64 x)) (last_slash h hb), k.2.symm⟩
set_option maxRecDepth 100000 in
set_option maxHeartbeats 6400000 in
theorem ptrCuts_walk (d p : ByteArray) (w : World) (hbulk : d.data.toList.length + 1 + (p.data.toList.length + 1 + 0) ≤ 1048576) (hE : Env w) :
    Calls Tryz.prog 6 #[.string d, .string p] w fun e w' => e = .returned (.bool true) ∧ Below w.heap.size w w' := by
  have hd : d.size ≤ 1048576 := by rw [list_size d] at hbulk; omega
  have hp : p.size ≤ 1048576 := by rw [list_size p] at hbulk; omega
  have HB0 := Lib.hid (Below.refl w.heap.size w)
  obtain ⟨w0, hw0⟩ : ∃ x, x = w := ⟨_, rfl⟩
  have t0 : (mkB []).toList.isEmpty = true := by rw [mkB_empty]; rfl
  have H1 := Lib.hid (fun (w' : World) (h : Below w.heap.size w w') => pcut_any ⟨#[49]⟩ ⟨#[]⟩ w' (by decide) (by decide) (hE.below h))
  have H2 := Lib.hid (fun (w' : World) (h : Below w.heap.size w w') => pcut_any d p w' hd hp (hE.below h))
  rw [show (⟨#[49]⟩ : ByteArray).data.toList = [49] from rfl, show (⟨#[]⟩ : ByteArray).data.toList = [] from rfl, JP.ptr_const3] at H1
  obtain ⟨T1, hT1⟩ : ∃ T, JP.pcutT [49] [] = T := ⟨_, rfl⟩
  rw [hT1] at H1
  clear hT1
  by_cases z : JP.pcutE d.data.toList p.data.toList = 0
  · obtain ⟨r, s, hps, hup⟩ := JP.cut_nonempty z
    obtain ⟨k1, k2, k3, k4, way⟩ := JP.ptr_cuts z
    rw [z] at H2
    have HL := Lib.hid (fun w' : World => last_c p hps (escS_no s) hp w')
    have hlen : (joinK r).length + 1 + (escS s).length = p.size := by
      rw [← list_size p, hps]; simp only [List.length_append, List.length_cons]; omega
    have hext : p.extract 0 (joinK r).length = mkB (joinK r) := by
      rw [← mkB_of (p.extract 0 (joinK r).length)]
      congr 1
      rw [ByteArray.data_extract, Array.toList_extract, hps]
      simp
    rw [hup] at k1 k2 way
    obtain ⟨k, hk⟩ : ∃ k, (joinK r).length = k := ⟨_, rfl⟩
    rw [hk] at HL hlen hext
    obtain ⟨U, hU⟩ : ∃ U, joinK r = U := ⟨_, rfl⟩
    rw [hU] at k1 k2 way hext hk
    have lc := JP.pcutT_len d.data.toList p.data.toList
    obtain ⟨A, hA⟩ : ∃ A, JP.pcutT d.data.toList p.data.toList = A := ⟨_, rfl⟩
    rw [hA] at H2 k3 way lc
    clear hps hup hU hA z
    have H3 := Lib.hid (fun (w' : World) (h : Below w.heap.size w w') => pget_any d (mkB U) w' hd (by rw [mkB_size]; omega) (hE.below h))
    rw [mkB_list, k1] at H3
    have lg := JP.getT_len d.data.toList U
    obtain ⟨G, hG⟩ : ∃ G, JP.getT d.data.toList U = G := ⟨_, rfl⟩
    rw [hG] at H3 k2 way lg
    clear hG k1
    have H4 := Lib.hid (fun (w' : World) (h : Below w.heap.size w w') => kindJ_any (mkB G) w' (by rw [mkB_size]; omega))
    rw [mkB_list, k2] at H4
    have kp : (0 : Int) ≤ k := Int.natCast_nonneg k
    have ks : (k : Int) ≤ p.size := by omega
    rcases way with ⟨kd, w1, w2, w3, w4⟩ | ⟨kd, w1⟩
    · rw [kd] at H4
      have H5 := Lib.hid (fun (w' : World) (h : Below w.heap.size w w') => pget_any d p w' hd hp (hE.below h))
      have H6 := Lib.hid (fun (w' : World) (h : Below w.heap.size w w') => pget_any (mkB A) p w' (by rw [mkB_size]; omega) hp (hE.below h))
      have lw := JP.getT_len d.data.toList p.data.toList
      obtain ⟨V, hV⟩ : ∃ V, JP.getT d.data.toList p.data.toList = V := ⟨_, rfl⟩
      rw [w1, hV] at H5
      rw [hV] at w3 w4 lw
      rw [mkB_list, w2] at H6
      obtain ⟨T6, hT6⟩ : ∃ V, JP.getT A p.data.toList = V := ⟨_, rfl⟩
      rw [hT6] at H6
      have H7 := Lib.hid (fun (w' : World) (h : Below w.heap.size w w') => pput_any (mkB A) p (mkB V) w' (by rw [mkB_size]; omega) hp (by rw [mkB_size]; omega) (hE.below h))
      have H8 := Lib.hid (fun (w' : World) (h : Below w.heap.size w w') => canonK_any d w' hd (hE.1.below h))
      rw [mkB_list, mkB_list, w3, w4] at H7
      obtain ⟨T, hT⟩ : ∃ V, JP.canonT d.data.toList = V := ⟨_, rfl⟩
      rw [hT] at H7 H8
      rw [k4] at H8
      have t2 : ((mkB T).toList == (mkB T).toList) = true := by simp
      clear hV hT6 hT w1 w2 w3 w4 lw k2 k3 k4 lc lg hE hd hp hbulk kd hk
      subst hw0
      go_enter Tryz.func6, Tryz.ntmps6
      go_wp2_with fail
      refine (H1.out w0 HB0.out).mono ?_
      rintro E w1 ⟨rfl, hb⟩
      have HB1 := Lib.hid (HB0.out.trans (hb.mono HB0.out.size))
      clear hb
      go_wp2_with fail
      refine (H2.out w1 HB1.out).mono ?_
      rintro E w2 ⟨rfl, hb⟩
      have HB2 := Lib.hid (HB1.out.trans (hb.mono HB1.out.size))
      clear hb
      go_wp2_with fail
      refine (HL.out _).mono ?_
      rintro E w9 ⟨rfl, rfl⟩
      go_wp2_with fail
      refine (H3.out w2 HB2.out).mono ?_
      rintro E w3 ⟨rfl, hb⟩
      have HB3 := Lib.hid (HB2.out.trans (hb.mono HB2.out.size))
      clear hb
      go_wp2_with fail
      refine (H4.out w3 HB3.out).mono ?_
      rintro E w4 ⟨rfl, hb⟩
      have HB4 := Lib.hid (HB3.out.trans (hb.mono HB3.out.size))
      clear hb
      go_wp2_with fail
      refine (H5.out w4 HB4.out).mono ?_
      rintro E w5 ⟨rfl, hb⟩
      have HB5 := Lib.hid (HB4.out.trans (hb.mono HB4.out.size))
      clear hb
      go_wp2_with fail
      refine (H6.out w5 HB5.out).mono ?_
      rintro E w6 ⟨rfl, hb⟩
      have HB6 := Lib.hid (HB5.out.trans (hb.mono HB5.out.size))
      clear hb
      go_wp2_with fail
      refine (H7.out w6 HB6.out).mono ?_
      rintro E w7 ⟨rfl, hb⟩
      have HB7 := Lib.hid (HB6.out.trans (hb.mono HB6.out.size))
      clear hb
      go_wp2_with fail
      refine (H8.out w7 HB7.out).mono ?_
      rintro E w8 ⟨rfl, hb⟩
      have HB8 := Lib.hid (HB7.out.trans (hb.mono HB7.out.size))
      clear hb
      go_wp2_with fail
      go_ret
      exact ⟨by first | rfl | (simp only [t2] <;> rfl), HB8.out⟩
    · rw [kd] at H4
      have H5 := Lib.hid (fun (w' : World) (h : Below w.heap.size w w') => sizeJ_any d w' hd)
      have H6 := Lib.hid (fun (w' : World) (h : Below w.heap.size w w') => sizeJ_any (mkB A) w' (by rw [mkB_size]; omega))
      rw [mkB_list] at H6
      obtain ⟨M1, hM1⟩ : ∃ V, JP.manyT d.data.toList = V := ⟨_, rfl⟩
      obtain ⟨M2, hM2⟩ : ∃ V, JP.manyT A = V := ⟨_, rfl⟩
      rw [hM1] at H5 w1
      rw [hM2] at H6 w1
      have lt : (M2 : Int) < M1 := by omega
      clear hM1 hM2 w1 k2 k3 k4 lc lg hE hd hp hbulk kd hk
      subst hw0
      go_enter Tryz.func6, Tryz.ntmps6
      go_wp2_with fail
      refine (H1.out w0 HB0.out).mono ?_
      rintro E w1 ⟨rfl, hb⟩
      have HB1 := Lib.hid (HB0.out.trans (hb.mono HB0.out.size))
      clear hb
      go_wp2_with fail
      refine (H2.out w1 HB1.out).mono ?_
      rintro E w2 ⟨rfl, hb⟩
      have HB2 := Lib.hid (HB1.out.trans (hb.mono HB1.out.size))
      clear hb
      go_wp2_with fail
      refine (HL.out _).mono ?_
      rintro E w9 ⟨rfl, rfl⟩
      go_wp2_with fail
      refine (H3.out w2 HB2.out).mono ?_
      rintro E w3 ⟨rfl, hb⟩
      have HB3 := Lib.hid (HB2.out.trans (hb.mono HB2.out.size))
      clear hb
      go_wp2_with fail
      refine (H4.out w3 HB3.out).mono ?_
      rintro E w4 ⟨rfl, hb⟩
      have HB4 := Lib.hid (HB3.out.trans (hb.mono HB3.out.size))
      clear hb
      go_wp2_with fail
      refine (H5.out w4 HB4.out).mono ?_
      rintro E w5 ⟨rfl, hb⟩
      have HB5 := Lib.hid (HB4.out.trans (hb.mono HB4.out.size))
      clear hb
      go_wp2_with fail
      refine (H6.out w5 HB5.out).mono ?_
      rintro E w6 ⟨rfl, hb⟩
      have HB6 := Lib.hid (HB5.out.trans (hb.mono HB5.out.size))
      clear hb
      go_wp2_with fail
      go_ret
      exact ⟨by first | rfl | (simp [lt]), HB6.out⟩
  · have n0 : (JP.pcutE d.data.toList p.data.toList != 0) = true := by rw [bne_iff_ne]; exact z
    rw [JP.pcut_no z] at H2
    obtain ⟨E1, hE1⟩ : ∃ E, JP.pcutE d.data.toList p.data.toList = E := ⟨_, rfl⟩
    rw [hE1] at H2 n0
    clear hE hd hp hbulk z hE1
    subst hw0
    go_enter Tryz.func6, Tryz.ntmps6
    go_wp2_with fail
    refine (H1.out w0 HB0.out).mono ?_
    rintro E w1 ⟨rfl, hb⟩
    have HB1 := Lib.hid (HB0.out.trans (hb.mono HB0.out.size))
    clear hb
    go_wp2_with fail
    refine (H2.out w1 HB1.out).mono ?_
    rintro E w2 ⟨rfl, hb⟩
    have HB2 := Lib.hid (HB1.out.trans (hb.mono HB1.out.size))
    clear hb
    go_wp2_with fail
    go_ret
    exact ⟨by first | rfl | (rw [t0] <;> rfl), HB2.out⟩
end Go.Proofs.YtlcongehmjiabaaGreatDoor
