/- grants: users, what is asked, and the closures that look for a twin: their contracts. -/
import Derived.Test.YtkkfnihdnclgiaaDoorGrantsRules
namespace Go.Proofs.YtkkfnihdnclgiaaDoor
open Go.RowKit

theorem short_any (s : ByteArray) (w : World) (hs : s.size ≤ 1099511627776) : Calls Tryd.prog 65 #[.string s] w fun e w' => e = .returned (.int .i64 (shortC s)) ∧ w = w' := by
  obtain ⟨cd, Hcd⟩ : ∃ cd, Hid (NameP.check s.data.toList = cd) := ⟨_, Lib.hid rfl⟩
  have Hr : Hid (shortC s = says cd (if 20 < s.size then 2 else 0)) := by show _ = _; unfold shortC; rw [Hcd.out]
  rw [Hr.out]
  by_cases h0 : cd = 0
  · subst h0
    rw [zero_says]
    by_cases h2 : 20 < s.size
    · rw [if_pos h2]
      have h3 : (20 : Int) < (s.size : Int) := by omega
      go_enter Tryd.func65, Tryd.ntmps65
      go_wp2_with fail
      refine (check_any s w hs).mono ?_
      rw [Hcd.out]
      rintro E w1 ⟨rfl, rfl⟩
      go_wp2_with fail
      go_ret
      exact ⟨rfl, rfl⟩
    · rw [if_neg h2]
      have h3 : ¬ (20 : Int) < (s.size : Int) := by omega
      go_enter Tryd.func65, Tryd.ntmps65
      go_wp2_with fail
      refine (check_any s w hs).mono ?_
      rw [Hcd.out]
      rintro E w1 ⟨rfl, rfl⟩
      go_wp2_with fail
      go_ret
      exact ⟨rfl, rfl⟩
  · have Hs : Hid (says cd (if 20 < s.size then 2 else 0) = cd) := by show _ = _; unfold says; rw [if_neg h0]
    rw [Hs.out]
    have q : (cd != 0) = true := by rw [bne_iff_ne]; exact h0
    clear h0 Hs Hr
    go_enter Tryd.func65, Tryd.ntmps65
    go_wp2_with fail
    refine (check_any s w hs).mono ?_
    rw [Hcd.out]
    rintro E w1 ⟨rfl, rfl⟩
    go_wp2_with fail
    go_ret
    exact ⟨rfl, rfl⟩
/-- a slice's first things -/
theorem RowAt.take {α : Type} {R : Rd α} {k : Nat} {w : World} {ao : Option Addr} {n c : Nat} {l : List α} (h : RowAt R k w (.slice ao n c) l) {i : Nat} (hi : i ≤ l.length) : RowAt R k w (.slice ao i c) (l.take i) := by
  rcases h with ⟨h1, rfl⟩ | ⟨a, c', h1, h2, h3, h4⟩
  · cases h1
    obtain rfl : i = 0 := by simpa using hi
    exact .inl ⟨rfl, by simp⟩
  · injection h1 with u1 u2 u3
    subst u1 u3
    have hlen : (l.take i).length = i := by rw [List.length_take]; omega
    refine .inr ⟨a, c, by rw [hlen], by omega, h3, fun j x hx => ?_⟩
    have hj : j < i := by have := (List.getElem?_eq_some_iff.1 hx).1; omega
    rw [List.getElem?_take_of_lt hj] at hx
    exact h4 j x hx
def groupC (l : List ByteArray) (i : Nat) (g : ByteArray) : Int := says (shortC g) (if Lib.containsS (l.take i) g = true then 5 else 0)
set_option maxRecDepth 100000 in
set_option maxHeartbeats 800000 in
theorem user_any (y1 : Value) (u : GUser) (w : World) (h : UserR w [.string u.name, y1] u) (hn : u.name.size ≤ 1048576) (hok : okS u.groups) :
    Calls Tryd.prog 50 #[.agg #[.string u.name, y1]] w fun e w' => e = .returned (.int .i64 (userC u)) ∧ Below w.heap.size w w' := by
  obtain ⟨v1, hcs, s1⟩ := h
  simp only [List.cons.injEq, and_true, true_and] at hcs
  obtain rfl := hcs
  have hrow := s1.row
  obtain ⟨a1, c1, rfl, _, _⟩ := hrow.len
  have HR := Lib.hid hrow
  have Hok := Lib.hid hok
  have hb := (Below.refl w.heap.size w).alloc (Nat.le_refl _) (.cells #[.string u.name, .slice a1 u.groups.length c1] 39)
  have b1 : (w.alloc (.cells #[.string u.name, .slice a1 u.groups.length c1] 39)).heap[w.heap.size]? = some (.cells #[.string u.name, .slice a1 u.groups.length c1] 39 (0, 0)) := heap_alloc_new w _
  have hs1 : w.heap.size < (w.alloc (.cells #[.string u.name, .slice a1 u.groups.length c1] 39)).heap.size := by simp
  obtain ⟨w1, hw1⟩ : ∃ w1, w1 = w.alloc (.cells #[.string u.name, .slice a1 u.groups.length c1] 39) := ⟨_, rfl⟩
  obtain ⟨gb, hgb⟩ : ∃ gb, gb = w.heap.size := ⟨_, rfl⟩
  rw [← hw1] at hb b1 hs1
  rw [← hgb] at b1 hs1
  have Hb := Lib.hid hb
  have cc := fun i => cell_block b1 i
  have hl6 := hok.1
  obtain ⟨sc, Hsc⟩ : ∃ sc, Hid (shortC u.name = sc) := ⟨_, Lib.hid rfl⟩
  obtain ⟨R, HRes⟩ : ∃ R, Hid (userC u = R) := ⟨_, Lib.hid rfl⟩
  rw [HRes.out]
  have Hu : Hid (R = says sc (if 6 < u.groups.length then 2 else firstBad (u.groups.mapIdx (groupC u.groups)))) := by show _ = _; rw [← HRes.out]; unfold userC; rw [Hsc.out]; rfl
  clear hrow s1 hok hb b1
  go_enter Tryd.func50, Tryd.ntmps50
  go_upto_region 1 with fail
  rw [← hw1, ← hgb]
  clear hw1
  have hs0 : w.heap.size ≤ w1.heap.size := by omega
  clear hgb
  go_wp2_with fail
  refine (short_any u.name w1 (by omega)).mono ?_
  rw [Hsc.out]
  rintro E w2 ⟨rfl, rfl⟩
  by_cases h0 : sc = 0
  · subst h0
    rw [zero_says] at Hu
    by_cases h6 : 6 < u.groups.length
    · rw [if_pos h6] at Hu
      have q : (6 : Int) < (u.groups.length : Int) := by omega
      go_wp2_with fail
      go_ret
      exact ⟨congrArg (fun n => Ending.returned (Value.int .i64 n)) Hu.out.symm, Hb.out⟩
    · rw [if_neg h6] at Hu
      have q : ¬ (6 : Int) < (u.groups.length : Int) := by omega
      go_wp2_with fail
      go_loopg [20] u.groups.length (fun k u20 wr => ∃ i : Nat, i + k = u.groups.length ∧ u20 = .int .i64 (i : Int) ∧ Hid (firstBad ((u.groups.mapIdx (groupC u.groups)).take i) = 0) ∧ w1 = wr)
      case atStart => exact ⟨0, by omega, rfl, Lib.hid (by rw [List.take_zero]; rfl), rfl⟩
      case round =>
        obtain ⟨i, hig, rfl, Hz, rfl⟩ := hrel
        cases gk with
        | zero =>
          obtain rfl : i = u.groups.length := by omega
          have HR0 : Hid (R = 0) := by
            have h9 := Hz.out
            rw [List.take_of_length_le (by simp)] at h9
            show _ = _
            rw [Hu.out, h9]
          go_wp2_with fail
          go_ret
          exact ⟨congrArg (fun n => Ending.returned (Value.int .i64 n)) HR0.out.symm, Hb.out⟩
        | succ k =>
          have hil : i < u.groups.length := by omega
          obtain ⟨s, hsi⟩ : ∃ s, u.groups[i]? = some s := ⟨u.groups[i]'(by omega), List.getElem?_eq_getElem _⟩
          obtain ⟨bk, o, c', hv, _, _, hbs, hcell⟩ := HR.out.form (by omega) (by omega)
          cases hv
          obtain ⟨ds, _, hcc, hR⟩ := hcell i s hsi
          obtain rfl : ds = [.string s] := hR
          have e0 : w1.cell? ⟨bk, o + i, none⟩ = some (.string s) := (Hb.out.cell (p := ⟨bk, _, none⟩) hbs).trans (by simpa using hcc 0 _ rfl)
          have q1 : (0 : Int) ≤ (i : Int) := by omega
          have q2 : (i : Int) < (u.groups.length : Int) := by omega
          have q3 : (i : Int) ≤ (c1 : Int) := by have := HR.out.len; omega
          have hss := Hok.out.2 s (List.mem_of_getElem? hsi)
          obtain ⟨e1, He1⟩ : ∃ e1, Hid (shortC s = e1) := ⟨_, Lib.hid rfl⟩
          obtain ⟨ct, Hct⟩ : ∃ ct, Hid (Lib.containsS (u.groups.take i) s = ct) := ⟨_, Lib.hid rfl⟩
          have Hone : Hid ((u.groups.mapIdx (groupC u.groups))[i]? = some (says e1 (if ct = true then 5 else 0))) := by
            show _ = _; rw [List.getElem?_mapIdx, hsi]; show some (groupC u.groups i s) = _; unfold groupC; rw [He1.out, Hct.out]
          have Hstep : Hid (firstBad ((u.groups.mapIdx (groupC u.groups)).take (i + 1)) = says e1 (if ct = true then 5 else 0)) := by
            show _ = _; rw [firstBad_take Hone.out, Hz.out, zero_says]
          have Hbadrest : Hid (says e1 (if ct = true then 5 else 0) ≠ 0 → R = says e1 (if ct = true then 5 else 0)) := Lib.hid fun hne => by
            rw [Hu.out]
            have h9 : firstBad (u.groups.mapIdx (groupC u.groups)) = says (firstBad ((u.groups.mapIdx (groupC u.groups)).take (i + 1))) (firstBad ((u.groups.mapIdx (groupC u.groups)).drop (i + 1))) := by rw [← firstBad_append, List.take_append_drop]
            rw [h9, Hstep.out]
            unfold says at hne ⊢
            rw [if_neg hne]
          have Htk := Lib.hid (HR.out.take (i := i) (by omega)).strs
          have hit : i = (u.groups.take i).length := by rw [List.length_take]; omega
          have Hit := Lib.hid hit
          clear hcc hcell hsi hit
          go_wp2_with fail
          refine (short_any s w1 (by omega)).mono ?_
          rw [He1.out]
          rintro E w2 ⟨rfl, rfl⟩
          by_cases h1 : e1 = 0
          · subst h1
            rw [zero_says] at Hstep Hbadrest
            go_wp2_with fail
            refine (contains_any _ (u.groups.take i) s w1 (Htk.out.below' Hb.out) (by rw [← Hit.out]; omega)).mono ?_
            rw [Hct.out]
            rintro E w2 ⟨rfl, rfl⟩
            cases ct with
            | true =>
              have Hr5 : Hid (R = 5) := Lib.hid (by have := Hbadrest.out (by simp); simpa using this)
              go_wp2_with fail
              go_ret
              exact ⟨congrArg (fun n => Ending.returned (Value.int .i64 n)) Hr5.out.symm, Hb.out⟩
            | false =>
              go_wp2_with fail
              go_roundg k
              case measure => omega
              case rel => exact ⟨i + 1, by omega, by go_num, Lib.hid (by rw [Hstep.out]; simp), rfl⟩
          · have q4 : (e1 != 0) = true := by rw [bne_iff_ne]; exact h1
            have Hr5 : Hid (R = e1) := Lib.hid (by
              have h8 : says e1 (if ct = true then 5 else 0) = e1 := by unfold says; rw [if_neg h1]
              have := Hbadrest.out (by rw [h8]; exact h1)
              rw [this, h8])
            clear h1
            go_wp2_with fail
            go_ret
            exact ⟨congrArg (fun n => Ending.returned (Value.int .i64 n)) Hr5.out.symm, Hb.out⟩
  · have Hs : Hid (R = sc) := by show _ = _; rw [Hu.out]; unfold says; rw [if_neg h0]
    have q : (sc != 0) = true := by rw [bne_iff_ne]; exact h0
    clear h0
    go_wp2_with fail
    go_ret
    exact ⟨congrArg (fun n => Ending.returned (Value.int .i64 n)) Hs.out.symm, Hb.out⟩
def CapRole (gr : Nat) (r : GRole) (w : World) : Prop := ∃ z2 : Value, w.heap[gr]? = some (.cells #[.string r.space, .string r.name, z2] 75 (0, 0))
theorem capRole_keep (gr : Nat) (r : GRole) (w w' : World) (h : CapRole gr r w) (hb : Below w.heap.size w w') : CapRole gr r w' := by
  obtain ⟨z2, h⟩ := h
  exact ⟨z2, below_block hb h⟩
set_option maxRecDepth 100000 in
theorem cloRole_any (gr : Nat) (r x : GRole) (y2 : Value) (w : World) (_h : RoleR w [.string x.space, .string x.name, y2] x) (hc : CapRole gr r w) :
    Calls Tryd.prog 62 #[.agg #[.string x.space, .string x.name, y2], .pointer (some ⟨gr, 0, none⟩)] w fun e w' => e = .returned (.bool (sameRole x r)) ∧ Below w.heap.size w w' := by
  obtain ⟨z2, h1⟩ := hc
  have cc := fun i => cell_block h1 i
  have hgr : gr < w.heap.size := by
    rcases Nat.lt_or_ge gr w.heap.size with h2 | h2
    · exact h2
    · rw [Array.getElem?_eq_none h2] at h1; cases h1
  have way : (eqB x.space r.space = false ∧ Hid (sameRole x r = false)) ∨ (eqB x.space r.space = true ∧ eqB x.name r.name = false ∧ Hid (sameRole x r = false)) ∨ (eqB x.space r.space = true ∧ eqB x.name r.name = true ∧ Hid (sameRole x r = true)) := by
    cases h2 : eqB x.space r.space with
    | false => exact .inl ⟨rfl, Lib.hid (by unfold sameRole; rw [h2]; rfl)⟩
    | true => cases h3 : eqB x.name r.name with
      | false => exact .inr (.inl ⟨rfl, rfl, Lib.hid (by unfold sameRole; rw [h2, h3]; rfl)⟩)
      | true => exact .inr (.inr ⟨rfl, rfl, Lib.hid (by unfold sameRole; rw [h2, h3]; rfl)⟩)
  unfold eqB at way
  clear _h h1
  rcases way with ⟨p1, Hp⟩ | ⟨p1, p2, Hp⟩ | ⟨p1, p2, Hp⟩
  all_goals
    rw [Hp.out]
    go_enter Tryd.func62, Tryd.ntmps62
    go_wp2_with fail
    go_ret
    exact ⟨rfl, (Below.refl _ _).alloc (Nat.le_refl _) _⟩

def CapBind (gr : Nat) (r : GBind) (w : World) : Prop := ∃ z4 z5 : Value, w.heap[gr]? = some (.cells #[.string r.space, .string r.name, .string r.role, .bool r.whole, z4, z5] 77 (0, 0))
theorem capBind_keep (gr : Nat) (r : GBind) (w w' : World) (h : CapBind gr r w) (hb : Below w.heap.size w w') : CapBind gr r w' := by
  obtain ⟨z4, z5, h⟩ := h
  exact ⟨z4, z5, below_block hb h⟩
set_option maxRecDepth 100000 in
theorem cloBind_any (gr : Nat) (r x : GBind) (y4 y5 : Value) (w : World) (_h : BindR w [.string x.space, .string x.name, .string x.role, .bool x.whole, y4, y5] x) (hc : CapBind gr r w) :
    Calls Tryd.prog 64 #[.agg #[.string x.space, .string x.name, .string x.role, .bool x.whole, y4, y5], .pointer (some ⟨gr, 0, none⟩)] w fun e w' => e = .returned (.bool (sameBind x r)) ∧ Below w.heap.size w w' := by
  obtain ⟨z4, z5, h1⟩ := hc
  have cc := fun i => cell_block h1 i
  have hgr : gr < w.heap.size := by
    rcases Nat.lt_or_ge gr w.heap.size with h2 | h2
    · exact h2
    · rw [Array.getElem?_eq_none h2] at h1; cases h1
  have way : (eqB x.space r.space = false ∧ Hid (sameBind x r = false)) ∨ (eqB x.space r.space = true ∧ eqB x.name r.name = false ∧ Hid (sameBind x r = false)) ∨ (eqB x.space r.space = true ∧ eqB x.name r.name = true ∧ Hid (sameBind x r = true)) := by
    cases h2 : eqB x.space r.space with
    | false => exact .inl ⟨rfl, Lib.hid (by unfold sameBind; rw [h2]; rfl)⟩
    | true => cases h3 : eqB x.name r.name with
      | false => exact .inr (.inl ⟨rfl, rfl, Lib.hid (by unfold sameBind; rw [h2, h3]; rfl)⟩)
      | true => exact .inr (.inr ⟨rfl, rfl, Lib.hid (by unfold sameBind; rw [h2, h3]; rfl)⟩)
  unfold eqB at way
  clear _h h1
  rcases way with ⟨p1, Hp⟩ | ⟨p1, p2, Hp⟩ | ⟨p1, p2, Hp⟩
  all_goals
    rw [Hp.out]
    go_enter Tryd.func64, Tryd.ntmps64
    go_wp2_with fail
    go_ret
    exact ⟨rfl, (Below.refl _ _).alloc (Nat.le_refl _) _⟩
end Go.Proofs.YtkkfnihdnclgiaaDoor
