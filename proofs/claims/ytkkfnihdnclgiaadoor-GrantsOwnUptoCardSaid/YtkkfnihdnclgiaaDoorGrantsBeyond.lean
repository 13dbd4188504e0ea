/- grants: Beyond: its contract. -/
import Derived.Test.YtkkfnihdnclgiaaDoorGrantsCover
import Derived.Test.YtkkfnihdnclgiaaDoorRowX
import Derived.Test.YtkkfnihdnclgiaaDoorRelZ
namespace Go.Proofs.YtkkfnihdnclgiaaDoor
open Go.RowKit

theorem strAt_one' {w : World} {v : Value} {l : List ByteArray} (h : StrAt w v l) : v.oneCell' = true := by
  rcases h.row with ⟨rfl, _⟩ | ⟨_, _, rfl, _⟩ <;> rfl
theorem one_strs : OneR RStrs := fun _ _ _ h u hu => by
  obtain ⟨v, hcs, hr⟩ := h
  subst hcs
  simp at hu
  subst hu
  exact strAt_one' hr
theorem Tryd.infoStrs : (Tryd.prog.info? 23).map (fun i => (i.zero, i.size, i.bytes)) = some (some (.slice none 0 0), 1, 24) := by kernel_rfl
theorem exec_append {P : Program} {a : Act} {o : Oper} {w w3 : World} {s x : Operand} {t : TypeId} {v xv v' : Value} (ho : o.op = .call { callee := .builtin .append, args := #[s, x], argTypes := #[t, t] }) (hs : a.eval s = v) (hx : a.eval x = xv)
    (hrun : (Builtin.append_ #[t, t] o.type #[v, xv]).run P w = .ok v' w3) : (execOp a.eval o).run P w = .ok (.value v') w3 := by
  simp [execOp, ho, resolve, invoke, builtin, hs, hx, hrun, Result.andThen]
/-- two slices lie apart -/
def Sep (v v' : Value) : Prop := ∀ q, v.ownBlock = some q → v'.ownBlock ≠ some q
/-- grown in its place, or new -/
def Grew (n : Nat) (V v : Value) : Prop := ∀ q, v.ownBlock = some q → V.ownBlock = some q ∨ n < q
/-- three rows of texts of the call's own, that lie apart -/
def Rows3 (w0 w : World) (B : Nat) (v6 v7 v8 : Value) (l : List GRule) : Prop :=
  OwnAt (AtW w0 RStrs) 1 w B 23 v6 (l.map (·.verbs)) ∧ OwnAt (AtW w0 RStrs) 1 w B 23 v7 (l.map (·.kinds)) ∧ OwnAt (AtW w0 RStrs) 1 w B 23 v8 (l.map (·.names)) ∧ Sep v6 v7 ∧ Sep v6 v8 ∧ Sep v7 v8
theorem rows3_nil (w0 w : World) (B : Nat) : Rows3 w0 w B (.slice none 0 0) (.slice none 0 0) (.slice none 0 0) [] :=
  ⟨OwnAt.nil w, OwnAt.nil w, OwnAt.nil w, fun _ h => (by cases h), fun _ h => (by cases h), fun _ h => (by cases h)⟩
theorem Rows3.below {w0 w w' : World} {B : Nat} {v6 v7 v8 : Value} {l : List GRule} (h : Rows3 w0 w B v6 v7 v8 l) (hb : Below w.heap.size w w') : Rows3 w0 w' B v6 v7 v8 l :=
  ⟨h.1.below (flat_atW w0 _).stays hb, h.2.1.below (flat_atW w0 _).stays hb, h.2.2.1.below (flat_atW w0 _).stays hb, h.2.2.2⟩
theorem take_map {β : Type} (f : GRule → β) {l : List GRule} {i : Nat} {x : GRule} (h : l[i]? = some x) : (l.take (i + 1)).map f = (l.take i).map f ++ [f x] := by
  rw [List.take_add_one, h, List.map_append]; rfl
set_option maxRecDepth 100000 in
theorem app_row {w0 w : World} {B gb : Nat} {V X : Value} {L : List (List ByteArray)} {z : List ByteArray} {g n c : Nat} {d : Option Addr} (h : OwnAt (AtW w0 RStrs) 1 w B 23 V L) (hL : L.length ≤ 1048576)
    (hX : X = .slice (some ⟨g, 0, none⟩) 1 1) (hg : w.heap[g]? = some (.cells #[.slice d n c] 23 (0, 0))) (hz : StrAt w0 (.slice d n c) z) (hB : B ≤ w.heap.size) (hgb : gb < w.heap.size) :
    ∃ v' w', (Builtin.append_ #[58, 58] 58 #[V, X]).run Tryd.prog w = .ok v' w' ∧ OwnAt (AtW w0 RStrs) 1 w' B 23 v' (L ++ [z]) ∧ w.grownBy w' V.ownBlock ∧ Grew gb V v' ∧ ∀ q, v'.ownBlock = some q → V.ownBlock = some q ∨ q = w.heap.size := by
  obtain ⟨i0, hi0, hz0, hz1, hz2⟩ := info_parts Tryd.infoStrs
  obtain ⟨v', w', hrun, r1, r2, _, r4⟩ := run_append_ownAt (P := Tryd.prog) w 58 58 i0 _ 24 Tryd.underlying58 hi0 hz0 hz1 hz2 rfl (by omega) (flat_atW w0 RStrs) (one_atW w0 one_strs) V h X (m := [z]) (by rw [hX]; exact RowAt.one hg rfl ⟨_, rfl, hz⟩) (by unfold maxLen; simp; omega) (by simp; omega) hB
  have r5 : ∀ q, v'.ownBlock = some q → V.ownBlock = some q ∨ q = w.heap.size := fun q hq => by
    rcases r4 with h1 | h1
    · exact .inl (by rw [← h1]; exact hq)
    · rw [h1] at hq; cases hq; exact .inr rfl
  exact ⟨v', w', hrun, r1, r2, fun q hq => (r5 q hq).imp id fun h => by omega, r5⟩
theorem Tryd.sizeAsk : (Tryd.prog.info? 27).map (·.size) = some 4 := by kernel_rfl
def AskV (a : GAsk) : Value := .agg #[.string a.verb, .string a.kind, .string a.space, .string a.name]

set_option maxRecDepth 100000 in
set_option maxHeartbeats 3200000 in
theorem beyond_any (v y0 y1 y2 : Value) (l : List GRule) (r : GRule) (w : World) (h : RowAt RuleR 3 w v l) (hr : RuleR w [y0, y1, y2] r) (hl : l.length ≤ 1048576) (hok : ∀ x ∈ l, okRule x) (hokr : okRule r)
    (hT0 : (l.map (·.verbs)).flatten.length ≤ 1048576) (hT1 : (l.map (·.kinds)).flatten.length ≤ 1048576) (hT2 : (l.map (·.names)).flatten.length ≤ 1048576) (htab : TabOK w) :
    Calls Tryd.prog 8 #[v, .agg #[y0, y1, y2]] w fun e w' => ∃ a b, e = .returned (.tuple #[AskV a, .bool b]) ∧ BeyondAt l r a b ∧ Below w.heap.size w w' := by
  obtain ⟨_, _, _, hcs, s0, s1, s2⟩ := hr
  simp only [List.cons.injEq, and_true] at hcs
  obtain ⟨rfl, rfl, rfl⟩ := hcs
  have S0 := Lib.hid s0
  have S1 := Lib.hid s1
  have S2 := Lib.hid s2
  obtain ⟨a0, c0, rfl, hc0, _⟩ := s0.row.len
  obtain ⟨a1, c1, rfl, hc1, _⟩ := s1.row.len
  obtain ⟨a2, c2, rfl, hc2, _⟩ := s2.row.len
  obtain ⟨av, cv, rfl, _, _⟩ := h.len
  have H := Lib.hid h
  have Hok := Lib.hid hok
  have Hokr := Lib.hid hokr
  have Htab := Lib.hid htab
  have HT0 := Lib.hid hT0
  have HT1 := Lib.hid hT1
  have HT2 := Lib.hid hT2
  have hL0 := hokr.1.1
  have hL1 := hokr.2.1.1
  have hL2 := hokr.2.2.1
  obtain ⟨nv, Hnv⟩ : ∃ n, Hid (r.verbs.length = n) := ⟨_, Lib.hid rfl⟩
  obtain ⟨nk, Hnk⟩ : ∃ n, Hid (r.kinds.length = n) := ⟨_, Lib.hid rfl⟩
  obtain ⟨nn, Hnn⟩ : ∃ n, Hid (r.names.length = n) := ⟨_, Lib.hid rfl⟩
  rw [Hnv.out] at S0 hc0 hL0 ⊢
  rw [Hnk.out] at S1 hc1 hL1 ⊢
  rw [Hnn.out] at S2 hc2 hL2 ⊢
  obtain ⟨w1, hw1⟩ : ∃ w1, w1 = (w.alloc (.cells #[.slice a0 nv c0, .slice a1 nk c1, .slice a2 nn c2] 25)).alloc (.cells #[.string ⟨#[]⟩, .string ⟨#[]⟩, .string ⟨#[]⟩, .string ⟨#[]⟩] 27) := ⟨_, rfl⟩
  obtain ⟨ga, hga⟩ : ∃ ga, ga = w.heap.size + 1 := ⟨_, rfl⟩
  obtain ⟨gr, hgr⟩ : ∃ gr, gr = w.heap.size := ⟨_, rfl⟩
  have b0 : w1.heap[gr]? = some (.cells #[.slice a0 nv c0, .slice a1 nk c1, .slice a2 nn c2] 25 (0, 0)) := by
    rw [hw1, hgr]
    exact below_block ((Below.refl _ _).alloc (Nat.le_refl _) _) (heap_alloc_new w _)
  have b1 : w1.heap[ga]? = some (.cells #[.string ⟨#[]⟩, .string ⟨#[]⟩, .string ⟨#[]⟩, .string ⟨#[]⟩] 27 (0, 0)) := by
    have h9 := heap_alloc_new (w.alloc (.cells #[.slice a0 nv c0, .slice a1 nk c1, .slice a2 nn c2] 25)) (.cells #[.string ⟨#[]⟩, .string ⟨#[]⟩, .string ⟨#[]⟩, .string ⟨#[]⟩] 27)
    rw [hw1, hga]
    simpa using h9
  have hb1 : Below w.heap.size w w1 := by rw [hw1]; exact ((Below.refl _ _).alloc (Nat.le_refl _) _).alloc (by simp) _
  have lgr : gr < w1.heap.size := by rw [hw1, hgr]; simp; omega
  have lga : ga < w1.heap.size := by rw [hw1, hga]; simp
  have hgaw : w.heap.size ≤ ga := by omega
  have hs1 := hb1.size
  have Hb1 := Lib.hid hb1
  have B0 := Lib.hid b0
  have B1 := Lib.hid b1
  have Hw1 := Lib.hid hw1
  have Hga := Lib.hid hga
  have Hgr := Lib.hid hgr
  obtain ⟨i0, hi0, hz0, hz1, hz2⟩ := info_parts Tryd.infoStrs
  clear h hok hokr htab hT0 hT1 hT2 b0 b1 hb1 hw1 hga hgr s0 s1 s2
  go_enter Tryd.func8, Tryd.ntmps8
  go_upto_region 1 with fail
  rw [← Hw1.out]
  try rw [← Hga.out]
  rw [← Hgr.out]
  clear Hw1 Hga Hgr
  go_wp2_with fail
  go_loopg [6, 7, 8, 22] l.length (fun g u6 u7 u8 u22 wr => ∃ i : Nat, i + g = l.length ∧ u22 = .int .i64 (i : Int) ∧ Hid (Rows3 w wr w1.heap.size u6 u7 u8 (l.take i)) ∧ Hid (Below w1.heap.size w1 wr))
  case atStart => exact ⟨0, by omega, rfl, Lib.hid (by rw [List.take_zero]; exact rows3_nil _ _ _), Lib.hid (Below.refl _ _)⟩
  case round =>
    obtain ⟨i, hig, rfl, Hrows, Hbel⟩ := hrel
    cases gk with
    | zero =>
      obtain rfl : i = l.length := by omega
      have hrows := Hrows.out
      rw [List.take_of_length_le (Nat.le_refl _)] at hrows
      have hb0 := Hb1.out.trans (Hbel.out.mono hs1)
      have R6 : Hid (RowAt RStrs 1 wr u6 (l.map (·.verbs))) := Lib.hid (RowAt.ofW stays_strs hrows.1.row hb0)
      have R7 : Hid (RowAt RStrs 1 wr u7 (l.map (·.kinds))) := Lib.hid (RowAt.ofW stays_strs hrows.2.1.row hb0)
      have R8 : Hid (RowAt RStrs 1 wr u8 (l.map (·.names))) := Lib.hid (RowAt.ofW stays_strs hrows.2.2.1.row hb0)
      have Hb0 := Lib.hid hb0
      have X0 := Lib.hid ((Hbel.out.block gr lgr).trans B0.out)
      have X1 := Lib.hid ((Hbel.out.block ga lga).trans B1.out)
      have cc := fun i => cell_block X0.out i
      have lgr2 : gr < wr.heap.size := by have := Hbel.out.size; omega
      have lga2 : ga < wr.heap.size := by have := Hbel.out.size; omega
      have hsr := hb0.size
      obtain ⟨bn, Hbn⟩ : ∃ bn : Bool, Hid (bn = decide (nn = 0)) := ⟨_, Lib.hid rfl⟩
      clear hrows hb0 Hrows B0 B1
      have hl2 : (allN r).length ≤ 1048576 := by
        unfold allN; split
        · simp
        · rw [Hnn.out]; exact hL2
      obtain ⟨na, Hna⟩ : ∃ n, Hid ((allN r).length = n) := ⟨_, Lib.hid rfl⟩
      rw [Hna.out] at hl2
      go_upto_if 46 with fail
      go_cut [12] (fun u12 wx => (∃ c12 d12, u12 = .slice c12 na d12 ∧ na ≤ d12 ∧ Hid (StrAt wx u12 (allN r))) ∧ Hid (Below wr.heap.size wr wx))
      case first =>
        by_cases h0 : nn = 0
        · have q0 : ((nn : Int) == 0) = true := by rw [beq_iff_eq]; omega
          have HN : Hid (allN r = [starB]) := Lib.hid (by unfold allN; rw [if_pos (by rw [Hnn.out]; exact h0)])
          have Hone : Hid (1 = na) := Lib.hid (by rw [← Hna.out, HN.out]; rfl)
          clear h0
          go_wp2_with fail
          go_meet
          refine ⟨⟨some ⟨wr.heap.size, 0, none⟩, 1, by rw [Hone.out], by rw [Hone.out]; exact Nat.le_refl _, Lib.hid ?_⟩, Lib.hid ((Below.refl _ _).alloc (Nat.le_refl _) _)⟩
          rw [HN.out]
          refine RowAt.strs (RowAt.one (e := 9) (cs := #[.string starB]) (fr := (0, 0)) (by rw [← star_data]; exact heap_alloc_new wr _) rfl rfl)
        · have q0 : ((nn : Int) == 0) = false := by rw [beq_eq_false_iff_ne]; omega
          have HN : Hid (allN r = r.names) := Lib.hid (by unfold allN; rw [if_neg (by rw [Hnn.out]; exact h0)])
          have Hone : Hid (nn = na) := Lib.hid (by rw [← Hna.out, HN.out, Hnn.out])
          clear h0
          go_wp2_with fail
          go_meet
          refine ⟨⟨a2, c2, by rw [Hone.out], by rw [← Hone.out]; exact hc2, Lib.hid ?_⟩, Lib.hid (Below.refl _ _)⟩
          rw [HN.out]
          exact S2.out.below' (Hb0.out)
      case rest =>
      obtain ⟨W1, rfl⟩ : ∃ W1, W1 = wr := ⟨_, rfl⟩
      obtain ⟨wx, rfl⟩ : ∃ wx, wx = wc := ⟨_, rfl⟩
      obtain ⟨⟨c12, d12, rfl, hc12, SA⟩, Hbx⟩ := hcut
      clear cc
      have cc := fun i => cell_block (below_block Hbx.out X0.out) i
      have hsx := Hbx.out.size
      go_wp2_with fail
      clear cc
      go_loopg [51] nv (fun g u51 wr => ∃ i : Nat, i + g = nv ∧ u51 = .int .i64 (i : Int) ∧ Hid (∀ v ∈ r.verbs.take i, ∀ k ∈ r.kinds, ∀ n ∈ allN r, n.size ≠ 0 → cellP l r v k n = true) ∧ Hid (Below wx.heap.size wx wr))
      case atStart => exact ⟨0, by omega, rfl, Lib.hid (fun v hv => by simp at hv), Lib.hid (Below.refl _ _)⟩
      case round =>
        obtain ⟨i, hig, rfl, Hcov, Hby⟩ := hrel
        obtain ⟨wy, rfl⟩ : ∃ wy, wy = wr := ⟨_, rfl⟩
        have hsy := Hby.out.size
        have Hbz := Lib.hid (Hbx.out.trans (Hby.out.mono hsx))
        cases gk with
        | zero =>
          obtain rfl : i = nv := by omega
          have Hend : Hid (coverP l r) := Lib.hid fun v hv => Hcov.out v (by rw [List.take_of_length_le (by rw [Hnv.out]; exact Nat.le_refl _)]; exact hv)
          have x1 := below_block Hbz.out X1.out
          have Hbwy := Lib.hid (Hb0.out.trans (Hbz.out.mono hsr))
          have Hgot : Hid (BeyondAt l r ⟨⟨#[]⟩, ⟨#[]⟩, ⟨#[]⟩, ⟨#[]⟩⟩ false) := Lib.hid (.inl ⟨rfl, rfl, Hend.out⟩)
          go_wp2_with (refine wpList_store_box (by rfl) _ _ _ (by rfl) _ _ (by rfl) (by rfl) _ _ (by exact x1) (by exact Tryd.sizeAsk) (by rfl) (by simp [Value.oneCell']) ?_)
          intro W3 b3 t3
          go_wp2_with fail
          refine bodyPost_ret (v := .tuple #[AskV ⟨⟨#[]⟩, ⟨#[]⟩, ⟨#[]⟩, ⟨#[]⟩⟩, .bool false]) ?_ rfl ⟨_, false, rfl, Hgot.out, t3.below Hbwy.out (by omega)⟩
          have c3 := fun i => cell_block b3 i
          simp [results, Tryd.results8, go_sem, c3, AskV]
        | succ gi =>
          have hil : i < nv := by omega
          obtain ⟨vv, hvv⟩ : ∃ vv, r.verbs[i]? = some vv := ⟨r.verbs[i]'(by rw [Hnv.out]; omega), List.getElem?_eq_getElem _⟩
          obtain ⟨bv, ov, c', hv, _, _, hbs, hcell⟩ := S0.out.row.form (by rw [Hnv.out]; omega) (by omega)
          injection hv with u1 u2 u3
          subst u1
          clear u2 u3
          obtain ⟨ds, _, hcc, hR⟩ := hcell i vv hvv
          have hR' : ds = [.string vv] := hR
          subst hR'
          have e0 : wy.cell? ⟨bv, ov + i, none⟩ = some (.string vv) := ((Hb0.out.trans (Hbz.out.mono hsr)).cell (p := ⟨bv, _, none⟩) hbs).trans (by simpa using hcc 0 _ rfl)
          have q1 : (0 : Int) ≤ (i : Int) := by omega
          have q2 : (i : Int) < (nv : Int) := by omega
          have cc := fun i => cell_block (below_block Hbz.out X0.out) i
          have Hvv := Lib.hid hvv
          clear hcc hcell hvv
          go_wp2_with fail
          clear cc e0
          go_loopg [58] nk (fun g u58 wr => ∃ j : Nat, j + g = nk ∧ u58 = .int .i64 (j : Int) ∧ Hid (∀ k ∈ r.kinds.take j, ∀ n ∈ allN r, n.size ≠ 0 → cellP l r vv k n = true) ∧ Hid (Below wy.heap.size wy wr))
          case atStart => exact ⟨0, by omega, rfl, Lib.hid (fun v hv => by simp at hv), Lib.hid (Below.refl _ _)⟩
          case round =>
            obtain ⟨j, hjg, rfl, Hcov2, Hby2⟩ := hrel
            obtain ⟨wz, rfl⟩ : ∃ wz, wz = wr := ⟨_, rfl⟩
            have hsz := Hby2.out.size
            have Hbz2 := Lib.hid (Hbz.out.trans (Hby2.out.mono (by omega)))
            cases gk with
            | zero =>
              obtain rfl : j = nk := by omega
              have Hnext : Hid (∀ v ∈ r.verbs.take (i + 1), ∀ k ∈ r.kinds, ∀ n ∈ allN r, n.size ≠ 0 → cellP l r v k n = true) := Lib.hid fun v hv k hk => by
                rw [List.take_add_one, Hvv.out] at hv
                rcases List.mem_append.1 hv with h | h
                · exact Hcov.out v h k hk
                · obtain rfl : v = vv := by simpa using h
                  exact Hcov2.out k (by rw [List.take_of_length_le (by rw [Hnk.out]; exact Nat.le_refl _)]; exact hk)
              go_wp2_with fail
              go_roundg gi
              case measure => omega
              case rel => exact ⟨i + 1, by omega, by go_num, Hnext, Lib.hid (Hby.out.trans (Hby2.out.mono hsy))⟩
            | succ gj =>
              have hjl : j < nk := by omega
              obtain ⟨kk, hkk⟩ : ∃ kk, r.kinds[j]? = some kk := ⟨r.kinds[j]'(by rw [Hnk.out]; omega), List.getElem?_eq_getElem _⟩
              obtain ⟨bv2, ov2, c2', hv, _, _, hbs, hcell⟩ := S1.out.row.form (by rw [Hnk.out]; omega) (by omega)
              injection hv with u1 u2 u3
              subst u1
              clear u2 u3
              obtain ⟨ds, _, hcc, hR⟩ := hcell j kk hkk
              have hR' : ds = [.string kk] := hR
              subst hR'
              have e0 : wz.cell? ⟨bv2, ov2 + j, none⟩ = some (.string kk) := ((Hb0.out.trans (Hbz2.out.mono hsr)).cell (p := ⟨bv2, _, none⟩) hbs).trans (by simpa using hcc 0 _ rfl)
              have q3 : (0 : Int) ≤ (j : Int) := by omega
              have q4 : (j : Int) < (nk : Int) := by omega
              have cc := fun i => cell_block (below_block Hbz2.out X0.out) i
              have Hkk := Lib.hid hkk
              clear hcc hcell hkk
              go_wp2_with fail
              clear cc e0
              go_loopg [64] na (fun g u64 wr => ∃ m : Nat, m + g = na ∧ u64 = .int .i64 (m : Int) ∧ Hid (∀ n ∈ (allN r).take m, n.size ≠ 0 → cellP l r vv kk n = true) ∧ Hid (Below wz.heap.size wz wr))
              case atStart => exact ⟨0, by omega, rfl, Lib.hid (fun v hv => by simp at hv), Lib.hid (Below.refl _ _)⟩
              case round =>
                obtain ⟨m, hmg, rfl, Hcov3, Hby3⟩ := hrel
                obtain ⟨wt, rfl⟩ : ∃ wt, wt = wr := ⟨_, rfl⟩
                have hst := Hby3.out.size
                have Hbz3 := Lib.hid (Hbz2.out.trans (Hby3.out.mono (by omega)))
                cases gk with
                | zero =>
                  obtain rfl : m = na := by omega
                  have Hnext : Hid (∀ k ∈ r.kinds.take (j + 1), ∀ n ∈ allN r, n.size ≠ 0 → cellP l r vv k n = true) := Lib.hid fun k hk n hn => by
                    rw [List.take_add_one, Hkk.out] at hk
                    rcases List.mem_append.1 hk with h | h
                    · exact Hcov2.out k h n hn
                    · obtain rfl : k = kk := by simpa using h
                      exact Hcov3.out n (by rw [List.take_of_length_le (by rw [Hna.out]; exact Nat.le_refl _)]; exact hn)
                  go_wp2_with fail
                  go_roundg gj
                  case measure => omega
                  case rel => exact ⟨j + 1, by omega, by go_num, Hnext, Lib.hid (Hby2.out.trans (Hby3.out.mono hsz))⟩
                | succ gm =>
                  have hml : m < na := by omega
                  obtain ⟨n, hn⟩ : ∃ n, (allN r)[m]? = some n := ⟨(allN r)[m]'(by rw [Hna.out]; omega), List.getElem?_eq_getElem _⟩
                  have SA2 := SA.out.row
                  obtain ⟨bv3, ov3, c3', hv, _, _, hbs, hcell⟩ := SA2.form (by rw [Hna.out]; omega) (by omega)
                  injection hv with u1 u2 u3
                  subst u1
                  clear u2 u3
                  obtain ⟨ds, _, hcc, hR⟩ := hcell m n hn
                  have hR' : ds = [.string n] := hR
                  subst hR'
                  have Hbt := Lib.hid (Hby.out.trans ((Hby2.out.trans (Hby3.out.mono hsz)).mono hsy))
                  have e0 : wt.cell? ⟨bv3, ov3 + m, none⟩ = some (.string n) := (Hbt.out.cell (p := ⟨bv3, _, none⟩) hbs).trans (by simpa using hcc 0 _ rfl)
                  have q5 : (0 : Int) ≤ (m : Int) := by omega
                  have q6 : (m : Int) < (na : Int) := by omega
                  have cc := fun i => cell_block (below_block Hbz3.out X0.out) i
                  have Hn := Lib.hid hn
                  clear hcc hcell hn SA2
                  by_cases hz : n.size = 0
                  · have p1 := str_none hz
                    have Hnext : Hid (∀ n ∈ (allN r).take (m + 1), n.size ≠ 0 → cellP l r vv kk n = true) := Lib.hid fun x hx hxz => by
                      rw [List.take_add_one, Hn.out] at hx
                      rcases List.mem_append.1 hx with h | h
                      · exact Hcov3.out x h hxz
                      · obtain rfl : x = n := by simpa using h
                        exact absurd hz hxz
                    clear hz
                    go_wp2_with fail
                    go_roundg gm
                    case measure => omega
                    case rel => exact ⟨m + 1, by omega, by go_num, Hnext, Hby3⟩
                  · have p1 := str_some hz
                    have p2 : n.toList.isEmpty = false := by simpa using p1
                    have Hz := Lib.hid hz
                    clear hz
                    have T := Lib.hid (Hb0.out.trans (Hbz3.out.mono hsr))
                    go_wp2_with fail
                    refine (word_any vv u6 (l.map (·.verbs)) wt (R6.out.below stays_strs Hbz3.out) (by rw [List.length_map]; exact hl) HT0.out (var_keep Htab.out T.out)).mono ?_
                    rintro E w4 ⟨tv, rfl, hw4, hb4⟩
                    have Hv := Lib.hid hw4
                    have Hb4 := Lib.hid hb4
                    have hs4 := hb4.size
                    have hst0 := Hbz3.out.size
                    have Hbz4 := Lib.hid (Hbz3.out.trans (hb4.mono hst0))
                    clear cc hw4 hb4
                    go_wp2_with fail
                    refine (word_any kk u7 (l.map (·.kinds)) w4 (R7.out.below stays_strs Hbz4.out) (by rw [List.length_map]; exact hl) HT1.out (var_keep Htab.out (T.out.trans (Hb4.out.mono T.out.size)))).mono ?_
                    rintro E w5 ⟨tk, rfl, hw5, hb5⟩
                    have Hk := Lib.hid hw5
                    have hs5 := hb5.size
                    have Hb5 := Lib.hid (Hb4.out.trans (hb5.mono hs4))
                    have Hbz5 := Lib.hid (Hbz4.out.trans (hb5.mono (by omega)))
                    clear hw5 hb5
                    go_upto_region 22 with fail
                    obtain ⟨W6, HW6⟩ : ∃ W6, Hid (w5.alloc (.cells #[.string tv, .string tk, .string ⟨#[]⟩, .string n] 27) = W6) := ⟨_, Lib.hid rfl⟩
                    obtain ⟨gq, Hgq⟩ : ∃ gq, Hid (w5.heap.size = gq) := ⟨_, Lib.hid rfl⟩
                    have Hb6 : Hid (Below w5.heap.size w5 W6) := Lib.hid (by rw [← HW6.out]; exact (Below.refl _ _).alloc (Nat.le_refl _) _)
                    have Q6 : Hid (W6.heap[gq]? = some (.cells #[.string tv, .string tk, .string ⟨#[]⟩, .string n] 27 (0, 0))) := Lib.hid (by rw [← HW6.out, ← Hgq.out]; exact heap_alloc_new w5 _)
                    have lq6 : gq < W6.heap.size := by rw [← HW6.out, ← Hgq.out]; simp
                    have hs6 := Hb6.out.size
                    have Hbz6 := Lib.hid (Hbz5.out.trans (Hb6.out.mono (by omega)))
                    rw [HW6.out, Hgq.out]
                    clear HW6
                    have cc := fun i => cell_block (below_block Hbz6.out X0.out) i
                    have cq := fun i => cell_block Q6.out i
                    go_upto_if 83 with fail
                    go_cut [19] (fun u19 wx => u19 = .pointer (some ⟨gq, 0, none⟩) ∧ (∃ a, Hid (AskFor l r vv kk n a) ∧ Hid (wx.heap[gq]? = some (.cells #[.string a.verb, .string a.kind, .string a.space, .string a.name] 27 (0, 0)))) ∧ Hid (Below w5.heap.size w5 wx) ∧ Hid (W6.heap.size ≤ wx.heap.size))
                    case first =>
                      by_cases h0 : nn = 0
                      · have q0 : ((nn : Int) == 0) = true := by rw [beq_iff_eq]; omega
                        have Hn0 := Lib.hid h0
                        clear h0
                        go_wp2_with fail
                        refine (fresh_any u8 (l.map (·.names)) W6 (R8.out.below stays_strs Hbz6.out) (by rw [List.length_map]; exact hl) HT2.out (var_keep Htab.out (Hb0.out.trans (Hbz6.out.mono hsr)))).mono ?_
                        rintro E w7 ⟨tn, rfl, hfr, _, hb7⟩
                        have Hfr := Lib.hid hfr
                        have Hb7 := Lib.hid hb7
                        have hs7 := hb7.size
                        have Q7 := Lib.hid (below_block hb7 Q6.out)
                        clear cc cq hfr hb7
                        have cq := fun i => cell_block Q7.out i
                        have fq := fun i => free_block Q7.out i
                        go_wp2_with fail
                        go_meet
                        have t8 := touch_setCell (i := 3) (v := .string tn) Q7.out
                        refine ⟨rfl, ⟨⟨tv, tk, ⟨#[]⟩, tn⟩, Lib.hid ⟨Hv.out, Hk.out, rfl, ?_⟩, Lib.hid t8.1⟩, Lib.hid (t8.2.below (Hb6.out.trans (Hb7.out.mono hs6)) (by have := Hgq.out; omega)), Lib.hid (by rw [t8.2.size]; exact hs7)⟩
                        rw [if_pos (by rw [Hnn.out]; exact Hn0.out)]
                        exact Hfr.out
                      · have q0 : ((nn : Int) == 0) = false := by rw [beq_eq_false_iff_ne]; omega
                        have Hn0 := Lib.hid h0
                        clear h0
                        go_wp2_with fail
                        go_meet
                        refine ⟨rfl, ⟨⟨tv, tk, ⟨#[]⟩, n⟩, Lib.hid ⟨Hv.out, Hk.out, rfl, ?_⟩, Q6⟩, Hb6, Lib.hid (Nat.le_refl _)⟩
                        rw [if_neg (by rw [Hnn.out]; exact Hn0.out)]
                    case rest =>
                    obtain ⟨w8, rfl⟩ : ∃ w8, w8 = wc := ⟨_, rfl⟩
                    obtain ⟨rfl, ⟨a, Ha, Q8⟩, Hb8, hs8⟩ := hcut
                    have hs8 := hs8.out
                    have Hbz8 := Lib.hid (Hbz5.out.trans (Hb8.out.mono (by omega)))
                    have Hbw8 := Lib.hid (Hb0.out.trans (Hbz8.out.mono hsr))
                    clear cc cq
                    have cq := fun i => cell_block Q8.out i
                    obtain ⟨al, Hal⟩ : ∃ al, Hid (allowsL l a = al) := ⟨_, Lib.hid rfl⟩
                    go_wp2_with fail
                    refine (allowsAll_any _ l a w8 (H.out.below stays_rule Hbw8.out) (by omega) Hok.out).mono ?_
                    rw [Hal.out]
                    rintro E w9 ⟨rfl, hb9⟩
                    have hs9 := hb9.size
                    have Hbz9 := Lib.hid (Hbz8.out.trans (hb9.mono (by have := Hbz8.out.size; omega)))
                    have Q9 := Lib.hid (below_block hb9 Q8.out)
                    have Hb9 := Lib.hid (Hbz3.out.size)
                    have Hn9 := Lib.hid (Hb5.out.trans ((Hb8.out.trans (hb9.mono (by omega))).mono (by omega)))
                    clear cq hb9
                    have cq := fun i => cell_block Q9.out i
                    cases al with
                    | true =>
                      have Hnext : Hid (∀ n ∈ (allN r).take (m + 1), n.size ≠ 0 → cellP l r vv kk n = true) := Lib.hid fun x hx hxz => by
                        rw [List.take_add_one, Hn.out] at hx
                        rcases List.mem_append.1 hx with h | h
                        · exact Hcov3.out x h hxz
                        · obtain rfl : x = n := by simpa using h
                          rw [← allows_cell Ha.out hxz]
                          exact Hal.out
                      go_wp2_with fail
                      go_roundg gm
                      case measure => omega
                      case rel => exact ⟨m + 1, by omega, by go_num, Hnext, Lib.hid (Hby3.out.trans (Hn9.out.mono hst))⟩
                    | false =>
                      have Hgot := Lib.hid (beyond_yes Ha.out Hz.out (List.mem_of_getElem? Hvv.out) (List.mem_of_getElem? Hkk.out) (List.mem_of_getElem? Hn.out) Hal.out)
                      have x1 := below_block Hbz9.out X1.out
                      have Hbw9 := Lib.hid (Hb0.out.trans (Hbz9.out.mono hsr))
                      go_wp2_with (refine wpList_copy_box (by rfl) _ _ (by rfl) (by rfl) _ _ (by rfl) _ _ (by rfl) _ _ _ _ (by exact Q9.out) (by rfl) (by rfl) _ _ (by exact x1) Tryd.underlying27 (by rfl) (by exact Tryd.sizeAsk) (by rfl) (by simp [Value.oneCell']) ?_)
                      intro W3 b3 t3
                      go_wp2_with fail
                      refine bodyPost_ret (v := .tuple #[AskV a, .bool true]) ?_ rfl ⟨a, true, rfl, Hgot.out, t3.below Hbw9.out (by omega)⟩
                      have c3 := fun i => cell_block b3 i
                      simp [results, Tryd.results8, go_sem, c3, AskV]
    | succ k =>
      have hil : i < l.length := by omega
      obtain ⟨x, hxi⟩ : ∃ x, l[i]? = some x := ⟨l[i]'(by omega), List.getElem?_eq_getElem _⟩
      obtain ⟨bk, o, c', hv, _, _, hbs, hcell⟩ := H.out.form (by omega) (by omega)
      cases hv
      obtain ⟨ds, _, hcc, hR⟩ := hcell i x hxi
      have hR2 := hR
      obtain ⟨x0, x1, x2, rfl, t0, t1, t2⟩ := hR
      obtain ⟨d0, f0, rfl, _, _⟩ := t0.row.len
      obtain ⟨d1, f1, rfl, _, _⟩ := t1.row.len
      obtain ⟨d2, f2, rfl, _, _⟩ := t2.row.len
      have T0 := Lib.hid t0
      have T1 := Lib.hid t1
      have T2 := Lib.hid t2
      have hbw := Hb1.out.trans (Hbel.out.mono hs1)
      have e0 : wr.cell? ⟨bk, o + i * 3, none⟩ = some (.slice d0 x.verbs.length f0) := (hbw.cell (p := ⟨bk, _, none⟩) hbs).trans (by simpa using hcc 0 _ rfl)
      have e1 : wr.cell? ⟨bk, o + i * 3 + 1, none⟩ = some (.slice d1 x.kinds.length f1) := (hbw.cell (p := ⟨bk, _, none⟩) hbs).trans (hcc 1 _ rfl)
      have e2 : wr.cell? ⟨bk, o + i * 3 + 2, none⟩ = some (.slice d2 x.names.length f2) := (hbw.cell (p := ⟨bk, _, none⟩) hbs).trans (hcc 2 _ rfl)
      have q1 : (0 : Int) ≤ (i : Int) := by omega
      have q2 : (i : Int) < (l.length : Int) := by omega
      have Hbw := Lib.hid hbw
      clear hcc hcell hR2 hbw t0 t1 t2
      go_upto_region 5 with fail
      obtain ⟨m, Hm⟩ : ∃ m, Hid (l.take i = m) := ⟨_, Lib.hid rfl⟩
      rw [Hm.out] at Hrows
      have hml : m.length ≤ 1048576 := by rw [← Hm.out, List.length_take]; omega
      obtain ⟨W, HW⟩ : ∃ W, Hid (wr.alloc (.cells #[.slice d0 x.verbs.length f0, .slice d1 x.kinds.length f1, .slice d2 x.names.length f2] 25) = W) := ⟨_, Lib.hid rfl⟩
      obtain ⟨gb, Hgb⟩ : ∃ gb, Hid (wr.heap.size = gb) := ⟨_, Lib.hid rfl⟩
      have HbW : Hid (Below wr.heap.size wr W) := Lib.hid (by rw [← HW.out]; exact (Below.refl _ _).alloc (Nat.le_refl _) _)
      have Hbox : Hid (W.heap[gb]? = some (.cells #[.slice d0 x.verbs.length f0, .slice d1 x.kinds.length f1, .slice d2 x.names.length f2] 25 (0, 0))) := Lib.hid (by rw [← HW.out, ← Hgb.out]; exact heap_alloc_new wr _)
      have hgW : gb < W.heap.size := by rw [← HW.out, ← Hgb.out]; simp
      have hsr := Hbel.out.size
      have hBW : w1.heap.size ≤ W.heap.size := by have := HbW.out.size; omega
      rw [HW.out, Hgb.out]
      obtain ⟨o6, o7, o8, s67, s68, s78⟩ := Hrows.out.below HbW.out
      have lo6 : ∀ q, u6.ownBlock = some q → w1.heap.size ≤ q ∧ q < gb := fun q hq => ⟨(Hrows.out.1.at hq).1, by have := (Hrows.out.1.at hq).2.1; rw [Hgb.out] at this; exact this⟩
      have lo7 : ∀ q, u7.ownBlock = some q → w1.heap.size ≤ q ∧ q < gb := fun q hq => ⟨(Hrows.out.2.1.at hq).1, by have := (Hrows.out.2.1.at hq).2.1; rw [Hgb.out] at this; exact this⟩
      have lo8 : ∀ q, u8.ownBlock = some q → w1.heap.size ≤ q ∧ q < gb := fun q hq => ⟨(Hrows.out.2.2.1.at hq).1, by have := (Hrows.out.2.2.1.at hq).2.1; rw [Hgb.out] at this; exact this⟩
      obtain ⟨rowOf, r4, r9, r14, rno⟩ : ∃ rowOf : Nat → Option Nat, rowOf 4 = u6.ownBlock ∧ rowOf 9 = u7.ownBlock ∧ rowOf 14 = u8.ownBlock ∧ ∀ i, i ≠ 4 → i ≠ 9 → i ≠ 14 → rowOf i = none := ⟨fun i => if i = 4 then u6.ownBlock else if i = 9 then u7.ownBlock else if i = 14 then u8.ownBlock else none, by simp, by simp, by simp, fun i h1 h2 h3 => by simp [h1, h2, h3]⟩
      have low : ∀ i q, some q = rowOf i → w1.heap.size ≤ q ∧ q < gb := by
        intro i q hq
        by_cases h4 : i = 4
        · subst h4; rw [r4] at hq; exact lo6 q hq.symm
        · by_cases h9 : i = 9
          · subst h9; rw [r9] at hq; exact lo7 q hq.symm
          · by_cases h14 : i = 14
            · subst h14; rw [r14] at hq; exact lo8 q hq.symm
            · rw [rno i h4 h9 h14] at hq; cases hq
      have off : ∀ (V : Value) (n : Nat), (n = 4 ∨ V.ownBlock = none ∨ Sep V u6) → (n = 9 ∨ V.ownBlock = none ∨ Sep V u7) → (n = 14 ∨ V.ownBlock = none ∨ Sep V u8) → ∀ i, n ≠ i → ∀ q, V.ownBlock = some q → some q ≠ rowOf i := by
        intro V n h4 h9 h14 i hi q hq e
        by_cases i4 : i = 4
        · subst i4; rw [r4] at e
          rcases h4 with h | h | h
          · exact hi h
          · rw [h] at hq; cases hq
          · exact h q hq e.symm
        · by_cases i9 : i = 9
          · subst i9; rw [r9] at e
            rcases h9 with h | h | h
            · exact hi h
            · rw [h] at hq; cases hq
            · exact h q hq e.symm
          · by_cases i14 : i = 14
            · subst i14; rw [r14] at e
              rcases h14 with h | h | h
              · exact hi h
              · rw [h] at hq; cases hq
              · exact h q hq e.symm
            · rw [rno i i4 i9 i14] at e; cases e
      have off6 := off u6 4 (.inl rfl) (.inr (.inr s67)) (.inr (.inr s68))
      have off7 := off u7 9 (.inr (.inr fun q h1 h2 => s67 q h2 h1)) (.inl rfl) (.inr (.inr s78))
      have off8 := off u8 14 (.inr (.inr fun q h1 h2 => s68 q h2 h1)) (.inr (.inr fun q h1 h2 => s78 q h2 h1)) (.inl rfl)
      have offG : ∀ (V v' : Value) (i : Nat), (∀ q, V.ownBlock = some q → some q ≠ rowOf i) → Grew gb V v' → ∀ q, v'.ownBlock = some q → some q ≠ rowOf i := fun V v' i h1 h2 q hq e => by
        rcases h2 q hq with h | h
        · exact h1 q h e
        · have := (low i q e).2; omega
      refine wp_region_relZ 15 (fun w' => Below w1.heap.size W w' ∧ w'.heap[gb]? = some (.cells #[.slice d0 x.verbs.length f0, .slice d1 x.kinds.length f1, .slice d2 x.names.length f2] 25 (0, 0))) (fun i w' => match i with
        | 4 => OwnAt (AtW w RStrs) 1 w' w1.heap.size 23 u6 (m.map (·.verbs))
        | 9 => OwnAt (AtW w RStrs) 1 w' w1.heap.size 23 u7 (m.map (·.kinds))
        | 14 => OwnAt (AtW w RStrs) 1 w' w1.heap.size 23 u8 (m.map (·.names))
        | _ => True) (fun i wa wb => wa.grownBy wb (rowOf i)) (fun i U w' => match i with
        | 0 => U 0 = u6
        | 1 => U 1 = .pointer (some ⟨gb, 0, none⟩)
        | 2 => U 2 = .slice d0 x.verbs.length f0
        | 3 => ∃ g, U 3 = .slice (some ⟨g, 0, none⟩) 1 1 ∧ gb < g ∧ w'.heap[g]? = some (.cells #[.slice d0 x.verbs.length f0] 23 (0, 0))
        | 4 => OwnAt (AtW w RStrs) 1 w' w1.heap.size 23 (U 4) (m.map (·.verbs) ++ [x.verbs]) ∧ Grew gb u6 (U 4)
        | 5 => U 5 = u7
        | 6 => U 6 = .pointer (some ⟨gb, 1, none⟩)
        | 7 => U 7 = .slice d1 x.kinds.length f1
        | 8 => ∃ g, U 8 = .slice (some ⟨g, 0, none⟩) 1 1 ∧ gb < g ∧ w'.heap[g]? = some (.cells #[.slice d1 x.kinds.length f1] 23 (0, 0))
        | 9 => OwnAt (AtW w RStrs) 1 w' w1.heap.size 23 (U 9) (m.map (·.kinds) ++ [x.kinds]) ∧ Grew gb u7 (U 9) ∧ Sep (U 4) (U 9)
        | 10 => U 10 = u8
        | 11 => U 11 = .pointer (some ⟨gb, 2, none⟩)
        | 12 => U 12 = .slice d2 x.names.length f2
        | 13 => ∃ g, U 13 = .slice (some ⟨g, 0, none⟩) 1 1 ∧ gb < g ∧ w'.heap[g]? = some (.cells #[.slice d2 x.names.length f2] 23 (0, 0))
        | 14 => OwnAt (AtW w RStrs) 1 w' w1.heap.size 23 (U 14) (m.map (·.names) ++ [x.names]) ∧ Grew gb u8 (U 14) ∧ Sep (U 4) (U 14) ∧ Sep (U 9) (U 14)
        | _ => True)
        (fun | 2 => [1] | 3 => [2] | 4 => [0, 3] | 7 => [6] | 8 => [7] | 9 => [4, 5, 8] | 12 => [11] | 13 => [12] | 14 => [4, 9, 10, 13] | _ => [])
        (by kernel_rfl) (by kernel_rfl) ⟨(Below.refl _ _).drew, Hbox.out⟩ ?_ ?_ ?_ ?_ ⟨?_, ?_, ?_, ?_, ?_, ?_, ?_, ?_, ?_, ?_, ?_, ?_, ?_, ?_, ?_, trivial⟩ ?_
      · intro j
        match j with
        | 0 | 1 | 2 | 3 | 5 | 6 | 7 | 8 | 10 | 11 | 12 | 13 | _ + 15 => trivial
        | 4 => exact o6.below (flat_atW w _).stays (Below.refl _ _).drew
        | 9 => exact o7.below (flat_atW w _).stays (Below.refl _ _).drew
        | 14 => exact o8.below (flat_atW w _).stays (Below.refl _ _).drew
      · intro i wa wb hk hi
        refine ⟨hi.1.grown hk (by have := hi.1.size; omega) fun q hq => (low i q hq.symm).1, (hk.block gb (by have := hi.1.size; omega) fun e => by have := (low i gb e).2; omega).trans hi.2⟩
      · intro i j wa wb hji hk hi h
        match j, hji, h with
        | 0, _, _ | 1, _, _ | 2, _, _ | 3, _, _ | 5, _, _ | 6, _, _ | 7, _, _ | 8, _, _ | 10, _, _ | 11, _, _ | 12, _, _ | 13, _, _ | _ + 15, _, _ => trivial
        | 4, hji, h => exact OwnAt.grown (flat_atW w _) h hk (off6 i hji)
        | 9, hji, h => exact OwnAt.grown (flat_atW w _) h hk (off7 i hji)
        | 14, hji, h => exact OwnAt.grown (flat_atW w _) h hk (off8 i hji)
      · intro i j U wa wb hji hk hi h
        have blk : ∀ g (o : Obj), gb < g → wa.heap[g]? = some o → wb.heap[g]? = some o := fun g o hg h1 => by
          have hlt : g < wa.heap.size := by
            rcases Nat.lt_or_ge g wa.heap.size with h2 | h2
            · exact h2
            · rw [Array.getElem?_eq_none h2] at h1; cases h1
          exact (hk.block g hlt fun e => by have := (low i g e).2; omega).trans h1
        match j, hji, h with
        | 0, _, h => exact h
        | 1, _, h => exact h
        | 2, _, h => exact h
        | 3, _, ⟨g, h1, h2, h3⟩ => exact ⟨g, h1, h2, blk g _ h2 h3⟩
        | 4, hji, ⟨h1, h2⟩ => exact ⟨OwnAt.grown (flat_atW w _) h1 hk (offG u6 _ i (off6 i hji) h2), h2⟩
        | 5, _, h => exact h
        | 6, _, h => exact h
        | 7, _, h => exact h
        | 8, _, ⟨g, h1, h2, h3⟩ => exact ⟨g, h1, h2, blk g _ h2 h3⟩
        | 9, hji, ⟨h1, h2, h3⟩ => exact ⟨OwnAt.grown (flat_atW w _) h1 hk (offG u7 _ i (off7 i hji) h2), h2, h3⟩
        | 10, _, h => exact h
        | 11, _, h => exact h
        | 12, _, h => exact h
        | 13, _, ⟨g, h1, h2, h3⟩ => exact ⟨g, h1, h2, blk g _ h2 h3⟩
        | 14, hji, ⟨h1, h2, h3⟩ => exact ⟨OwnAt.grown (flat_atW w _) h1 hk (offG u8 _ i (off8 i hji) h2), h2, h3⟩
        | _ + 15, _, h => trivial
      · intro y w' hb hS hd
        refine owesK_here u6 (by rfl) ?_ rfl (World.grownBy.refl _ _)
        simp only [putAll, List.take_succ_cons, List.take_zero]
        go_simp
      · intro y w' hb hS hd
        refine owesK_here (.pointer (some ⟨gb, 0, none⟩)) (by rfl) ?_ rfl (World.grownBy.refl _ _)
        simp only [putAll, List.take_succ_cons, List.take_zero]
        go_simp
      · intro y w' hb hS hd
        have h0 : y 1 = .pointer (some ⟨gb, 0, none⟩) := hd 1 (by simp)
        have cc := cell_block hb.2 0
        refine owesK_here (.slice d0 x.verbs.length f0) (by rfl) ?_ rfl (World.grownBy.refl _ _)
        clear hb hS hd
        simp only [putAll, List.take_succ_cons, List.take_zero]
        go_simp
      · intro y w' hb hS hd
        have h0 : y 2 = .slice d0 x.verbs.length f0 := hd 2 (by simp)
        have hsz := hb.1.size
        refine owesK_makes (w' := w'.alloc (.cells #[.slice d0 x.verbs.length f0] 23)) (.slice (some ⟨w'.heap.size, 0, none⟩) 1 1) (by rfl) ?_ ⟨_, rfl, by omega, heap_alloc_new w' _⟩ (World.grownBy_alloc w' _ _)
        clear hb hS hd
        simp only [putAll, List.take_succ_cons, List.take_zero]
        rw [h0]
        go_simp
      · intro y w' hb hS hd
        have h0 : y 0 = u6 := hd 0 (by simp)
        obtain ⟨g, h3, _, hg⟩ : ∃ g, y 3 = .slice (some ⟨g, 0, none⟩) 1 1 ∧ gb < g ∧ w'.heap[g]? = some (.cells #[.slice d0 x.verbs.length f0] 23 (0, 0)) := hd 3 (by simp)
        have hsz := hb.1.size
        obtain ⟨v', w3, hrun, q1, q2, q3, q4⟩ := app_row (gb := gb) (X := y 3) (show OwnAt (AtW w RStrs) 1 w' w1.heap.size 23 u6 (m.map (·.verbs)) from hS) (by rw [List.length_map]; exact hml) h3 hg T0.out (by omega) (by omega)
        refine owesK_makes (w' := w3) v' (by rfl) ?_ ⟨q1, q3⟩ (by show w'.grownBy w3 (rowOf 4); rw [r4]; exact q2)
        rw [← h0] at hrun
        clear hb hS hd
        simp only [putAll, List.take_succ_cons, List.take_zero]
        try simp only [Act.put, List.setIfInBounds_toArray, List.set_cons_zero, List.set_cons_succ]
        exact exec_append (by rfl) (by rfl) (by rfl) hrun
      · intro y w' hb hS hd
        refine owesK_here u7 (by rfl) ?_ rfl (World.grownBy.refl _ _)
        simp only [putAll, List.take_succ_cons, List.take_zero]
        go_simp
      · intro y w' hb hS hd
        refine owesK_here (.pointer (some ⟨gb, 1, none⟩)) (by rfl) ?_ rfl (World.grownBy.refl _ _)
        simp only [putAll, List.take_succ_cons, List.take_zero]
        go_simp
      · intro y w' hb hS hd
        have h0 : y 6 = .pointer (some ⟨gb, 1, none⟩) := hd 6 (by simp)
        have cc := cell_block hb.2 1
        refine owesK_here (.slice d1 x.kinds.length f1) (by rfl) ?_ rfl (World.grownBy.refl _ _)
        clear hb hS hd
        simp only [putAll, List.take_succ_cons, List.take_zero]
        go_simp
      · intro y w' hb hS hd
        have h0 : y 7 = .slice d1 x.kinds.length f1 := hd 7 (by simp)
        have hsz := hb.1.size
        refine owesK_makes (w' := w'.alloc (.cells #[.slice d1 x.kinds.length f1] 23)) (.slice (some ⟨w'.heap.size, 0, none⟩) 1 1) (by rfl) ?_ ⟨_, rfl, by omega, heap_alloc_new w' _⟩ (World.grownBy_alloc w' _ _)
        clear hb hS hd
        simp only [putAll, List.take_succ_cons, List.take_zero]
        rw [h0]
        go_simp
      · intro y w' hb hS hd
        have h0 : y 5 = u7 := hd 5 (by simp)
        obtain ⟨g, h3, _, hg⟩ : ∃ g, y 8 = .slice (some ⟨g, 0, none⟩) 1 1 ∧ gb < g ∧ w'.heap[g]? = some (.cells #[.slice d1 x.kinds.length f1] 23 (0, 0)) := hd 8 (by simp)
        have hsz := hb.1.size
        obtain ⟨v', w3, hrun, q1, q2, q3, q4⟩ := app_row (gb := gb) (X := y 8) (show OwnAt (AtW w RStrs) 1 w' w1.heap.size 23 u7 (m.map (·.kinds)) from hS) (by rw [List.length_map]; exact hml) h3 hg T1.out (by omega) (by omega)
        have dep4 : OwnAt (AtW w RStrs) 1 w' w1.heap.size 23 (y 4) (m.map (·.verbs) ++ [x.verbs]) ∧ Grew gb u6 (y 4) := hd 4 (by simp)
        have sep4 : Sep (y 4) v' := fun q hq hq' => by
          rcases q4 q hq' with h | h
          · rcases dep4.2 q hq with h1 | h1
            · exact s67 q h1 h
            · have := (lo7 q h).2; omega
          · have := (dep4.1.at hq).2.1; omega
        refine owesK_makes (w' := w3) v' (by rfl) ?_ ⟨q1, q3, sep4⟩ (by show w'.grownBy w3 (rowOf 9); rw [r9]; exact q2)
        rw [← h0] at hrun
        clear hb hS hd
        simp only [putAll, List.take_succ_cons, List.take_zero]
        try simp only [Act.put, List.setIfInBounds_toArray, List.set_cons_zero, List.set_cons_succ]
        exact exec_append (by rfl) (by rfl) (by rfl) hrun
      · intro y w' hb hS hd
        refine owesK_here u8 (by rfl) ?_ rfl (World.grownBy.refl _ _)
        simp only [putAll, List.take_succ_cons, List.take_zero]
        go_simp
      · intro y w' hb hS hd
        refine owesK_here (.pointer (some ⟨gb, 2, none⟩)) (by rfl) ?_ rfl (World.grownBy.refl _ _)
        simp only [putAll, List.take_succ_cons, List.take_zero]
        go_simp
      · intro y w' hb hS hd
        have h0 : y 11 = .pointer (some ⟨gb, 2, none⟩) := hd 11 (by simp)
        have cc := cell_block hb.2 2
        refine owesK_here (.slice d2 x.names.length f2) (by rfl) ?_ rfl (World.grownBy.refl _ _)
        clear hb hS hd
        simp only [putAll, List.take_succ_cons, List.take_zero]
        go_simp
      · intro y w' hb hS hd
        have h0 : y 12 = .slice d2 x.names.length f2 := hd 12 (by simp)
        have hsz := hb.1.size
        refine owesK_makes (w' := w'.alloc (.cells #[.slice d2 x.names.length f2] 23)) (.slice (some ⟨w'.heap.size, 0, none⟩) 1 1) (by rfl) ?_ ⟨_, rfl, by omega, heap_alloc_new w' _⟩ (World.grownBy_alloc w' _ _)
        clear hb hS hd
        simp only [putAll, List.take_succ_cons, List.take_zero]
        rw [h0]
        go_simp
      · intro y w' hb hS hd
        have h0 : y 10 = u8 := hd 10 (by simp)
        obtain ⟨g, h3, _, hg⟩ : ∃ g, y 13 = .slice (some ⟨g, 0, none⟩) 1 1 ∧ gb < g ∧ w'.heap[g]? = some (.cells #[.slice d2 x.names.length f2] 23 (0, 0)) := hd 13 (by simp)
        have hsz := hb.1.size
        obtain ⟨v', w3, hrun, q1, q2, q3, q4⟩ := app_row (gb := gb) (X := y 13) (show OwnAt (AtW w RStrs) 1 w' w1.heap.size 23 u8 (m.map (·.names)) from hS) (by rw [List.length_map]; exact hml) h3 hg T2.out (by omega) (by omega)
        have dep4 : OwnAt (AtW w RStrs) 1 w' w1.heap.size 23 (y 4) (m.map (·.verbs) ++ [x.verbs]) ∧ Grew gb u6 (y 4) := hd 4 (by simp)
        have sep4 : Sep (y 4) v' := fun q hq hq' => by
          rcases q4 q hq' with h | h
          · rcases dep4.2 q hq with h1 | h1
            · exact s68 q h1 h
            · have := (lo8 q h).2; omega
          · have := (dep4.1.at hq).2.1; omega
        have dep9 : OwnAt (AtW w RStrs) 1 w' w1.heap.size 23 (y 9) (m.map (·.kinds) ++ [x.kinds]) ∧ Grew gb u7 (y 9) ∧ Sep (y 4) (y 9) := hd 9 (by simp)
        have sep9 : Sep (y 9) v' := fun q hq hq' => by
          rcases q4 q hq' with h | h
          · rcases dep9.2.1 q hq with h1 | h1
            · exact s78 q h1 h
            · have := (lo8 q h).2; omega
          · have := (dep9.1.at hq).2.1; omega
        refine owesK_makes (w' := w3) v' (by rfl) ?_ ⟨q1, q3, sep4, sep9⟩ (by show w'.grownBy w3 (rowOf 14); rw [r14]; exact q2)
        rw [← h0] at hrun
        clear hb hS hd
        simp only [putAll, List.take_succ_cons, List.take_zero]
        try simp only [Act.put, List.setIfInBounds_toArray, List.set_cons_zero, List.set_cons_succ]
        exact exec_append (by rfl) (by rfl) (by rfl) hrun
      · intro y w' hb hR
        obtain ⟨p4, _⟩ : OwnAt (AtW w RStrs) 1 w' w1.heap.size 23 (y 4) (m.map (·.verbs) ++ [x.verbs]) ∧ Grew gb u6 (y 4) := hR 4 (by omega)
        obtain ⟨p9, _, sp1⟩ : OwnAt (AtW w RStrs) 1 w' w1.heap.size 23 (y 9) (m.map (·.kinds) ++ [x.kinds]) ∧ Grew gb u7 (y 9) ∧ Sep (y 4) (y 9) := hR 9 (by omega)
        obtain ⟨p14, _, sp2, sp3⟩ : OwnAt (AtW w RStrs) 1 w' w1.heap.size 23 (y 14) (m.map (·.names) ++ [x.names]) ∧ Grew gb u8 (y 14) ∧ Sep (y 4) (y 14) ∧ Sep (y 9) (y 14) := hR 14 (by omega)
        have Hnew : Hid (Rows3 w w' w1.heap.size (y 4) (y 9) (y 14) (l.take (i + 1))) := Lib.hid (by
          unfold Rows3
          rw [take_map _ hxi, take_map _ hxi, take_map _ hxi, Hm.out]
          exact ⟨p4, p9, p14, sp1, sp2, sp3⟩)
        have Hnb := Lib.hid (Hbel.out.trans ((HbW.out.mono hsr).trans hb.1))
        obtain ⟨z4, Hz4⟩ : ∃ z, Hid (y 4 = z) := ⟨_, Lib.hid rfl⟩
        obtain ⟨z9, Hz9⟩ : ∃ z, Hid (y 9 = z) := ⟨_, Lib.hid rfl⟩
        obtain ⟨z14, Hz14⟩ : ∃ z, Hid (y 14 = z) := ⟨_, Lib.hid rfl⟩
        rw [Hz4.out, Hz9.out, Hz14.out] at Hnew
        clear p4 p9 p14 sp1 sp2 sp3 hR hb off6 off7 off8 off offG low rno r4 r9 r14 lo6 lo7 lo8 s67 s68 s78 o6 o7 o8 hxi
        simp only [putAll, List.take_succ_cons, List.take_zero, List.drop_succ_cons, List.drop_zero]
        rw [Hz4.out, Hz9.out, Hz14.out]
        try simp only [Act.put, List.setIfInBounds_toArray, List.set_cons_zero, List.set_cons_succ]
        go_wp2_with fail
        go_roundg k
        case measure => omega
        case rel => exact ⟨i + 1, by omega, by go_num, Hnew, Hnb⟩
end Go.Proofs.YtkkfnihdnclgiaaDoor
