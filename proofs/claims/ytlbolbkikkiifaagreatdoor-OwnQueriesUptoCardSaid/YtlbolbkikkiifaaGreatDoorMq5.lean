/- Texts of ours joined: OwnTexts, OwnQ1, OwnQ2, OwnQ3, OwnQueriesWalk. -/
import Derived.Deep.DeepAppendRoom
import Derived.Laws.MakeOwn
import Derived.Deep.LoopGhost
import Derived.Laws.StructEq
import Derived.Test.YtlbolbkikkiifaaGreatDoorMq4
set_option linter.unusedVariables false
set_option linter.unusedSimpArgs false
/- The keeper's texts (room behind them), spoil: their contracts. -/
namespace Go.Proofs.YtlbolbkikkiifaaGreatDoor
open Go.RowKit

def markB : ByteArray := ⟨#[109, 97, 114, 107]⟩
/-- append of a row of strings behind a row of the call's own that has room -/
theorem wpList_append_strs_spare {P : Program} {l m : List ByteArray} (w : World) {ops : Array Oper} {rest : List Oper} {o : Oper} {a : Act} {Q : Exit → Act → World → Prop} (hgd : o.guard = none) (s x : Operand) (t : TypeId)
    (ho : o.op = .call { callee := .builtin .append, args := #[s, x], argTypes := #[t, t] })
    (base : Nat) (e : TypeId) (i : TypeInfo) (ht : P.underlying t = some (.slice e)) (hi : P.info? e = some i) (hsize : i.size = 1)
    (g n cap : Nat) (hs : a.eval s = .slice (some ⟨g, 0, none⟩) n cap) (hown : w.ownsRow base e 1 (.slice (some ⟨g, 0, none⟩) n cap) n (strs l)) (xv : Value) (hx : a.eval x = xv) (hrow : StrAt w xv m)
    (k : Nat) (hk : k = n + m.length) (hroom : k ≤ cap)
    (h : ∀ w', w'.ownsRow base e 1 (.slice (some ⟨g, 0, none⟩) k cap) k (strs (l ++ m)) → w.grownBy w' (some g) → wpList P ops Q rest (a.put o.dst (.slice (some ⟨g, 0, none⟩) k cap)) w') : wpList P ops Q (o :: rest) a w := by
  subst hk
  rcases hrow with ⟨rfl, rfl⟩ | ⟨ad, c, rfl, h1, h2, h3⟩
  · have h9 := h w (by simpa using hown) (World.grownBy.refl w _)
    simp only [List.length_nil, Nat.add_zero] at h9
    exact wpList_append_own_none hgd s x t ho base e i 1 ht hi _ n _ hs hown hx h9
  · refine wpList_append_own_spare w hgd s x t ho base e i 1 ht hi hsize g n cap _ hs hown ad m.length c (strs m) hx (by simp [strs]) (fun j u hu => ?_) (by simp [strs]; intros; subst_vars; rfl) hroom
      (fun w' h2 h3 => h w' (by rw [strs_append]; exact h2) h3)
    simp only [strs, List.getElem?_map] at hu
    cases hm : m[j]? with
    | none => rw [hm] at hu; cases hu
    | some y =>
      rw [hm] at hu
      simp only [Option.map_some, Option.some.injEq] at hu
      subst hu
      exact h3 j y hm
theorem two_marks {w : World} {g : Nat} {t : TypeId} (h : w.heap[g]? = some (.cells #[.string markB, .string markB] t (0, 0))) : StrAt w (.slice (some ⟨g, 0, none⟩) 2 2) [markB, markB] := by
  refine .inr ⟨_, 2, rfl, Nat.le_refl _, by unfold maxLen; decide, fun j x hx => ?_⟩
  have hj : j < 2 := (List.getElem?_eq_some_iff.1 hx).1
  rw [add_plain', Nat.zero_add]
  have : w.cell? ⟨g, j, none⟩ = #[Value.string markB, Value.string markB][j]? := cell_block h j
  rw [this]
  match j, hj with
  | 0, _ => simp at hx; subst hx; rfl
  | 1, _ => simp at hx; subst hx; rfl
/-- a row that fills its block -/
theorem own_full {w : World} {B g n : Nat} {e : TypeId} {L : List ByteArray} (h : w.ownsRow B e 1 (.slice (some ⟨g, 0, none⟩) n n) n (strs L)) (hL : L.length = n) : w.heap[g]? = some (.cells (strs L).toArray e (0, 0)) ∧ B ≤ g := by
  rcases h.2 with ⟨hv, _⟩ | ⟨g', cap, cur, hv, h1, h2, _, _, h4, h5⟩
  · cases hv
  · injection hv with e1 e2 e3
    injection e1 with e1
    injection e1 with e1
    subst e1 e3
    rw [Nat.mul_one] at h4 h5
    have : cur.toList = strs L := by rw [← h5, List.take_of_length_le (by simp [h4])]
    refine ⟨?_, h1⟩
    rw [h2, ← this]
set_option maxRecDepth 100000 in
set_option maxHeartbeats 800000 in
theorem texts_any (v : Value) (l : List ByteArray) (w : World) (h : StrAt w v l) (hl : l.length ≤ 1048576) :
    Calls Tryz.prog 5 #[v] w fun e w' => ∃ g, e = .returned (.slice (some ⟨g, 0, none⟩) l.length (l.length + 2)) ∧ w.heap.size ≤ g ∧ w'.heap[g]? = some (.cells (strs (l ++ [markB, markB])).toArray 9 (0, 0)) ∧ Below w.heap.size w w' := by
  obtain ⟨i0, hi0, hz0, hz1, hz2⟩ := info_parts Tryz.infoStr
  obtain ⟨a1, c1, rfl, hc1, hc2⟩ := h.len
  obtain ⟨n, hn⟩ : ∃ n, l.length = n := ⟨_, rfl⟩
  rw [hn] at hc1 hl h ⊢
  have q1 : (0 : Int) ≤ (n : Int) + 2 := by omega
  have q2 : (n : Int) + 2 = ((n + 2 : Nat) : Int) := by omega
  obtain ⟨w1, hr1, hown1, hg1⟩ := run_make_own (P := Tryz.prog) w w.heap.size 24 9 i0 _ 1 Tryz.underlying24 hi0 hz0 hz1 .i64 .i64 (n + 2) (by rw [hz2]; omega) (by unfold maxLen; omega) (Nat.le_refl _)
  rw [← q2] at hr1
  clear q2
  have HO1 := Lib.hid hown1
  have HG1 := Lib.hid hg1
  have H := Lib.hid h
  have Hn := Lib.hid hn
  clear hown1 hg1 h hn
  go_enter Tryz.func5, Tryz.ntmps5
  go_wp2_with (at_builtin; refine wpList_append_strs_spare _ (by rfl) _ _ _ (by rfl) w.heap.size _ i0 Tryz.underlying24 hi0 hz1 w.heap.size 0 (n + 2) (by rfl) (l := []) (by exact HO1.out) _ (by rfl) (by exact H.out.below (below_of_grown (Below.refl w.heap.size w) (Nat.le_refl _) HG1.out (fun g h => by cases h))) n (by rw [Hn.out, Nat.zero_add]) (by omega) ?_)
  intro w2 hown2 hg2
  have hb1 : Below w.heap.size w w1 := below_of_grown (Below.refl w.heap.size w) (Nat.le_refl _) HG1.out (fun g h => by cases h)
  have hb2 : Below w.heap.size w w2 := below_of_grown hb1 hb1.size hg2 (fun g h => by cases h; exact Nat.le_refl _)
  have HO2 := Lib.hid hown2
  have HB2 := Lib.hid hb2
  clear hown2 hg2 hb1 hb2
  have HO3 := Lib.hid (HO2.out.alloc (.cells #[.string markB, .string markB] 9))
  have HM := Lib.hid (two_marks (heap_alloc_new w2 (.cells #[.string markB, .string markB] 9)))
  go_wp2_with (at_builtin; refine wpList_append_strs_spare _ (by rfl) _ _ _ (by rfl) w.heap.size _ i0 Tryz.underlying24 hi0 hz1 w.heap.size n (n + 2) (by rfl) (l := [] ++ l) (by exact HO3.out) _ (by rfl) (by exact HM.out) (n + 2) (by rfl) (by omega) ?_)
  intro w4 hown4 hg4
  have hb4 : Below w.heap.size w w4 := below_of_grown (HB2.out.alloc HB2.out.size _) (Nat.le_trans HB2.out.size (by simp)) hg4 (fun g h => by cases h; exact Nat.le_refl _)
  obtain ⟨hf, _⟩ := own_full hown4 (by simp [Hn.out])
  have HF := Lib.hid hf
  have HB4 := Lib.hid hb4
  clear hown4 hg4 hb4 hf HO2 HO3 HM HB2 HO1 HG1 hr1
  have p1 : (0 : Int) ≤ (n : Int) := by omega
  have p2 : (n : Int) ≤ (n : Int) + 2 := by omega
  go_wp2_with fail
  go_ret
  exact ⟨w.heap.size, rfl, Nat.le_refl _, by simpa using HF.out, HB4.out⟩
/-- what spoil may be handed: nil, or a slice of a block from B on -/
def LooseAt (B : Nat) (w : World) (v : Value) : Prop := (∃ n, v = .slice none n 0) ∨ ∃ g n c cs t, v = .slice (some ⟨g, 0, none⟩) n c ∧ B ≤ g ∧ w.heap[g]? = some (.cells cs t (0, 0)) ∧ n ≤ c ∧ c ≤ cs.size ∧ c ≤ 1073741824
def SpoiltAt (B : Nat) (w : World) (v : Value) (w' : World) : Prop := ∀ g, v.ownBlock = some g → ∃ cs cs' t, w.heap[g]? = some (.cells cs t (0, 0)) ∧ w'.heap[g]? = some (.cells cs' t (0, 0)) ∧ cs'.size = cs.size
set_option maxRecDepth 100000 in
set_option maxHeartbeats 1600000 in
theorem spoil_some (g n c : Nat) (cs : Array Value) (t : TypeId) (w : World) (h : w.heap[g]? = some (.cells cs t (0, 0))) (hn : n ≤ c) (hc : c ≤ cs.size) (hb : c ≤ 1073741824) :
    Calls Tryz.prog 14 #[.slice (some ⟨g, 0, none⟩) n c] w fun e w' => e = .returned (.tuple #[]) ∧ But g w w' ∧ ∃ cs', w'.heap[g]? = some (.cells cs' t (0, 0)) ∧ cs'.size = cs.size := by
  have H := Lib.hid h
  have q0 : (0 : Int) ≤ (c : Int) := by omega
  clear h
  go_enter Tryz.func14, Tryz.ntmps14
  go_wp2_with fail
  go_loopg [9] c (fun k u9 wr => ∃ i : Nat, i + k = c ∧ u9 = .int .i64 (i : Int) ∧ Hid (But g w wr) ∧ Hid (∃ cs', wr.heap[g]? = some (.cells cs' t (0, 0)) ∧ cs'.size = cs.size))
  case atStart => exact ⟨0, by omega, rfl, Lib.hid (But.refl _ _), Lib.hid ⟨_, H.out, rfl⟩⟩
  case round =>
    obtain ⟨i, hig, rfl, Hbut, Hc⟩ := hrel
    cases gk with
    | zero =>
      obtain rfl : i = c := by omega
      go_wp2_with fail
      go_end0
      exact ⟨rfl, Hbut.out, Hc.out⟩
    | succ k =>
      have hic : i < c := by omega
      obtain ⟨cs', hcs, hsz⟩ := Hc.out
      have q1 : (0 : Int) ≤ (i : Int) := by omega
      have q2 : (i : Int) < (c : Int) := by omega
      have fr : wr.frozen? ⟨g, i, none⟩ = false := free_block hcs i
      have cc : ∃ x, wr.cell? ⟨g, i, none⟩ = some x := ⟨cs'[i]'(by omega), (cell_block hcs i).trans (Array.getElem?_eq_getElem (by omega))⟩
      obtain ⟨x, hx⟩ := cc
      obtain ⟨t1, t2⟩ := touch_setCell (i := i) (v := .string ⟨#[115, 112, 111, 105, 108, 116]⟩) hcs
      have HT1 := Lib.hid t1
      have HT2 := Lib.hid t2
      have Hs := Lib.hid hsz
      clear t1 t2 hcs hsz Hc
      go_wp2_with fail
      go_roundg k
      case measure => omega
      case rel => exact ⟨i + 1, by omega, by go_num, Lib.hid (Hbut.out.trans (But.touch HT2.out)), Lib.hid ⟨_, HT1.out, by rw [Array.size_setIfInBounds, Hs.out]⟩⟩
set_option maxRecDepth 100000 in
theorem spoil_nil (n : Nat) (w : World) : Calls Tryz.prog 14 #[.slice none n 0] w fun e w' => e = .returned (.tuple #[]) ∧ w = w' := by
  go_enter Tryz.func14, Tryz.ntmps14
  go_wp2_with fail
  go_loopg [9] 0 (fun k u9 wr => k = 0 ∧ u9 = .int .i64 0 ∧ w = wr)
  case atStart => exact ⟨rfl, rfl, rfl⟩
  case round =>
    obtain ⟨rfl, rfl, rfl⟩ := hrel
    go_wp2_with fail
    go_end0
    exact ⟨rfl, rfl⟩
end Go.Proofs.YtlbolbkikkiifaaGreatDoor
/- query.Parse, query.Solve: contracts that tell where the result lies; Copy and Eq at labels. -/
namespace Go.Proofs.YtlbolbkikkiifaaGreatDoor
open Go.RowKit
open QP

def ParseO (s : ByteArray) (w : World) (E : Ending) (w' : World) : Prop :=
  ∃ v B, E = .returned (.tuple #[v, .int .i64 (parseL s.data.toList).2]) ∧ w.heap.size ≤ B ∧ OwnAt (ReqO B) 3 w' B 26 v (parseL s.data.toList).1 ∧ Below w.heap.size w w'
theorem parse_endO {s : ByteArray} {w w' : World} {v : Value} {l : List GReq} {e : Int} {B : Nat} (hB : w.heap.size ≤ B) (h : parseL s.data.toList = (l, e)) (hr : OwnAt (ReqO B) 3 w' B 26 v l) (hb : Below w.heap.size w w') : ParseO s w (.returned (.tuple #[v, .int .i64 e])) w' := by
  unfold ParseO
  rw [h]
  exact ⟨v, B, rfl, hB, hr, hb⟩
set_option maxRecDepth 100000 in
set_option maxHeartbeats 6400000 in
theorem parseO_any (s : ByteArray) (m : Int) (w : World) (hs : s.size ≤ 1048576) (hm : MaxOK m w) :
    Calls Tryz.prog 16 #[.string s] w (ParseO s w) := by
  obtain ⟨i0, hi0, hz0, hz1, hz2⟩ := info_parts Tryz.infoReq
  have hl : s.data.toList.length = s.size := by simp
  have Hend := fun {w' v l e} (B : Nat) (hB : w.heap.size ≤ B) => Lib.hid (parse_endO (s := s) (w := w) (w' := w') (v := v) (l := l) (e := e) (B := B) hB)
  obtain ⟨L, HL⟩ : ∃ L, Hid (parseL s.data.toList = L) := ⟨_, Lib.hid rfl⟩
  have HL1 : Hid ((if 300 < s.size then (([] : List GReq), (2 : Int)) else if skipB s.data.toList = [] then ([], 0) else match parseF 400 (skipB s.data.toList) [] with
    | none => ([], 3)
    | some l => if reqsE l = 0 then (l, 0) else ([], reqsE l)) = L) := Lib.hid (by rw [← HL.out, ← hl]; rfl)
  have Hm := Lib.hid hm
  clear hm hl
  by_cases h3 : 300 < s.size
  · have q0 : (300 : Int) < (s.size : Int) := by omega
    have HL2 : Hid (parseL s.data.toList = ([], 2)) := Lib.hid (by rw [HL.out, ← HL1.out, if_pos h3])
    clear h3 HL1 HL
    go_enter Tryz.func16, Tryz.ntmps16
    go_wp2_with fail
    go_ret2
    exact (Hend w.heap.size (Nat.le_refl _)).out HL2.out (OwnAt.nil _) (Below.refl _ _)
  · have q0 : ¬ (300 : Int) < (s.size : Int) := by omega
    have HL2 : Hid ((if skipB s.data.toList = [] then (([] : List GReq), (0 : Int)) else match parseF 400 (skipB s.data.toList) [] with
      | none => ([], 3)
      | some l => if reqsE l = 0 then (l, 0) else ([], reqsE l)) = L) := Lib.hid (by rw [← HL1.out, if_neg h3])
    have hs3 : s.size ≤ 300 := by omega
    clear h3 HL1
    obtain ⟨W1, hW⟩ : ∃ W1, W1 = w.alloc (.cells #[.string s, .int .i64 0, .bool false] 72) := ⟨_, rfl⟩
    obtain ⟨g, hg⟩ : ∃ g, g = w.heap.size := ⟨_, rfl⟩
    have b1 : W1.heap[g]? = some (.cells #[.string s, .int .i64 0, .bool false] 72 (0, 0)) := by rw [hW, hg]; exact heap_alloc_new w _
    have hb1 : Below w.heap.size w W1 := by rw [hW]; exact (Below.refl _ w).alloc (Nat.le_refl _) _
    have HP1 : Hid (Par g s false s.data.toList W1) := Lib.hid ⟨0, Nat.zero_le _, rfl, b1⟩
    have hgw : w.heap.size ≤ g := by omega
    have hs1 : W1.heap.size = g + 1 := by rw [hW, hg, World.size_alloc]
    have Hb1 := Lib.hid hb1
    clear b1 hb1
    go_enter Tryz.func16, Tryz.ntmps16
    go_upto_region 4 with fail
    rw [← hW, ← hg]
    clear hW hg
    go_wp2_with fail
    refine (blanks_any g s false _ W1 HP1.out (by omega)).mono ?_
    rintro E w2 ⟨rfl, ⟨a, ha, hr, hp⟩, hb⟩
    have HA2 := Lib.hid hp
    have HB2 := Lib.hid hb
    have Hr := Lib.hid hr
    have HOv := Lib.hid (over_any g s false a w2 hp ha (by omega))
    clear hp hb hr HP1
    obtain ⟨R, HR⟩ : ∃ R, Hid (skipB s.data.toList = R) := ⟨_, Lib.hid rfl⟩
    rw [HR.out] at HL2 Hr
    go_wp2_with fail
    refine HOv.out.mono ?_
    rintro E w3 ⟨rfl, nd, rfl⟩
    by_cases hR0 : a = s.size
    · have q1 : decide (a = s.size) = true := decide_eq_true hR0
      have HL3 : Hid (parseL s.data.toList = ([], 0)) := Lib.hid (by rw [HL.out, ← HL2.out, if_pos (by rw [← Hr.out]; exact drop_end (by omega))])
      rw [q1]
      clear q1 HOv
      go_wp2_with fail
      go_ret2
      exact (Hend (g + 1) (by omega)).out HL3.out (OwnAt.nil _) (((HB2.out.drew _).below Hb1.out (by omega) hgw))
    · have q1 : decide (a = s.size) = false := decide_eq_false hR0
      have HL3 : Hid ((match parseF 400 R [] with
        | none => (([] : List GReq), (3 : Int))
        | some l => if reqsE l = 0 then (l, 0) else ([], reqsE l)) = L) := Lib.hid (by
        rw [← HL2.out, if_neg]
        rw [← Hr.out, drop_at (by omega)]
        simp)
      obtain ⟨K, HK⟩ : ∃ K, Hid (parseF 400 R [] = K) := ⟨_, Lib.hid rfl⟩
      rw [HK.out] at HL3
      have HP3 : Hid (Par g s false R (w2.drewN nd)) := Lib.hid ⟨a, ha, Hr.out, HA2.out⟩
      have HB3 : Hid (But g W1 (w2.drewN nd)) := Lib.hid (HB2.out.drew _)
      have hRl := HP3.out.len
      rw [q1]
      clear q1 HOv HL2 HA2 HB2 Hr hR0
      go_wp2_with fail
      go_loopg [5] 400 (fun k u5 wr => ∃ (q : List UInt8) (out : List GReq), out.length + k = 400 ∧ q.length < k ∧ Hid (OwnAt (ReqO (g + 1)) 3 wr (g + 1) 26 u5 out) ∧ Hid (∀ x ∈ out, okReq x) ∧ Hid (Par g s false q wr) ∧ Hid (parseF k q out = K) ∧ Hid (But g W1 wr))
      case atStart => exact ⟨R, [], rfl, by omega, Lib.hid (OwnAt.nil _), Lib.hid (fun x hx => by cases hx), HP3, HK, HB3⟩
      case round =>
        obtain ⟨q, out, hok, hqk, Hout, Hok, HP, HKk, HB⟩ := hrel
        cases gk with
        | zero => omega
        | succ k =>
          have hol : out.length + 1 ≤ 400 := by omega
          have hqs := HP.out.len
          have hHB := HB.out.size
          go_wp2_with fail
          refine (part_any g s q wr HP.out hs3).mono ?_
          rintro E w4 ⟨x, v2, rfl, hk, hown, htold, hb⟩
          obtain ⟨av, cv, rfl, _, _⟩ := hown.row.len
          have hw4 := hb.size
          have Hx : Hid (ReqO (g + 1) (w4.alloc (.cells #[.string x.key, .int .i64 x.kind, .slice av x.vals.length cv] 26)) [.string x.key, .int .i64 x.kind, .slice av x.vals.length cv] x) :=
            Lib.hid ⟨_, rfl, hk, (hown.mono (by omega)).below stays_string ((Below.refl _ _).alloc (Nat.le_refl _) _)⟩
          have Hout4 := Lib.hid ((own_but Hout.out hb (Nat.lt_succ_self g)).belowX (reqO_staysX _) ((Below.refl _ w4).alloc (Nat.le_refl _) (.cells #[.string x.key, .int .i64 x.kind, .slice av x.vals.length cv] 26)))
          have Htold := Lib.hid htold
          have HB4 := Lib.hid (HB.out.trans hb)
          clear hown htold hb hk
          go_wp2_with (at_builtin; refine wpList_append_ownAtX (R := ReqO (g + 1)) (k := 3) (e := 26) (B := g + 1) (l := out) (m := [x]) _ (by rfl) _ _ _ (by rfl) i0 _ 48 Tryz.underlying22 hi0 hz0 hz1 hz2 rfl (by omega) (reqO_staysX _) (reqO_one _) _ (by rfl) Hout4.out (.slice (some ⟨w4.heap.size, 0, none⟩) 1 1) (by rfl) (RowAt.one (R := ReqO (g + 1)) (k := 3) (cs := #[.string x.key, .int .i64 x.kind, .slice av x.vals.length cv]) (heap_alloc_new w4 _) rfl Hx.out) (by unfold maxLen; simp; omega) (by simp; omega) (by simp; omega) ?_)
          intro v' w5 hv' hg hr _
          have hb5 : Below (g + 1) w4 w5 := below_of_grown ((Below.refl _ w4).alloc (by omega) _) (by simp; omega) hg hr
          have Hv := Lib.hid hv'
          have HB5 : Hid (But g W1 w5) := Lib.hid (HB4.out.thenBelow (by rw [hs1]; exact hb5))
          have Hb5 := Lib.hid hb5
          clear hv' hg hr hb5
          have HKk2 : Hid ((match partP q with
            | none => none
            | some x => if x.2 = [] then some (out ++ [x.1]) else if headIs 44 x.2 = true then parseF k x.2.tail (out ++ [x.1]) else none) = K) := Lib.hid (by rw [← HKk.out]; rfl)
          cases hpq : partP q with
          | none =>
            have ht := Htold.out
            have hk2 := HKk2.out
            rw [hpq] at ht hk2
            obtain ⟨r', hr'⟩ := ht
            obtain ⟨p2, pz⟩ := par_cells (hr'.below Hb5.out (Nat.lt_succ_self g))
            have HLn : Hid (parseL s.data.toList = ([], 3)) := Lib.hid (by rw [HL.out, ← HL3.out, ← hk2])
            clear hk2 hr' hpq
            go_wp2_with fail
            go_ret2
            exact (Hend (g + 1) (by omega)).out HLn.out (OwnAt.nil _) (HB5.out.below Hb1.out (by omega) hgw)
          | some y =>
            have ht := Htold.out
            have hk2 := HKk2.out
            rw [hpq] at ht hk2
            dsimp only at hk2
            obtain ⟨hxy, hpy⟩ := ht
            have hp5 := hpy.below Hb5.out (Nat.lt_succ_self g)
            obtain ⟨hoky, hly⟩ := partP_ok hpq (by omega)
            rw [← hxy] at hoky hk2
            obtain ⟨p2, pz⟩ := par_cells hp5
            have Hok2 : Hid (∀ z ∈ out ++ [x], okReq z) := Lib.hid (fun z hz => by
              rcases List.mem_append.1 hz with h | h
              · exact Hok.out z h
              · rw [List.mem_singleton.1 h]; exact hoky)
            obtain ⟨q2, hq2⟩ : ∃ q2, y.2 = q2 := ⟨_, rfl⟩
            rw [hq2] at hp5 hk2 hly
            have HP5 := Lib.hid hp5
            obtain ⟨b, hb1, hb2, hb3⟩ := hp5
            have HOv := Lib.hid (over_any g s false b w5 hb3 hb1 (by omega))
            have Hb2 := Lib.hid hb2
            have HK2 := Lib.hid hk2
            clear hxy hpy hoky hpq hq2 hb2 hb3 hk2 HKk2 Htold
            have hlen2 : (out ++ [x]).length = out.length + 1 := by simp
            obtain ⟨o2, Ho2⟩ : ∃ o2, Hid (out ++ [x] = o2) := ⟨_, Lib.hid rfl⟩
            rw [Ho2.out] at Hok2 Hv HK2 hlen2
            go_wp2_with fail
            refine HOv.out.mono ?_
            rintro E w6 ⟨rfl, nd, rfl⟩
            by_cases hov : b = s.size
            · have q1 : decide (b = s.size) = true := decide_eq_true hov
              have HLs : Hid ((if reqsE o2 = 0 then (o2, 0) else ([], reqsE o2)) = parseL s.data.toList) := Lib.hid (by
                have h9 := HK2.out
                rw [if_pos (by rw [← Hb2.out]; exact drop_end (by omega))] at h9
                rw [HL.out, ← HL3.out, ← h9])
              have HB6 : Hid (Below w.heap.size w (w5.drewN nd)) := Lib.hid ((HB5.out.drew _).below Hb1.out (by omega) hgw)
              have Hrow : Hid (RowAt ReqR 3 (w5.drewN nd) v' o2) := Lib.hid (row_map (show RowAt (ReqO (g + 1)) 3 (w5.drewN nd) v' o2 from Hv.out.row) fun cs z hz => reqO_req hz)
              rw [q1]
              clear q1 hov HOv HK2 p2 pz
              go_wp2_with fail
              refine (checks_any v' o2 m (w5.drewN nd) Hrow.out (by omega) Hok2.out (Hm.out.below HB6.out)).mono ?_
              rintro E w7 ⟨rfl, hb7⟩
              have HB7 := Lib.hid (HB6.out.trans (hb7.mono HB6.out.size))
              have Hrow7 := Lib.hid ((show OwnAt (ReqO (g + 1)) 3 (w5.drewN nd) (g + 1) 26 v' o2 from Hv.out).belowX (reqO_staysX _) hb7)
              obtain ⟨rE, HrE⟩ : ∃ rE, Hid (reqsE o2 = rE) := ⟨_, Lib.hid rfl⟩
              rw [HrE.out] at HLs ⊢
              clear hb7
              by_cases hr0 : rE = 0
              · subst hr0
                have HLf : Hid (parseL s.data.toList = (o2, 0)) := Lib.hid (by rw [← HLs.out, if_pos rfl])
                go_wp2_with fail
                go_ret2
                exact (Hend (g + 1) (by omega)).out HLf.out Hrow7.out HB7.out
              · have q3 : (rE == 0) = false := by rw [beq_eq_false_iff_ne]; exact hr0
                have q4 : (rE != 0) = true := by rw [bne_iff_ne]; exact hr0
                have HLf : Hid (parseL s.data.toList = ([], rE)) := Lib.hid (by rw [← HLs.out, if_neg hr0])
                clear hr0
                go_wp2_with fail
                go_ret2
                exact (Hend (g + 1) (by omega)).out HLf.out (OwnAt.nil _) HB7.out
            · have q1 : decide (b = s.size) = false := decide_eq_false hov
              have HK3 : Hid ((if headIs 44 q2 = true then parseF k q2.tail o2 else none) = K) := Lib.hid (by
                have h9 : q2 ≠ [] := by
                  rw [← Hb2.out, drop_at (by omega)]
                  simp
                rw [← HK2.out, if_neg h9])
              have HP6 : Hid (Par g s false q2 (w5.drewN nd)) := HP5
              have HB6 : Hid (But g W1 (w5.drewN nd)) := Lib.hid (HB5.out.drew _)
              have p6 : (w5.drewN nd).cell? ⟨g, 2, none⟩ = some (.bool false) := p2
              rw [q1]
              clear q1 hov HOv HK2 Hb2
              go_wp2_with fail
              refine (has1_any g s false q2 44 (w5.drewN nd) HP6.out (by omega)).mono ?_
              rintro E w7 ⟨rfl, hp, hb⟩
              have HB7 := Lib.hid (HB6.out.trans hb)
              have Hv7 : Hid (OwnAt (ReqO (g + 1)) 3 w7 (g + 1) 26 v' o2) := Lib.hid (own_but (show OwnAt (ReqO (g + 1)) 3 (w5.drewN nd) (g + 1) 26 v' o2 from Hv.out) hb (Nat.lt_succ_self g))
              cases h44 : headIs 44 q2 with
              | true =>
                rw [h44, if_pos rfl] at hp
                have HP7 := Lib.hid hp
                have HK4 : Hid (parseF k q2.tail o2 = K) := Lib.hid (by rw [← HK3.out, h44, if_pos rfl])
                have htl := tail_len h44
                clear hp hb HK3
                go_wp2_with fail
                go_roundg k
                case measure => omega
                case rel => exact ⟨q2.tail, o2, by omega, by omega, Hv7, Hok2, HP7, HK4, HB7⟩
              | false =>
                have HLn : Hid (parseL s.data.toList = ([], 3)) := Lib.hid (by
                  have h9 := HK3.out
                  rw [h44, if_neg (by simp)] at h9
                  rw [HL.out, ← HL3.out, ← h9])
                clear hp hb HK3
                go_wp2_with fail
                go_ret2
                exact (Hend (g + 1) (by omega)).out HLn.out (OwnAt.nil _) (HB7.out.below Hb1.out (by omega) hgw)
def SolveO (l : List GReq) (w : World) (E : Ending) (w' : World) : Prop :=
  ∃ (v' : Value) (out : List GLabel) (is : Bool) (B : Nat), E = .returned (.tuple #[v', .bool is, .int .i64 (reqsE l)]) ∧ w.heap.size ≤ B ∧ OwnAt LabelR 2 w' B 30 v' out ∧ out.length ≤ 9 ∧ Below w.heap.size w w'
set_option maxRecDepth 100000 in
set_option maxHeartbeats 1600000 in
theorem solveO_any (v : Value) (l : List GReq) (m : Int) (w : World) (h : RowAt ReqR 3 w v l) (hl : l.length ≤ 1048576) (hok : ∀ r ∈ l, okReq r) (hm : MaxOK m w) :
    Calls Tryz.prog 10 #[v] w (SolveO l w) := by
  obtain ⟨a0, c0, rfl, _, _⟩ := h.len
  obtain ⟨e, He⟩ : ∃ e, Hid (reqsE l = e) := ⟨_, Lib.hid rfl⟩
  have H := Lib.hid h
  have Hok := Lib.hid hok
  have Hm := Lib.hid hm
  clear h hok hm
  go_enter Tryz.func10, Tryz.ntmps10
  go_wp2_with fail
  refine (checks_any _ l m w H.out hl Hok.out Hm.out).mono ?_
  rintro E w1 ⟨rfl, hb1⟩
  have Hb1 := Lib.hid hb1
  rw [He.out]
  clear hb1
  by_cases h0 : e = 0
  · subst h0
    obtain ⟨hg, hl8⟩ := goods_of He.out
    go_wp2_with fail
    refine (solve_any _ l w1 (H.out.below stays_req Hb1.out) (by omega) Hok.out hg).mono ?_
    rintro E w2 ⟨v', out, is, rfl, hs, hr, ho, hlen, hb2⟩
    have Hs := Lib.hid hs
    have Hr := Lib.hid hr
    have Ho := Lib.hid ho
    have Hb2 := Lib.hid (Hb1.out.trans (hb2.mono Hb1.out.size))
    clear hs hr ho hb2 hg
    cases is with
    | false =>
      go_wp2_with fail
      go_ret3
      exact ⟨_, [], false, _, by rw [He.out]; rfl, Nat.le_refl _, OwnAt.nil _, by simp, Hb2.out⟩
    | true =>
      go_wp2_with fail
      go_ret3
      exact ⟨_, out, true, _, by rw [He.out]; rfl, Hb1.out.size, Hr.out, hlen, Hb2.out⟩
  · have q1 : (e == 0) = false := by rw [beq_eq_false_iff_ne]; exact h0
    have q2 : (e != 0) = true := by rw [bne_iff_ne]; exact h0
    have H0 := Lib.hid h0
    clear h0
    go_wp2_with fail
    go_ret3
    exact ⟨_, [], false, _, by rw [He.out]; rfl, Nat.le_refl _, OwnAt.nil _, by simp, Hb1.out⟩
theorem flat_labQ : Flat LabelR := fun _ _ _ _ h => h
theorem oneR_labQ : OneR LabelR := fun _ _ _ h u hu => by
  rw [h] at hu
  simp only [List.mem_cons, List.not_mem_nil, or_false] at hu
  rcases hu with rfl | rfl <;> rfl
theorem Tryz.infoLabQ : (Tryz.prog.info? 30).map (fun i => (i.zero, i.size, i.bytes)) = some (some (.agg #[.string ByteArray.empty, .string ByteArray.empty]), 2, 32) := by kernel_rfl
set_option maxRecDepth 100000 in
theorem copyLab_any (v : Value) (l : List GLabel) (w : World) (h : RowAt LabelR 2 w v l) (hl : l.length ≤ 1048576) :
    Calls Tryz.prog 6 #[v] w fun e w' => ∃ v', e = .returned v' ∧ OwnAt LabelR 2 w' w.heap.size 30 v' l ∧ Below w.heap.size w w' := by
  obtain ⟨i0, hi0, hz0, hz1, hz2⟩ := info_parts Tryz.infoLabQ
  have Hrow := Lib.hid h
  clear h
  go_enter Tryz.func6, Tryz.ntmps6
  go_wp2_with (at_builtin; refine wpList_append_ownAt (R := LabelR) (k := 2) (e := 30) (B := w.heap.size) (l := []) (m := l) _ (by rfl) _ _ _ (by rfl) i0 _ 32 Tryz.underlying23 hi0 hz0 hz1 hz2 rfl (by omega) flat_labQ oneR_labQ _ (by rfl) (OwnAt.nil _) _ (by rfl) Hrow.out (by unfold maxLen; simp; omega) (by simp; omega) (Nat.le_refl _) ?_)
  intro v' w' hv' hg hr _
  have hb : Below w.heap.size w w' := below_of_grown (Below.refl _ _) (Nat.le_refl _) hg hr
  go_wp2_with fail
  go_ret
  exact ⟨_, rfl, by simpa using hv', hb⟩
theorem Tryz.fieldsLabQ : Tryz.prog.underlying 30 = some (.struct (Tryz.prog.fieldsOf 30)) := by kernel_rfl
theorem Tryz.heldLabQ : Tryz.prog.stoodInHeld 30 = false := by kernel_rfl
theorem run_neqLab (a b : ByteArray) (w : World) : (binOp .neq 30 (.agg #[.string a, .string b]) (.agg #[.string a, .string b])).run Tryz.prog w = .ok (.bool false) w := by
  rw [run_neq_struct, run_equalIn_agg w 9999 _ _ _ Tryz.fieldsLabQ Tryz.heldLabQ]
  simp [Op.eqFields, Program.fieldsOf, Tryz.underlying30]
  go_simp
set_option maxRecDepth 100000 in
set_option maxHeartbeats 1600000 in
theorem eqLab_yes (v1 v2 : Value) (l : List GLabel) (w : World) (h1 : RowAt LabelR 2 w v1 l) (h2 : RowAt LabelR 2 w v2 l) (hl : l.length ≤ 1048576) :
    Calls Tryz.prog 15 #[v1, v2] w fun e w' => e = .returned (.bool true) ∧ Below w.heap.size w w' := by
  obtain ⟨a1, c1, rfl, _, _⟩ := h1.len
  obtain ⟨a2, c2, rfl, _, _⟩ := h2.len
  have H1 := Lib.hid h1
  have H2 := Lib.hid h2
  clear h1 h2
  have q1 : ((l.length : Int) != (l.length : Int)) = false := by rw [bne_eq_false_iff_eq]
  go_enter Tryz.func15, Tryz.ntmps15
  go_wp2_with fail
  clear q1
  go_loopg [14] l.length (fun g u14 wr => ∃ i : Nat, i + g = l.length ∧ u14 = .int .i64 (i : Int) ∧ Below w.heap.size w wr)
  case atStart => exact ⟨0, by omega, rfl, Below.refl _ _⟩
  case round =>
    obtain ⟨i, hig, rfl, hbel⟩ := hrel
    cases gk with
    | zero =>
      obtain rfl : i = l.length := by omega
      go_wp2_with fail
      go_ret
      exact ⟨rfl, hbel⟩
    | succ g =>
      have hil : i < l.length := by omega
      obtain ⟨x, hx⟩ : ∃ x, l[i]? = some x := ⟨l[i]'(by omega), List.getElem?_eq_getElem _⟩
      obtain ⟨b, o, c', hv, _, _, hbs, hcell⟩ := H1.out.form (by omega) (by omega)
      cases hv
      obtain ⟨cs, _, hcc, hR⟩ := hcell i x hx
      obtain rfl : cs = [.string x.key, .string x.val] := hR
      obtain ⟨b', o', c'', hv, _, _, hbs', hcell'⟩ := H2.out.form (by omega) (by omega)
      cases hv
      obtain ⟨cs', _, hcc', hR'⟩ := hcell' i x hx
      obtain rfl : cs' = [.string x.key, .string x.val] := hR'
      have e0 : wr.cell? ⟨b, o + i * 2, none⟩ = some (.string x.key) := (hbel.cell (p := ⟨b, _, none⟩) hbs).trans (by simpa using hcc 0 _ rfl)
      have e1 : wr.cell? ⟨b, o + i * 2 + 1, none⟩ = some (.string x.val) := (hbel.cell (p := ⟨b, _, none⟩) hbs).trans (hcc 1 _ rfl)
      have f0 : wr.cell? ⟨b', o' + i * 2, none⟩ = some (.string x.key) := (hbel.cell (p := ⟨b', _, none⟩) hbs').trans (by simpa using hcc' 0 _ rfl)
      have f1 : wr.cell? ⟨b', o' + i * 2 + 1, none⟩ = some (.string x.val) := (hbel.cell (p := ⟨b', _, none⟩) hbs').trans (hcc' 1 _ rfl)
      have hbs2 : b' < wr.heap.size := by have := hbel.size; omega
      have q1 : (0 : Int) ≤ (i : Int) := by omega
      have q2 : (i : Int) < (l.length : Int) := by omega
      have hne := run_neqLab x.key x.val
      have Hbel : ∀ o : Obj, Hid (Below w.heap.size w (wr.alloc o)) := fun o => Lib.hid (hbel.alloc hbel.size o)
      clear hcc hcc' hcell hcell' hx hbel
      go_wp2_with fail
      go_quiet (fail)
      go_wp2_with fail
      go_roundg g
      case measure => omega
      case rel => exact ⟨i + 1, by omega, by go_num, below_drewN2 (Hbel _).out _⟩
end Go.Proofs.YtlbolbkikkiifaaGreatDoor
/- kept; parts whose values have room behind them; blocks within bounds that may turn. -/
namespace Go.Proofs.YtlbolbkikkiifaaGreatDoor
open Go.RowKit
open QP

set_option maxRecDepth 100000 in
set_option maxHeartbeats 800000 in
theorem kept_any (v : Value) (l : List ByteArray) (g : Nat) (w : World) (h : StrAt w v l) (hl : l.length ≤ 1048576) (hg : w.heap[g]? = some (.cells (strs (l ++ [markB, markB])).toArray 9 (0, 0))) :
    Calls Tryz.prog 13 #[.slice (some ⟨g, 0, none⟩) l.length (l.length + 2), v] w fun e w' => e = .returned (.bool true) ∧ w = w' := by
  obtain ⟨a1, c1, rfl, _, _⟩ := h.len
  have hrow : StrAt w (.slice (some ⟨g, 0, none⟩) l.length (l.length + 2)) l := .inr ⟨_, _, rfl, by omega, by unfold maxLen; omega, fun j x hx => by
    rw [add_plain', Nat.zero_add, cell_block hg j, List.getElem?_toArray]
    exact strs_get (by rw [List.getElem?_append_left (List.getElem?_eq_some_iff.1 hx).1]; exact hx)⟩
  have HE := Lib.hid (eqStrs_any _ _ l l w hrow h (by omega) (by omega))
  rw [decide_eq_true rfl] at HE
  have m0 : w.cell? ⟨g, l.length, none⟩ = some (.string markB) := (cell_block hg l.length).trans (by rw [List.getElem?_toArray]; exact strs_get (by rw [List.getElem?_append_right (Nat.le_refl _)]; simp))
  have m1 : w.cell? ⟨g, l.length + 1, none⟩ = some (.string markB) := (cell_block hg (l.length + 1)).trans (by rw [List.getElem?_toArray]; exact strs_get (by rw [List.getElem?_append_right (by omega)]; simp))
  obtain ⟨n, hn⟩ : ∃ n, l.length = n := ⟨_, rfl⟩
  rw [hn] at m0 m1 hl HE ⊢
  have p0 : (0 : Int) ≤ (n : Int) := by omega
  have p1 : (n : Int) ≤ (n : Int) + 2 := by omega
  have tm : (markB.toList == [109, 97, 114, 107]) = true := by rw [ByteArray.toList_eq]; rfl
  have tm2 : (n + 2 - n : Nat) = 2 := by omega
  clear hg h hrow hn
  go_enter Tryz.func13, Tryz.ntmps13
  go_wp2_with fail
  refine HE.out.mono ?_
  rintro E w2 ⟨rfl, rfl⟩
  go_wp2_with fail
  go_ret
  exact ⟨rfl, rfl⟩
/-- a part whose values stand in a block with room, two marks behind them -/
def TexR (B : Nat) : Rd GReq := fun w cs x => ∃ g, cs = [.string x.key, .int .i64 x.kind, .slice (some ⟨g, 0, none⟩) x.vals.length (x.vals.length + 2)] ∧ (Lit.int .i64 x.kind).wf = true ∧ B ≤ g ∧ w.heap[g]? = some (.cells (strs (x.vals ++ [markB, markB])).toArray 9 (0, 0))
theorem tex_one (B : Nat) : OneR (TexR B) := fun w cs x ⟨g, h1, _, _⟩ u hu => by
  rw [h1] at hu
  simp only [List.mem_cons, List.not_mem_nil, or_false] at hu
  rcases hu with rfl | rfl | rfl <;> rfl
theorem tex_staysX (B : Nat) : StaysX 26 (TexR B) := fun w w' cs x hs ⟨g, h1, h2, h3, h4⟩ => ⟨g, h1, h2, h3, hs _ _ _ _ h4 (by decide)⟩
theorem marks_at {w : World} {g : Nat} {l : List ByteArray} (hl : l.length ≤ 1048576) (hg : w.heap[g]? = some (.cells (strs (l ++ [markB, markB])).toArray 9 (0, 0))) : StrAt w (.slice (some ⟨g, 0, none⟩) l.length (l.length + 2)) l :=
  .inr ⟨_, _, rfl, by omega, by unfold maxLen; omega, fun j x hx => by
    rw [add_plain', Nat.zero_add, cell_block hg j, List.getElem?_toArray]
    exact strs_get (by rw [List.getElem?_append_left (List.getElem?_eq_some_iff.1 hx).1]; exact hx)⟩
theorem tex_rows {B : Nat} {w : World} {v : Value} {l : List GReq} (h : RowAt (TexR B) 3 w v l) (hok : ∀ x ∈ l, okReq x) : RowAt ReqR 3 w v l := by
  rcases h with h | ⟨a, c, h1, h2, h3, h4⟩
  · exact .inl h
  · refine .inr ⟨a, c, h1, h2, h3, fun j x hx => ?_⟩
    obtain ⟨cs, g1, g2, g, e1, e2, _, e4⟩ := h4 j x hx
    exact ⟨cs, g1, g2, _, e1, e2, marks_at (hok x (List.mem_of_getElem? hx)).2.1 e4⟩
theorem tex_but {B g : Nat} {w w' : World} {v : Value} {l : List GReq} (h : OwnAt (TexR B) 3 w B 26 v l) (hb : But g w w') (hne : ∀ q, v.ownBlock = some q → q ≠ g) (hty : ∀ cs, w.heap[g]? ≠ some (.cells cs 9 (0, 0))) : OwnAt (TexR B) 3 w' B 26 v l := by
  obtain ⟨css, h1, h2, h3, h4⟩ := h
  refine ⟨css, h1, h2, ⟨h3.1, ?_⟩, fun j cs y hcs hy => ?_⟩
  · rcases h3.2 with h5 | ⟨q, cap, cur, rfl, hB, hh, hr⟩
    · exact .inl h5
    · exact .inr ⟨q, cap, cur, rfl, hB, hb.keep hh (hne q rfl), hr⟩
  · obtain ⟨k, e1, e2, e3, e4⟩ := h4 j cs y hcs hy
    exact ⟨k, e1, e2, e3, hb.keep e4 (by rintro rfl; exact hty _ e4)⟩
/-- only blocks from B on and below H may have turned, and none has turned its kind -/
structure Mid (B H : Nat) (w w' : World) : Prop where
  os : w'.os = w.os
  tape : w'.tape = w.tape
  output : w'.output = w.output
  size : w.heap.size ≤ w'.heap.size
  block : ∀ k, k < w.heap.size → (k < B ∨ H ≤ k) → w'.heap[k]? = w.heap[k]?
  kind : ∀ (k : Nat) (cs : Array Value) (t : TypeId), w.heap[k]? = some (.cells cs t (0, 0)) → ∃ cs' : Array Value, w'.heap[k]? = some (.cells cs' t (0, 0)) ∧ cs'.size = cs.size
theorem Mid.refl (B H : Nat) (w : World) : Mid B H w w := ⟨rfl, rfl, rfl, Nat.le_refl _, fun _ _ _ => rfl, fun _ cs _ h => ⟨cs, h, rfl⟩⟩
theorem Mid.but {B H g : Nat} {a w w' : World} (h : Mid B H a w) (hb : But g w w') (h1 : B ≤ g) (h2 : g < H) (hk : ∀ (cs : Array Value) (t : TypeId), w.heap[g]? = some (.cells cs t (0, 0)) → ∃ cs' : Array Value, w'.heap[g]? = some (.cells cs' t (0, 0)) ∧ cs'.size = cs.size) : Mid B H a w' := by
  refine ⟨hb.os.trans h.os, hb.tape.trans h.tape, hb.output.trans h.output, Nat.le_trans h.size hb.size, fun k hk1 hk2 => ?_, fun k cs t hc => ?_⟩
  · rw [hb.block k (Nat.lt_of_lt_of_le hk1 h.size) (by omega)]; exact h.block k hk1 hk2
  · obtain ⟨cs1, c1, c2⟩ := h.kind k cs t hc
    by_cases hkg : k = g
    · subst hkg
      obtain ⟨cs2, d1, d2⟩ := hk cs1 t c1
      exact ⟨cs2, d1, d2.trans c2⟩
    · exact ⟨cs1, hb.keep c1 hkg, c2⟩
theorem Mid.below {B H B0 : Nat} {a w w' : World} (h : Mid B H w w') (hb : Below B0 a w) (hB : B0 ≤ B) (hs : B0 ≤ w.heap.size) : Below B0 a w' :=
  hb.trans ⟨h.os, h.tape, h.output, h.size, fun k hk => h.block k (by omega) (.inl (by omega))⟩
theorem OwnAt.mid {α : Type} {R : Rd α} {k B H B' : Nat} {e : TypeId} {v : Value} {l : List α} {w w' : World} (hf : Flat R) (h : OwnAt R k w B' e v l) (hm : Mid B H w w') (hB : H ≤ B') : OwnAt R k w' B' e v l := by
  have hat := fun q hq => h.at (g := q) hq
  obtain ⟨css, h1, h2, h3, h4⟩ := h
  refine ⟨css, h1, h2, ⟨h3.1, ?_⟩, fun j cs y hcs hy => hf _ _ _ _ (h4 j cs y hcs hy)⟩
  rcases h3.2 with h5 | ⟨q, cap, cur, rfl, hB2, hh, hr⟩
  · exact .inl h5
  · exact .inr ⟨q, cap, cur, rfl, hB2, (hm.block q (hat q rfl).2.1 (.inr (by omega))).trans hh, hr⟩
end Go.Proofs.YtlbolbkikkiifaaGreatDoor
/- spoil at whatever room; a part of a block may be stored into. -/
namespace Go.Proofs.YtlbolbkikkiifaaGreatDoor
open Go.RowKit
open QP

set_option maxRecDepth 100000 in
set_option maxHeartbeats 1600000 in
theorem spoil_big (g n c : Nat) (cs : Array Value) (t : TypeId) (w : World) (h : w.heap[g]? = some (.cells cs t (0, 0))) (hn : n ≤ c) (hc : c ≤ cs.size) (hb : c ≤ 9223372036854775807) :
    Calls Tryz.prog 14 #[.slice (some ⟨g, 0, none⟩) n c] w fun e w' => e = .returned (.tuple #[]) ∧ But g w w' ∧ ∃ cs', w'.heap[g]? = some (.cells cs' t (0, 0)) ∧ cs'.size = cs.size := by
  have H := Lib.hid h
  have q0 : (0 : Int) ≤ (c : Int) := by omega
  clear h
  go_enter Tryz.func14, Tryz.ntmps14
  go_wp2_with fail
  go_loopg [9] c (fun k u9 wr => ∃ i : Nat, i + k = c ∧ u9 = .int .i64 (i : Int) ∧ Hid (But g w wr) ∧ Hid (∃ cs', wr.heap[g]? = some (.cells cs' t (0, 0)) ∧ cs'.size = cs.size))
  case atStart => exact ⟨0, by omega, rfl, Lib.hid (But.refl _ _), Lib.hid ⟨_, H.out, rfl⟩⟩
  case round =>
    obtain ⟨i, hig, rfl, Hbut, Hc⟩ := hrel
    cases gk with
    | zero =>
      obtain rfl : i = c := by omega
      go_wp2_with fail
      go_end0
      exact ⟨rfl, Hbut.out, Hc.out⟩
    | succ k =>
      have hic : i < c := by omega
      obtain ⟨cs', hcs, hsz⟩ := Hc.out
      have q1 : (0 : Int) ≤ (i : Int) := by omega
      have q2 : (i : Int) < (c : Int) := by omega
      have fr : wr.frozen? ⟨g, i, none⟩ = false := free_block hcs i
      have cc : ∃ x, wr.cell? ⟨g, i, none⟩ = some x := ⟨cs'[i]'(by omega), (cell_block hcs i).trans (Array.getElem?_eq_getElem (by omega))⟩
      obtain ⟨x, hx⟩ := cc
      obtain ⟨t1, t2⟩ := touch_setCell (i := i) (v := .string ⟨#[115, 112, 111, 105, 108, 116]⟩) hcs
      have HT1 := Lib.hid t1
      have HT2 := Lib.hid t2
      have Hs := Lib.hid hsz
      clear t1 t2 hcs hsz Hc
      go_wp2_with fail
      go_roundg k
      case measure => omega
      case rel => exact ⟨i + 1, by omega, by go_num, Lib.hid (Hbut.out.trans (But.touch HT2.out)), Lib.hid ⟨_, HT1.out, by rw [Array.size_setIfInBounds, Hs.out]⟩⟩
theorem there_block {w : World} {g o m : Nat} {cur : Array Value} {t : TypeId} (hh : w.heap[g]? = some (.cells cur t (0, 0))) (hm : o + m ≤ cur.size) : w.there g o m := by
  intro j hj
  refine ⟨?_, free_block hh _⟩
  rw [cell_block hh, Array.getElem?_eq_getElem (by omega)]
  rfl
end Go.Proofs.YtlbolbkikkiifaaGreatDoor
/- The law OwnQueries. -/
namespace Go.Proofs.YtlbolbkikkiifaaGreatDoor
open Go.RowKit
open QP

theorem okReq_zero' {q : GReq} (h : reqE q = 0) : okReq q := by
  obtain ⟨hk, _, _, _, hl, hv⟩ := reqE_parts h
  have h1 := key_short hk
  exact ⟨by omega, by omega, fun v hm => by have := val_short' (hv v hm); omega⟩
theorem Tryz.sizeReq3 : (Tryz.prog.info? 26).map (·.size) = some 3 := by kernel_rfl
theorem block_lt' {w : World} {g : Nat} {o : Obj} (h : w.heap[g]? = some o) : g < w.heap.size := by
  rcases Nat.lt_or_ge g w.heap.size with h1 | h1
  · exact h1
  · rw [Array.getElem?_eq_none h1] at h; cases h
set_option maxRecDepth 100000 in
set_option maxHeartbeats 12800000 in
theorem ownQueries_walk (v0 : Value) (l : List GReq) (vl : Value) (labels : List GLabel) (w : World) (h0 : RowAt ReqR 3 w v0 l) (hl0 : RowAt LabelR 2 w vl labels) (hbulk : (l.map reqB).sum + ((labels.map labelB).sum) ≤ 1048576) (hmax : ∃ m, MaxOK m w) :
    Calls Tryz.prog 3 #[v0, vl] w fun e w' => e = .returned (.bool true) ∧ Below w.heap.size w w' := by
  obtain ⟨mx, hm⟩ := hmax
  obtain ⟨okl, hll⟩ := okReqs_of (l := l) (by omega)
  obtain ⟨okb, hlb⟩ := okLabs_of (l := labels) (by omega)
  obtain ⟨j0, hj0, hy0, hy1, hy2⟩ := info_parts Tryz.infoReq
  obtain ⟨a0, c0, rfl, hc00, hc01⟩ := h0.len
  obtain ⟨a1, c1, rfl, _, _⟩ := hl0.len
  obtain ⟨nl, hnl⟩ : ∃ n, l.length = n := ⟨_, rfl⟩
  obtain ⟨nb, hnb⟩ : ∃ n, labels.length = n := ⟨_, rfl⟩
  rw [hnl] at h0 hll ⊢
  rw [hnb] at hl0 hlb ⊢
  have H0 := Lib.hid h0
  have HL0 := Lib.hid hl0
  have Hm := Lib.hid hm
  have Okl := Lib.hid okl
  have Okb := Lib.hid okb
  have Hnl := Lib.hid hnl
  have Hnb := Lib.hid hnb
  clear h0 hl0 hm okl okb hbulk hnl hnb
  go_enter Tryz.func3, Tryz.ntmps3
  go_wp2_with fail
  go_loopg [5, 25] nl (fun k u5 u25 wr => ∃ i : Nat, i + k = nl ∧ u25 = .int .i64 (i : Int) ∧ Hid (OwnAt (TexR w.heap.size) 3 wr w.heap.size 26 u5 (l.take i)) ∧ Hid (Below w.heap.size w wr))
  case atStart => exact ⟨0, by omega, rfl, Lib.hid (OwnAt.nil _), Lib.hid (Below.refl _ _)⟩
  case round =>
    obtain ⟨i, hig, rfl, Hown, Hbel⟩ := hrel
    have hsr := Hbel.out.size
    cases gk with
    | succ k =>
      have hil : i < nl := by omega
      obtain ⟨x, hx⟩ : ∃ x, l[i]? = some x := ⟨l[i]'(by rw [Hnl.out]; exact hil), List.getElem?_eq_getElem _⟩
      obtain ⟨b, o, c', hv, _, _, hbs, hcell⟩ := H0.out.form (by rw [Hnl.out]; omega) (by omega)
      injection hv with u1 u2 u3
      subst u1
      clear u2 u3
      obtain ⟨ds, _, hcc, v2, hR, hwf, hstr⟩ := hcell i x hx
      subst hR
      obtain ⟨xa, xc, hxe, hxc1, hxc2⟩ := hstr.row.len
      obtain ⟨xn, hxn⟩ : ∃ n, x.vals.length = n := ⟨_, rfl⟩
      rw [hxn] at hxe hxc1
      subst hxe
      have e0 : wr.cell? ⟨b, o + i * 3, none⟩ = some (.string x.key) := (Hbel.out.cell (p := ⟨b, _, none⟩) hbs).trans (by simpa using hcc 0 _ rfl)
      have e1 : wr.cell? ⟨b, o + i * 3 + 1, none⟩ = some (.int .i64 x.kind) := (Hbel.out.cell (p := ⟨b, _, none⟩) hbs).trans (hcc 1 _ rfl)
      have e2 : wr.cell? ⟨b, o + i * 3 + 2, none⟩ = some (.slice xa xn xc) := (Hbel.out.cell (p := ⟨b, _, none⟩) hbs).trans (hcc 2 _ rfl)
      have q1 : (0 : Int) ≤ (i : Int) := by omega
      have q2 : (i : Int) < (nl : Int) := by omega
      have hokx := Okl.out x (List.mem_of_getElem? hx)
      have hxl : xn ≤ 1048576 := by rw [← hxn]; exact hokx.2.1
      obtain ⟨w1, hw1⟩ : ∃ w1, w1 = wr.alloc (.cells #[.string x.key, .int .i64 x.kind, .slice xa xn xc] 26) := ⟨_, rfl⟩
      obtain ⟨g7, hg7⟩ : ∃ g7, g7 = wr.heap.size := ⟨_, rfl⟩
      have b1 : w1.heap[g7]? = some (.cells #[.string x.key, .int .i64 x.kind, .slice xa xn xc] 26 (0, 0)) := by rw [hw1, hg7]; exact heap_alloc_new wr _
      have hb1 : Below wr.heap.size wr w1 := by rw [hw1]; exact (Below.refl _ wr).alloc (Nat.le_refl _) _
      have hs1 : g7 < w1.heap.size := by rw [hw1, hg7, World.size_alloc]; omega
      have hstr1 := (hstr.below Hbel.out).below hb1
      have HT := Lib.hid (texts_any (.slice xa xn xc) x.vals w1 hstr1 (by omega))
      rw [hxn] at HT
      have HO1 := Lib.hid (Hown.out.belowX (tex_staysX _) hb1)
      have HB1 := Lib.hid (Hbel.out.trans (hb1.mono hsr))
      have Hne : Hid (∀ q, u5.ownBlock = some q → q ≠ g7) := Lib.hid (fun q hq => by have := (Hown.out.at hq).2.1; omega)
      have Hx := Lib.hid hx
      have Hxn := Lib.hid hxn
      have Hwf := Lib.hid hwf
      have hgw : w.heap.size ≤ g7 := by omega
      have cc := fun i => cell_block b1 i
      have hb1' := b1
      clear hcc hcell hstr hstr1 hx hxn hwf hb1 hokx Hown
      go_upto_region 5 with fail
      rw [← hw1, ← hg7]
      clear hw1 hg7 e0 e1 e2
      go_wp2_with fail
      refine HT.out.mono ?_
      rintro E w2 ⟨g, rfl, hg, hbg, hb⟩
      have b2 := (hb.block g7 (by omega)).trans hb1'
      have HO2 := Lib.hid (HO1.out.belowX (tex_staysX _) hb)
      have HB2 := Lib.hid (HB1.out.trans (hb.mono HB1.out.size))
      have hgg : g ≠ g7 := by omega
      have hs2 := hb.size
      have f2 := fun i => free_block b2 i
      have d2 := fun i => cell_block b2 i
      obtain ⟨t1, t2⟩ := touch_setCell (i := 2) (v := .slice (some ⟨g, 0, none⟩) xn (xn + 2)) b2
      generalize hw3 : World.setCell w2 ⟨g7, 2, none⟩ (.slice (some ⟨g, 0, none⟩) xn (xn + 2)) = w3 at t1 t2
      have B3 : Hid (w3.heap[g7]? = some (.cells #[.string x.key, .int .i64 x.kind, .slice (some ⟨g, 0, none⟩) xn (xn + 2)] 26 (0, 0))) := Lib.hid t1
      have HO3 := Lib.hid (tex_but HO2.out (But.touch t2) Hne.out (fun cs h => by rw [b2] at h; cases h))
      have HB3 := Lib.hid (t2.below HB2.out hgw)
      have HG3 := Lib.hid (t2.block hbg hgg)
      have hs3 : w2.heap.size ≤ w3.heap.size := by rw [t2.size]; exact Nat.le_refl _
      clear cc hb t1 t2 hbg HT HO1 HO2 HB1 HB2 hb1' b1
      go_upto_region 6 with fail
      try rw [hw3]
      clear hw3 f2 d2 b2
      have c3 := fun i => cell_block B3.out i
      have hb4 := (Below.refl w3.heap.size w3).alloc (Nat.le_refl _) (.cells #[.string x.key, .int .i64 x.kind, .slice (some ⟨g, 0, none⟩) xn (xn + 2)] 26)
      have HO4 := Lib.hid (HO3.out.belowX (tex_staysX _) hb4)
      have HX4 : Hid (TexR w.heap.size (w3.alloc (.cells #[.string x.key, .int .i64 x.kind, .slice (some ⟨g, 0, none⟩) xn (xn + 2)] 26)) [.string x.key, .int .i64 x.kind, .slice (some ⟨g, 0, none⟩) xn (xn + 2)] x) := Lib.hid ⟨g, by rw [Hxn.out], Hwf.out, by omega, below_block hb4 HG3.out⟩
      have HB4 := Lib.hid (HB3.out.alloc HB3.out.size (.cells #[.string x.key, .int .i64 x.kind, .slice (some ⟨g, 0, none⟩) xn (xn + 2)] 26))
      have hlen : (l.take i).length = i := by rw [List.length_take, Hnl.out]; omega
      have Hlen := Lib.hid hlen
      have hsz4 := HB4.out.size
      clear hb4 HO3 HB3 HG3 hlen
      go_wp2_with (at_builtin; refine wpList_append_ownAtX (R := TexR w.heap.size) (k := 3) (e := 26) (B := w.heap.size) (l := l.take i) (m := [x]) _ (by rfl) _ _ _ (by rfl) j0 _ 48 Tryz.underlying22 hj0 hy0 hy1 hy2 rfl (by omega) (tex_staysX _) (tex_one _) _ (by rfl) HO4.out (.slice (some ⟨w3.heap.size, 0, none⟩) 1 1) (by rfl) (RowAt.one (R := TexR w.heap.size) (k := 3) (cs := #[.string x.key, .int .i64 x.kind, .slice (some ⟨g, 0, none⟩) xn (xn + 2)]) (heap_alloc_new w3 _) rfl HX4.out) (by rw [Hlen.out]; unfold maxLen; simp; omega) (by rw [Hlen.out]; simp; omega) (by simpa using HB4.out.size) ?_)
      intro v' w5 hv' hgr hr _
      have HB5 := Lib.hid (below_of_grown HB4.out hsz4 hgr hr)
      have HO5 : Hid (OwnAt (TexR w.heap.size) 3 w5 w.heap.size 26 v' (l.take (i + 1))) := Lib.hid (by
        rw [List.take_add_one, Hx.out]
        exact hv')
      clear hv' hgr hr HO4 HX4 HB4 c3
      go_wp2_with fail
      go_roundg k
      case measure => omega
      case rel => exact ⟨i + 1, by omega, by go_num, HO5, HB5⟩
    | zero =>
      obtain rfl : i = nl := by omega
      have hown : OwnAt (TexR w.heap.size) 3 wr w.heap.size 26 u5 l := by
        have h := Hown.out
        rwa [List.take_of_length_le (by rw [Hnl.out]; exact Nat.le_refl _)] at h
      obtain ⟨ai, ci, hue, hci, _⟩ := hown.row.len
      rw [Hnl.out] at hue hci
      subst hue
      obtain ⟨wA, hwA⟩ : ∃ x, x = wr := ⟨_, rfl⟩
      rw [← hwA] at hown ⊢
      have HB1 : Hid (Below w.heap.size w wA) := by rw [hwA]; exact Hbel
      have HO1 := Lib.hid hown
      have HSv : Hid (w.heap.size ≤ wA.heap.size) := Lib.hid HB1.out.size
      clear hwA hown Hown Hbel hsr j0 hj0 hy0 hy1 hy2
      have hlaw : (printL l).2 = 0 → parseL (⟨(printL l).1.toArray⟩ : ByteArray).data.toList = (l, 0) ∧ (⟨(printL l).1.toArray⟩ : ByteArray).size ≤ 300 := fun h => by
        unfold printL at h ⊢
        by_cases h1 : reqsE l = 0
        · rw [if_pos h1] at h ⊢
          by_cases h2 : 300 < (joinT l).length
          · rw [if_pos h2] at h; cases h
          · rw [if_neg h2] at h ⊢
            exact ⟨back h1 (by omega), by show (joinT l).toArray.size ≤ _; rw [List.size_toArray]; omega⟩
        · rw [if_neg h1] at h; exact absurd h h1
      obtain ⟨S, hS⟩ : ∃ S : ByteArray, (⟨(printL l).1.toArray⟩ : ByteArray) = S := ⟨_, rfl⟩
      obtain ⟨PE, hPE⟩ : ∃ e, (printL l).2 = e := ⟨_, rfl⟩
      rw [hS, hPE] at hlaw
      have Hlaw := Lib.hid hlaw
      have hpr : ∀ (E : Ending) (a b : World), PrintAt l a E b → E = .returned (.tuple #[.string S, .int .i64 PE]) ∧ Below a.heap.size a b := fun E a b h => by
        unfold PrintAt at h
        rw [hS, hPE] at h
        exact h
      have Hpr := Lib.hid hpr
      clear hlaw hpr hS hPE
      go_wp2_with fail
      refine (copyLab_any _ labels wA (HL0.out.below flat_labQ.stays HB1.out) (by rw [Hnb.out]; exact hlb)).mono ?_
      rintro E w2 ⟨ov, rfl, hov, hb⟩
      obtain ⟨oa, oc, hoe, _, _⟩ := hov.row.len
      rw [Hnb.out] at hoe
      subst hoe
      have HL2 := Lib.hid hov
      have HB2 := Lib.hid (HB1.out.trans (hb.mono HB1.out.size))
      have HO2 := Lib.hid (HO1.out.belowX (tex_staysX _) hb)
      have hs2 := hb.size
      have HK2 := Lib.hid hb
      clear hb hov
      go_wp2_with fail
      refine (strange_any mx w2 (Hm.out.below HB2.out)).mono ?_
      rintro E w3 ⟨rfl, hb⟩
      have HB3 := Lib.hid (HB2.out.trans (hb.mono HB2.out.size))
      have HO3 := Lib.hid (HO2.out.belowX (tex_staysX _) hb)
      have hs3 := hb.size
      have HK3 := Lib.hid (HK2.out.trans (hb.mono HK2.out.size))
      have HL3 := Lib.hid (HL2.out.below flat_labQ.stays hb)
      clear hb HO2 HL2
      go_wp2_with fail
      refine (match_any _ _ l labels mx w3 (tex_rows HO3.out.row Okl.out) (by rw [Hnl.out]; exact hll) Okl.out HL3.out.row (by rw [Hnb.out]; exact hlb) Okb.out (Hm.out.below HB3.out)).mono ?_
      rintro E w4 ⟨rfl, hb⟩
      have HB4 := Lib.hid (HB3.out.trans (hb.mono HB3.out.size))
      have HO4 := Lib.hid (HO3.out.belowX (tex_staysX _) hb)
      have hs4 := hb.size
      have HK4 := Lib.hid (HK3.out.trans (hb.mono HK3.out.size))
      have HL4 := Lib.hid (HL3.out.below flat_labQ.stays hb)
      clear hb HO3 HL3
      go_wp2_with fail
      refine (implies_any _ _ l l mx w4 (tex_rows HO4.out.row Okl.out) (tex_rows HO4.out.row Okl.out) (by rw [Hnl.out]; exact hll) (by rw [Hnl.out]; exact hll) Okl.out Okl.out (Hm.out.below HB4.out)).mono ?_
      rintro E w5 ⟨iv, io, iis, rfl, _, _, _, hiv, _, _, hb⟩
      obtain ⟨ia, ic, hie, _, _⟩ := hiv.len
      subst hie
      have HB5 := Lib.hid (HB4.out.trans (hb.mono HB4.out.size))
      have HO5 := Lib.hid (HO4.out.belowX (tex_staysX _) hb)
      have hs5 := hb.size
      have HK5 := Lib.hid (HK4.out.trans (hb.mono HK4.out.size))
      have HL5 := Lib.hid (HL4.out.below flat_labQ.stays hb)
      clear hb HO4 HL4 hiv
      go_wp2_with fail
      refine (solveO_any _ l mx w5 (tex_rows HO5.out.row Okl.out) (by rw [Hnl.out]; exact hll) Okl.out (Hm.out.below HB5.out)).mono ?_
      rintro E w6 ⟨sv, so, sis, sB, rfl, hsB, hsv, hsl, hb⟩
      obtain ⟨sa, sc, hse, _, _⟩ := hsv.row.len
      obtain ⟨ns, hns⟩ : ∃ n, so.length = n := ⟨_, rfl⟩
      rw [hns] at hse
      subst hse
      have HB6 := Lib.hid (HB5.out.trans (hb.mono HB5.out.size))
      have HO6 := Lib.hid (HO5.out.belowX (tex_staysX _) hb)
      have hs6 := hb.size
      have HK6 := Lib.hid (HK5.out.trans (hb.mono HK5.out.size))
      have HL6 := Lib.hid (HL5.out.below flat_labQ.stays hb)
      have HA6 := Lib.hid hsv
      have Hns := Lib.hid hns
      have hns9 : ns ≤ 9 := by omega
      clear hb HO5 HL5 hsv hns hsl
      go_wp2_with fail
      refine (print_any _ l mx w6 (tex_rows HO6.out.row Okl.out) (by rw [Hnl.out]; exact hll) Okl.out (Hm.out.below HB6.out)).mono ?_
      intro E w7 hp
      obtain ⟨rfl, hb⟩ := Hpr.out _ _ _ hp
      have HB7 := Lib.hid (HB6.out.trans (hb.mono HB6.out.size))
      have HO7 := Lib.hid (HO6.out.belowX (tex_staysX _) hb)
      have hs7 := hb.size
      have HK7 := Lib.hid (HK6.out.trans (hb.mono HK6.out.size))
      have HL7 := Lib.hid (HL6.out.below flat_labQ.stays hb)
      have HA7 := Lib.hid (HA6.out.below flat_labQ.stays hb)
      clear hb hp HO6 HL6 HA6 Hpr
      go_wp2_with fail
      go_loopg [61] i (fun k u61 wr => ∃ j : Nat, j + k = i ∧ u61 = .int .i64 (j : Int) ∧ Hid (Below w7.heap.size w7 wr))
      case atStart => exact ⟨0, by omega, rfl, Lib.hid (Below.refl _ _)⟩
      case round =>
        obtain ⟨j, hjg, rfl, Hbel⟩ := hrel
        have hsr := Hbel.out.size
        cases gk with
        | succ k =>
          have hji : j < i := by omega
          obtain ⟨x, hx⟩ : ∃ x, l[j]? = some x := ⟨l[j]'(by rw [Hnl.out]; exact hji), List.getElem?_eq_getElem _⟩
          obtain ⟨b, o, c', hv, _, _, hbs, hcell⟩ := H0.out.form (by rw [Hnl.out]; omega) (by omega)
          injection hv with u1 u2 u3
          subst u1
          clear u2 u3
          obtain ⟨ds, _, hcc, v2, hR, hwf, hstr⟩ := hcell j x hx
          subst hR
          obtain ⟨b', o', c'', hv, _, _, hbs', hcell'⟩ := HO7.out.row.form (by rw [Hnl.out]; omega) (by omega)
          injection hv with u1 u2 u3
          subst u1
          clear u2 u3
          obtain ⟨ds', _, hcc', g, hR', _, hgB, hgc⟩ := hcell' j x hx
          subst hR'
          obtain ⟨xa, xc, hxe, hxc1, hxc2⟩ := hstr.row.len
          obtain ⟨xn, hxn⟩ : ∃ n, x.vals.length = n := ⟨_, rfl⟩
          have HB7r := Lib.hid (HB7.out.trans (Hbel.out.mono HB7.out.size))
          have e0 : wr.cell? ⟨b, o + j * 3, none⟩ = some (.string x.key) := (HB7r.out.cell (p := ⟨b, _, none⟩) hbs).trans (by simpa using hcc 0 _ rfl)
          have e1 : wr.cell? ⟨b, o + j * 3 + 1, none⟩ = some (.int .i64 x.kind) := (HB7r.out.cell (p := ⟨b, _, none⟩) hbs).trans (hcc 1 _ rfl)
          have e2 : wr.cell? ⟨b, o + j * 3 + 2, none⟩ = some v2 := (HB7r.out.cell (p := ⟨b, _, none⟩) hbs).trans (hcc 2 _ rfl)
          have f0 : wr.cell? ⟨b', o' + j * 3, none⟩ = some (.string x.key) := (Hbel.out.cell (p := ⟨b', _, none⟩) hbs').trans (by simpa using hcc' 0 _ rfl)
          have f1 : wr.cell? ⟨b', o' + j * 3 + 1, none⟩ = some (.int .i64 x.kind) := (Hbel.out.cell (p := ⟨b', _, none⟩) hbs').trans (hcc' 1 _ rfl)
          have f2 : wr.cell? ⟨b', o' + j * 3 + 2, none⟩ = some (.slice (some ⟨g, 0, none⟩) x.vals.length (x.vals.length + 2)) := (Hbel.out.cell (p := ⟨b', _, none⟩) hbs').trans (hcc' 2 _ rfl)
          rw [hxn] at hxe hxc1 f2
          subst hxe
          have q1 : (0 : Int) ≤ (j : Int) := by omega
          have q2 : (j : Int) < (i : Int) := by omega
          have hokx := Okl.out x (List.mem_of_getElem? hx)
          obtain ⟨w8, hw8⟩ : ∃ w8, w8 = wr.alloc (.cells #[.string x.key, .int .i64 x.kind, .slice (some ⟨g, 0, none⟩) xn (xn + 2)] 26) := ⟨_, rfl⟩
          obtain ⟨g8, hg8⟩ : ∃ g8, g8 = wr.heap.size := ⟨_, rfl⟩
          have b8 : w8.heap[g8]? = some (.cells #[.string x.key, .int .i64 x.kind, .slice (some ⟨g, 0, none⟩) xn (xn + 2)] 26 (0, 0)) := by rw [hw8, hg8]; exact heap_alloc_new wr _
          have hb8 : Below wr.heap.size wr w8 := by rw [hw8]; exact (Below.refl _ wr).alloc (Nat.le_refl _) _
          have hlt8 : g8 < w8.heap.size := by rw [hw8, hg8, World.size_alloc]; omega
          have hbs8 : b < w8.heap.size := by have := HB7r.out.size; have := hb8.size; omega
          have e0' := (hb8.cell (p := ⟨b, o + j * 3, none⟩) (by have := HB7r.out.size; show b < _; omega)).trans e0
          have e1' := (hb8.cell (p := ⟨b, o + j * 3 + 1, none⟩) (by have := HB7r.out.size; show b < _; omega)).trans e1
          have e2' := (hb8.cell (p := ⟨b, o + j * 3 + 2, none⟩) (by have := HB7r.out.size; show b < _; omega)).trans e2
          have hst8 : StrAt w8 (.slice xa xn xc) x.vals := (hstr.below HB7r.out).below hb8
          have hgc8 := (hb8.block g (by have h9 := Hbel.out.size; have := block_lt' hgc; omega)).trans ((Hbel.out.block g (block_lt' hgc)).trans hgc)
          have hmk8 : StrAt w8 (.slice (some ⟨g, 0, none⟩) xn (xn + 2)) x.vals := by have := marks_at hokx.2.1 hgc8; rwa [hxn] at this
          have HSm : Hid (∀ w', Below w8.heap.size w8 w' → Calls Tryz.prog 12 #[.agg #[.string x.key, .int .i64 x.kind, .slice (some ⟨g, 0, none⟩) xn (xn + 2)], .agg #[.string x.key, .int .i64 x.kind, .slice xa xn xc]] w' fun e w'' => e = .returned (.bool true) ∧ Below w'.heap.size w' w'') := Lib.hid fun w' hb =>
            (sameReq_any x x _ _ w' (hmk8.below hb).row (hst8.below hb).row (by have := hokx.2.1; omega) (by have := hokx.2.1; omega)).mono fun e w'' ⟨bb, h1, h2, h3⟩ => ⟨by rw [h1, h2.2 rfl], h3⟩
          have HKp : Hid (∀ w', Below w8.heap.size w8 w' → Calls Tryz.prog 13 #[.slice (some ⟨g, 0, none⟩) xn (xn + 2), .slice xa xn xc] w' fun e w'' => e = .returned (.bool true) ∧ w' = w'') := Lib.hid fun w' hb => by
            have := kept_any (.slice xa xn xc) x.vals g w' (hst8.below hb) hokx.2.1 (below_block hb hgc8)
            rwa [hxn] at this
          have HB8 := Lib.hid (Hbel.out.trans (hb8.mono hsr))
          have cc := fun q => cell_block b8 q
          clear hcell hcell' hcc hcc' hstr hst8 hmk8 hgc hgc8 hx hb8 b8
          go_upto_region 18 with fail
          rw [← hw8, ← hg8]
          clear hw8 hg8 e0 e1 e2 f0 f1 f2
          refine wp_region_hold 17 (fun w' => Below w8.heap.size w8 w') (by kernel_rfl) (by kernel_rfl) ?_ ?_
          · exact (Below.refl _ w8).drew
          simp only [List.take_succ_cons, List.take_zero, List.drop_succ_cons, List.drop_zero]
          refine wpHold_read (v := .agg #[.string x.key, .int .i64 x.kind, .slice (some ⟨g, 0, none⟩) xn (xn + 2)]) (by rfl) (fun w' hI => ?_) ?_
          · have dd := fun q => (hI.cell (p := ⟨g8, q, none⟩) hlt8).trans (cc q)
            go_simp
            done
          try simp only [Act.put, List.setIfInBounds_toArray, List.set_cons_zero, List.set_cons_succ]
          (first | (refine wpHold_pure (v := ?_) (by rfl) (fun w => ?_) ?_; rotate_left; focus (first | (go_simp; done) | (go_simp; with_reducible rfl))) | (refine wpHold_skip ?_ ?_; focus (go_simp; done)) | (refine wpHold_pure' (v := ?_) ?_ (fun w => ?_) ?_; rotate_left; focus (go_simp; done); focus (first | (go_simp; done) | (go_simp; with_reducible rfl)))); try simp only [Act.put, List.setIfInBounds_toArray, List.set_cons_zero, List.set_cons_succ]
          (first | (refine wpHold_pure (v := ?_) (by rfl) (fun w => ?_) ?_; rotate_left; focus (first | (go_simp; done) | (go_simp; with_reducible rfl))) | (refine wpHold_skip ?_ ?_; focus (go_simp; done)) | (refine wpHold_pure' (v := ?_) ?_ (fun w => ?_) ?_; rotate_left; focus (go_simp; done); focus (first | (go_simp; done) | (go_simp; with_reducible rfl)))); try simp only [Act.put, List.setIfInBounds_toArray, List.set_cons_zero, List.set_cons_succ]
          refine wpHold_pure (v := .pointer (some ⟨b, o + j * 3, none⟩)) (by rfl) (fun w' => ?_) ?_
          · go_simp
            done
          try simp only [Act.put, List.setIfInBounds_toArray, List.set_cons_zero, List.set_cons_succ]
          refine wpHold_read (v := .agg #[.string x.key, .int .i64 x.kind, .slice xa xn xc]) (by rfl) (fun w' hI => ?_) ?_
          · have d0 := (hI.cell (p := ⟨b, o + j * 3, none⟩) hbs8).trans e0'
            have d1 := (hI.cell (p := ⟨b, o + j * 3 + 1, none⟩) hbs8).trans e1'
            have d2 := (hI.cell (p := ⟨b, o + j * 3 + 2, none⟩) hbs8).trans e2'
            go_simp
            done
          try simp only [Act.put, List.setIfInBounds_toArray, List.set_cons_zero, List.set_cons_succ]
          refine wpHold_call (v := .bool true) (f := 12) (args := #[.agg #[.string x.key, .int .i64 x.kind, .slice (some ⟨g, 0, none⟩) xn (xn + 2)], .agg #[.string x.key, .int .i64 x.kind, .slice xa xn xc]]) (by rfl) (fun w' => ?_) (fun w' hI => ?_) ?_
          · go_simp
            done
          · exact (HSm.out w' hI).mono fun e w'' ⟨h1, h2⟩ => ⟨h1, hI.trans (h2.mono hI.size)⟩
          try simp only [Act.put, List.setIfInBounds_toArray, List.set_cons_zero, List.set_cons_succ]
          (first | (refine wpHold_pure (v := ?_) (by rfl) (fun w => ?_) ?_; rotate_left; focus (first | (go_simp; done) | (go_simp; with_reducible rfl))) | (refine wpHold_skip ?_ ?_; focus (go_simp; done)) | (refine wpHold_pure' (v := ?_) ?_ (fun w => ?_) ?_; rotate_left; focus (go_simp; done); focus (first | (go_simp; done) | (go_simp; with_reducible rfl)))); try simp only [Act.put, List.setIfInBounds_toArray, List.set_cons_zero, List.set_cons_succ]
          (first | (refine wpHold_pure (v := ?_) (by rfl) (fun w => ?_) ?_; rotate_left; focus (first | (go_simp; done) | (go_simp; with_reducible rfl))) | (refine wpHold_skip ?_ ?_; focus (go_simp; done)) | (refine wpHold_pure' (v := ?_) ?_ (fun w => ?_) ?_; rotate_left; focus (go_simp; done); focus (first | (go_simp; done) | (go_simp; with_reducible rfl)))); try simp only [Act.put, List.setIfInBounds_toArray, List.set_cons_zero, List.set_cons_succ]
          refine wpHold_pure' (v := ?_) ?_ (fun w => ?_) ?_
          rotate_left
          focus (go_simp; done)
          focus (first | (go_simp; done) | (go_simp; with_reducible rfl))
          try simp only [Act.put, List.setIfInBounds_toArray, List.set_cons_zero, List.set_cons_succ]
          refine wpHold_read' (v := .slice (some ⟨g, 0, none⟩) xn (xn + 2)) ?_ (fun w' hI => ?_) ?_
          · go_simp
            done
          · have dd := fun q => (hI.cell (p := ⟨g8, q, none⟩) hlt8).trans (cc q)
            go_simp
            done
          try simp only [Act.put, List.setIfInBounds_toArray, List.set_cons_zero, List.set_cons_succ]
          refine wpHold_pure' (v := ?_) ?_ (fun w => ?_) ?_
          rotate_left
          focus (go_simp; done)
          focus (first | (go_simp; done) | (go_simp; with_reducible rfl))
          try simp only [Act.put, List.setIfInBounds_toArray, List.set_cons_zero, List.set_cons_succ]
          refine wpHold_pure' (v := ?_) ?_ (fun w => ?_) ?_
          rotate_left
          focus (go_simp; done)
          focus (first | (go_simp; done) | (go_simp; with_reducible rfl))
          try simp only [Act.put, List.setIfInBounds_toArray, List.set_cons_zero, List.set_cons_succ]
          refine wpHold_pure' (v := .pointer (some ⟨b, o + j * 3, none⟩)) ?_ (fun w' => ?_) ?_
          · go_simp
            done
          · go_simp
            done
          try simp only [Act.put, List.setIfInBounds_toArray, List.set_cons_zero, List.set_cons_succ]
          refine wpHold_pure' (v := ?_) ?_ (fun w => ?_) ?_
          rotate_left
          focus (go_simp; done)
          focus (first | (go_simp; done) | (go_simp; with_reducible rfl))
          try simp only [Act.put, List.setIfInBounds_toArray, List.set_cons_zero, List.set_cons_succ]
          refine wpHold_read' (v := .slice xa xn xc) ?_ (fun w' hI => ?_) ?_
          · go_simp
            done
          · have d2 := (hI.cell (p := ⟨b, o + j * 3 + 2, none⟩) hbs8).trans e2'
            go_simp
            done
          try simp only [Act.put, List.setIfInBounds_toArray, List.set_cons_zero, List.set_cons_succ]
          refine wpHold_call' (v := .bool true) (f := 13) (args := #[.slice (some ⟨g, 0, none⟩) xn (xn + 2), .slice xa xn xc]) ?_ (fun w' => ?_) (fun w' hI => ?_) ?_
          · go_simp
            done
          · go_simp
            done
          · exact (HKp.out w' hI).mono fun e w'' ⟨h1, h2⟩ => ⟨h1, by rw [← h2]; exact hI⟩
          try simp only [Act.put, List.setIfInBounds_toArray, List.set_cons_zero, List.set_cons_succ]
          refine wpHold_pure' (v := ?_) ?_ (fun w => ?_) ?_
          rotate_left
          focus (go_simp; done)
          focus (first | (go_simp; done) | (go_simp; with_reducible rfl))
          try simp only [Act.put, List.setIfInBounds_toArray, List.set_cons_zero, List.set_cons_succ]
          refine wpHold_nil ?_
          intro w9 hI9
          have HB9 := Lib.hid (HB8.out.trans (hI9.mono HB8.out.size))
          clear hI9 HSm HKp e0' e1' e2' cc
          go_wp2_with fail
          go_roundg k
          case measure => omega
          case rel => exact ⟨j + 1, by omega, by go_num, HB9⟩
        | zero =>
          obtain ⟨w8, hw8⟩ : ∃ x, x = wr := ⟨_, rfl⟩
          rw [← hw8]
          have hb : Below w7.heap.size w7 w8 := by rw [hw8]; exact Hbel.out
          have hji : j = i := by omega
          subst hji
          clear hw8 Hbel hsr hjg
          have HB8 := Lib.hid (HB7.out.trans (hb.mono HB7.out.size))
          have hs8 := hb.size
          have HK8 := Lib.hid (HK7.out.trans (hb.mono HK7.out.size))
          have HL8 := Lib.hid (HL7.out.below flat_labQ.stays hb)
          have HA8 := Lib.hid (HA7.out.below flat_labQ.stays hb)
          clear hb HL7 HA7 HO7
          go_wp2_with fail
          refine (copyLab_any _ so w8 HA8.out.row (by rw [Hns.out]; omega)).mono ?_
          rintro E w9 ⟨hv, rfl, hhad, hb⟩
          obtain ⟨ha, hc, hhe, _, _⟩ := hhad.row.len
          rw [Hns.out] at hhe
          subst hhe
          have HH9 := Lib.hid hhad
          have HB9 := Lib.hid (HB8.out.trans (hb.mono HB8.out.size))
          have hs9 := hb.size
          have HK9 := Lib.hid (HK8.out.trans (hb.mono HK8.out.size))
          have HL9 := Lib.hid (HL8.out.below flat_labQ.stays hb)
          have HA9 := Lib.hid (HA8.out.below flat_labQ.stays hb)
          have hSA : w.heap.size ≤ wA.heap.size := HSv.out
          have hA9 : wA.heap.size ≤ w9.heap.size := HK9.out.size
          clear hb hhad HL8 HA8
          go_wp2_with fail
          go_loopg [89] j (fun k u89 wr => ∃ p : Nat, p + k = j ∧ u89 = .int .i64 (p : Int) ∧ Hid (Mid w.heap.size wA.heap.size w9 wr) ∧ Hid (∀ gI, Value.ownBlock (.slice ai j ci) = some gI → ∀ q, p * 3 ≤ q → wr.cell? ⟨gI, q, none⟩ = w9.cell? ⟨gI, q, none⟩))
          case atStart => exact ⟨0, by omega, rfl, Lib.hid (Mid.refl _ _ _), Lib.hid (fun _ _ _ _ => rfl)⟩
          case round =>
            obtain ⟨p, hpg, rfl, Hmid, Hsame⟩ := hrel
            cases gk with
            | succ k =>
              have hpj : p < j := by omega
              obtain ⟨x, hx⟩ : ∃ x, l[p]? = some x := ⟨l[p]'(by rw [Hnl.out]; exact hpj), List.getElem?_eq_getElem _⟩
              have hown1 := HO1.out
              rcases hown1.form with ⟨hv0, hl0⟩ | ⟨gI, cI, hv0, hgI, hgI2, _, _⟩
              · rw [hl0] at hx; cases hx
              have hrow1 := hown1.row
              obtain ⟨css1, _, _, hrw1, _⟩ := hown1
              injection hv0 with u1 u2 u3
              subst u1 u3
              clear u2
              obtain ⟨b', o', c'', hv1, _, _, hbs', hcell'⟩ := hrow1.form (by rw [Hnl.out]; omega) (by omega)
              injection hv1 with u1 u2 u3
              injection u1 with u1
              injection u1 with u1 u4
              subst u1 u4
              clear u2 u3
              obtain ⟨ds', _, hcc', g, hR', _, hgB, hgc⟩ := hcell' p x hx
              subst hR'
              obtain ⟨xn, hxn⟩ : ∃ n, x.vals.length = n := ⟨_, rfl⟩
              have hokx := (Okl.out x (List.mem_of_getElem? hx)).2.1
              have hxl : xn ≤ 1048576 := by rw [← hxn]; exact hokx
              have hgA := block_lt' hgc
              have curI : ∃ cur, wA.heap[gI]? = some (.cells cur 26 (0, 0)) ∧ cur.size = ci * 3 ∧ j ≤ ci := by
                rcases hrw1.2 with ⟨h5, _⟩ | ⟨g', cap, cur, h5, _, hh, hle, _, hz, _⟩
                · cases h5
                · injection h5 with u1 u2 u3
                  injection u1 with u1
                  injection u1 with u1
                  subst u1 u3
                  exact ⟨cur, hh, hz, by rw [← Hnl.out]; exact hle⟩
              obtain ⟨cur1, hcur1, hcz1, hjc⟩ := curI
              have hgg : g ≠ gI := fun e => by rw [e, hcur1] at hgc; cases hgc
              have m2 := hcc' 2 _ rfl
              rw [hxn, Nat.zero_add] at m2
              have e2 : wr.cell? ⟨gI, p * 3 + 2, none⟩ = some (.slice (some ⟨g, 0, none⟩) xn (xn + 2)) := (Hsame.out gI rfl (p * 3 + 2) (by omega)).trans ((HK9.out.cell (p := ⟨gI, p * 3 + 2, none⟩) hgI2).trans m2)
              obtain ⟨csI, hcsI, hczI⟩ := Hmid.out.kind gI cur1 _ ((HK9.out.block gI hgI2).trans hcur1)
              obtain ⟨csG, hcsG, hczG⟩ := Hmid.out.kind g _ _ ((HK9.out.block g hgA).trans hgc)
              have hsG : xn + 2 ≤ csG.size := by rw [hczG]; simp [strs_length, hxn]
              have q1 : (0 : Int) ≤ (p : Int) := by omega
              have q2 : (p : Int) < (j : Int) := by omega
              have HSp := Lib.hid (spoil_big g xn (xn + 2) csG 9 wr hcsG (by omega) hsG (by omega))
              have HcG := Lib.hid hcsG
              have HcI := Lib.hid hcsI
              have Hz : Hid (csI.size = ci * 3) := Lib.hid (hczI.trans hcz1)
              clear hcell' hcc' m2 hrow1 hrw1 hcur1 hcz1 hgc hx hxn hokx hcsG hcsI hczI hczG hsG
              go_wp2_with fail
              refine HSp.out.mono ?_
              rintro E w10 ⟨rfl, hbut, csH, hcsH, hczH⟩
              have hI10 := hbut.keep HcI.out (Ne.symm hgg)
              have hthere := there_block (o := p * 3) (m := 3) hI10 (by rw [Hz.out]; omega)
              obtain ⟨cur', g1, g2, g3, g4, g5⟩ := setCells_all gI 26 [.string ⟨#[]⟩, .int .i64 0, .slice none 0 0] (p * 3) csI w10 hI10 (by show p * 3 + 3 ≤ _; rw [Hz.out]; omega)
              have Hm10 := Lib.hid (Hmid.out.but hbut hgB hgA (fun cs t h => by rw [HcG.out] at h; cases h; exact ⟨csH, hcsH, hczH⟩))
              have Hm11 : Hid (Mid w.heap.size wA.heap.size w9 (w10.setCells gI (p * 3) [.string ⟨#[]⟩, .int .i64 0, .slice none 0 0])) := Lib.hid (Hm10.out.but (But.touch g5) hgI hgI2 (fun cs t h => by rw [hI10] at h; cases h; exact ⟨cur', g1, g2⟩))
              have Hs11 : Hid (∀ gI', Value.ownBlock (.slice (some ⟨gI, 0, none⟩) j ci) = some gI' → ∀ q, (p + 1) * 3 ≤ q → (w10.setCells gI (p * 3) [.string ⟨#[]⟩, .int .i64 0, .slice none 0 0]).cell? ⟨gI', q, none⟩ = w9.cell? ⟨gI', q, none⟩) := Lib.hid (fun gI' he q hq => by
                have he2 : gI = gI' := by simpa [Value.ownBlock] using he
                subst he2
                rw [cell_block g1 q, g3 q (.inr (by show p * 3 + 3 ≤ q; omega)), ← cell_block hI10 q, hbut.cell (p := ⟨gI, q, none⟩) (block_lt' HcI.out) (Ne.symm hgg)]
                exact Hsame.out gI rfl q (by omega))
              clear hbut hcsH hczH hI10 g1 g2 g3 g4 g5 Hm10 Hsame HSp HcG HcI e2
              go_upto_region 26 with fail
              iterate 13 go_step
              refine wpList_store_mid (by rfl) _ _ _ (by rfl) gI (p * 3) #[.string ⟨#[]⟩, .int .i64 0, .slice none 0 0] (by rfl) (by rfl) hthere Tryz.sizeReq3 (by simp [Value.oneCell']) ?_
              obtain ⟨wz, Hwz⟩ : ∃ wz, Hid (w10.setCells gI (p * 3) [.string ⟨#[]⟩, .int .i64 0, .slice none 0 0] = wz) := ⟨_, Lib.hid rfl⟩
              have n1 := Hm11.out
              have n2 := Hs11.out
              rw [Hwz.out] at n1 n2
              have N1 := Lib.hid n1
              have N2 := Lib.hid n2
              have hwz : w10.setCells gI (p * 3) (#[.string ⟨#[]⟩, .int .i64 0, .slice none 0 0] : Array Value).toList = wz := Hwz.out
              rw [hwz]
              clear n1 n2 hwz Hwz hthere Hm11 Hs11
              go_wp2_with fail
              go_roundg k
              case measure => omega
              case rel => exact ⟨p + 1, by omega, by go_num, N1, N2⟩
            | zero =>
              obtain ⟨wC, hwC⟩ : ∃ x, x = wr := ⟨_, rfl⟩
              rw [← hwC]
              have hmid : Mid w.heap.size wA.heap.size w9 wC := by rw [hwC]; exact Hmid.out
              have hpj : p = j := by omega
              subst hpj
              have HB10 := Lib.hid (hmid.below HB9.out (Nat.le_refl _) HB9.out.size)
              have HL10 := Lib.hid (HL9.out.mid flat_labQ hmid (Nat.le_refl _))
              have HA10 := Lib.hid (HA9.out.mid flat_labQ hmid (by omega))
              have HH10 := Lib.hid (HH9.out.mid flat_labQ hmid (by omega))
              clear hwC hmid Hmid Hsame HL9 HA9 HH9 hpg
              go_wp2_with fail
              refine (eqLab_yes _ _ labels wC HL10.out.row (HL0.out.below flat_labQ.stays HB10.out) (by rw [Hnb.out]; exact hlb)).mono ?_
              rintro E w11 ⟨rfl, hb⟩
              have HB11 := Lib.hid (HB10.out.trans (hb.mono HB10.out.size))
              have HA11 := Lib.hid (HA10.out.below flat_labQ.stays hb)
              have HH11 := Lib.hid (HH10.out.below flat_labQ.stays hb)
              clear hb HL10 HA10 HH10
              go_wp2_with fail
              refine (eqLab_yes _ _ so w11 HA11.out.row HH11.out.row (by rw [Hns.out]; omega)).mono ?_
              rintro E w12 ⟨rfl, hb⟩
              have HB12 := Lib.hid (HB11.out.trans (hb.mono HB11.out.size))
              clear hb HA11 HH11
              by_cases hp0 : PE = 0
              · subst hp0
                obtain ⟨hpl, hps⟩ := Hlaw.out rfl
                have HPa : Hid (∀ w', Below w.heap.size w w' → Calls Tryz.prog 16 #[.string S] w' fun e w'' => ∃ v B, e = .returned (.tuple #[v, .int .i64 0]) ∧ w'.heap.size ≤ B ∧ OwnAt (ReqO B) 3 w'' B 26 v l ∧ Below w'.heap.size w' w'') := Lib.hid fun w' hb => by
                  have h := parseO_any S mx w' (by omega) (Hm.out.below hb)
                  unfold ParseO at h
                  rw [hpl] at h
                  exact h
                clear hpl hps Hlaw
                go_wp2_with fail
                refine (HPa.out w12 HB12.out).mono ?_
                rintro E w13 ⟨bv, B2, rfl, hB2, hbo, hb⟩
                obtain ⟨ba, bc, hbe, _, _⟩ := hbo.row.len
                rw [Hnl.out] at hbe
                subst hbe
                have HB13 := Lib.hid (HB12.out.trans (hb.mono HB12.out.size))
                have hs13 := hb.size
                have hw12 := HB12.out.size
                have HBo := Lib.hid hbo
                clear hb hbo
                go_wp2_with fail
                go_loopg [122] p (fun k u122 wr => ∃ q : Nat, q + k = p ∧ u122 = .int .i64 (q : Int) ∧ Hid (Mid w12.heap.size w13.heap.size w13 wr) ∧ Hid (∀ gb, Value.ownBlock (.slice ba p bc) = some gb → wr.heap[gb]? = w13.heap[gb]?))
                case atStart => exact ⟨0, by omega, rfl, Lib.hid (Mid.refl _ _ _), Lib.hid (fun _ _ => rfl)⟩
                case round =>
                  obtain ⟨q, hqg, rfl, Hmid, Hsame⟩ := hrel
                  cases gk with
                  | succ k =>
                    have hqp : q < p := by omega
                    obtain ⟨x, hx⟩ : ∃ x, l[q]? = some x := ⟨l[q]'(by rw [Hnl.out]; exact hqp), List.getElem?_eq_getElem _⟩
                    have hown1 := HBo.out
                    rcases hown1.form with ⟨hv0, hl0⟩ | ⟨gb, cb, hv0, hgb, hgb2, _, _⟩
                    · rw [hl0] at hx; cases hx
                    have hrow1 := hown1.row
                    have hat := hown1.at (g := gb) (by rw [hv0]; rfl)
                    obtain ⟨_, _, curb, hcurb⟩ := hat
                    injection hv0 with u1 u2 u3
                    subst u1 u3
                    clear u2
                    obtain ⟨b', o', c'', hv1, _, _, hbs', hcell'⟩ := hrow1.form (by rw [Hnl.out]; omega) (by omega)
                    injection hv1 with u1 u2 u3
                    injection u1 with u1
                    injection u1 with u1 u4
                    subst u1 u4
                    clear u2 u3
                    obtain ⟨ds', _, hcc', v2, hR', _, hov2⟩ := hcell' q x hx
                    subst hR'
                    have m2 := hcc' 2 _ rfl
                    rw [Nat.zero_add] at m2
                    have e2 : wr.cell? ⟨gb, q * 3 + 2, none⟩ = some v2 := (World.cell?_of_block (a := ⟨gb, q * 3 + 2, none⟩) (Hsame.out gb rfl)).trans m2
                    have q1 : (0 : Int) ≤ (q : Int) := by omega
                    have q2 : (q : Int) < (p : Int) := by omega
                    obtain ⟨css, _, _, hrw, _⟩ := hov2
                    rcases hrw.2 with ⟨rfl, hn0⟩ | ⟨g, cap, cur, rfl, hgB, hgc, hle, hmx, hz, _⟩
                    · have HSp := Lib.hid (spoil_nil 0 wr)
                      clear hcell' hcc' m2 hrow1 hown1 hx hrw hn0 hcurb
                      go_wp2_with fail
                      refine HSp.out.mono ?_
                      rintro E wx ⟨rfl, rfl⟩
                      clear e2 HSp
                      go_wp2_with fail
                      go_roundg k
                      case measure => omega
                      case rel => exact ⟨q + 1, by omega, by go_num, Hmid, Hsame⟩
                    · obtain ⟨xn, hxn⟩ : ∃ n, x.vals.length = n := ⟨_, rfl⟩
                      rw [hxn] at e2 hle
                      have hg13 := block_lt' hgc
                      have hgg : g ≠ gb := fun e => by rw [e, hcurb] at hgc; cases hgc
                      obtain ⟨csG, hcsG, hczG⟩ := Hmid.out.kind g _ _ hgc
                      have HSp := Lib.hid (spoil_big g xn cap csG 9 wr hcsG hle (by rw [hczG, hz]; omega) (by unfold maxLen at hmx; omega))
                      have HcG := Lib.hid hcsG
                      clear hcell' hcc' m2 hrow1 hown1 hx hrw hcurb hgc hcsG hczG hz hmx hxn
                      go_wp2_with fail
                      refine HSp.out.mono ?_
                      rintro E w14 ⟨rfl, hbut, csH, hcsH, hczH⟩
                      have Hm14 := Lib.hid (Hmid.out.but hbut (by omega) hg13 (fun cs t h => by rw [HcG.out] at h; cases h; exact ⟨csH, hcsH, hczH⟩))
                      have Hs14 : Hid (∀ gb', Value.ownBlock (.slice (some ⟨gb, 0, none⟩) p bc) = some gb' → w14.heap[gb']? = w13.heap[gb']?) := Lib.hid (fun gb' he => by
                        have he2 : gb = gb' := by simpa [Value.ownBlock] using he
                        subst he2
                        rw [hbut.block gb (Nat.lt_of_lt_of_le hgb2 Hmid.out.size) (Ne.symm hgg)]
                        exact Hsame.out gb rfl)
                      clear hbut hcsH hczH Hmid Hsame HSp HcG e2
                      go_wp2_with fail
                      go_roundg k
                      case measure => omega
                      case rel => exact ⟨q + 1, by omega, by go_num, Hm14, Hs14⟩
                  | zero =>
                    have HB14 : Hid (Below w.heap.size w wr) := Lib.hid (Hmid.out.below HB13.out (by omega) HB13.out.size)
                    clear Hmid Hsame HBo
                    go_wp2_with fail
                    refine (HPa.out wr HB14.out).mono ?_
                    rintro E w15 ⟨cv, B3, rfl, _, hco, hb⟩
                    have HB15 := Lib.hid (HB14.out.trans (hb.mono HB14.out.size))
                    have hcr := row_map hco.row (fun cs z hz => reqO_req hz)
                    obtain ⟨ca, cc, hce, _, _⟩ := hco.row.len
                    rw [Hnl.out] at hce
                    subst hce
                    have HCr := Lib.hid hcr
                    clear hb hco hcr HPa
                    go_wp2_with fail
                    refine (sameReqs_any _ _ l l w15 HCr.out (H0.out.below stays_req HB15.out) (by rw [Hnl.out]; omega) (by rw [Hnl.out]; omega) Okl.out Okl.out).mono ?_
                    rintro E w16 ⟨bb, rfl, hbb, hb⟩
                    obtain rfl : bb = true := hbb.2 rfl
                    have HB16 := Lib.hid (HB15.out.trans (hb.mono HB15.out.size))
                    clear hbb hb
                    go_wp2_with fail
                    go_ret
                    exact ⟨rfl, HB16.out⟩
              · have q9 : (PE != 0) = true := by rw [bne_iff_ne]; exact hp0
                clear hp0 Hlaw
                go_wp2_with fail
                go_ret
                exact ⟨rfl, HB12.out⟩
end Go.Proofs.YtlbolbkikkiifaaGreatDoor
