/- Texts of ours joined: QueryChecks, QueryBase, ParserParse, Parse, QueryIdx, QueryReqIdx, QueryLabs, SlStr, QueryHolds, QueryMatch, QueryCopy, RowStore, DelFunc, SolvePlain, SortPlain, SortStr, ValueClo. -/
import Derived.WalkSpells
import Derived.Deep.LoopGhost
import Derived.Test.YtlbolbkikkiifaaGreatDoorShelf
import Derived.Deep.MidRow
import Derived.Lib.ItoaNum
import Derived.Lib.SlicesCompact
import Derived.Sort.Walk0
import Derived.Lib.AppendIntMem
import Derived.Test.YtlbolbkikkiifaaGreatDoorMq2
set_option linter.unusedVariables false
set_option linter.unusedSimpArgs false
/- query: Check, CheckLabels: their contracts. -/
namespace Go.Proofs.YtlbolbkikkiifaaGreatDoor
open Go.RowKit

theorem zero_snoc {α : Type} {l : List α} {f : α → Int} {i : Nat} {x : α} (h : ∀ y ∈ l.take i, f y = 0) (hx : l[i]? = some x) (hf : f x = 0) : ∀ y ∈ l.take (i + 1), f y = 0 := fun y hy => by
  rw [List.take_add_one, hx] at hy
  rcases List.mem_append.1 hy with h1 | h1
  · exact h y h1
  · simp at h1; subst h1; exact hf
set_option maxRecDepth 100000 in
set_option maxHeartbeats 3200000 in
theorem checks_any (v : Value) (l : List GReq) (m : Int) (w : World) (h : RowAt ReqR 3 w v l) (hl : l.length ≤ 1048576) (hok : ∀ r ∈ l, okReq r) (hm : MaxOK m w) :
    Calls Tryz.prog 25 #[v] w fun e w' => e = .returned (.int .i64 (reqsE l)) ∧ Below w.heap.size w w' := by
  obtain ⟨a1, c1, rfl, _, _⟩ := h.len
  obtain ⟨R, HR⟩ : ∃ R, Hid (reqsE l = R) := ⟨_, Lib.hid rfl⟩
  rw [HR.out]
  have hE : R = if 8 < l.length then 2 else errF reqE l := by rw [← HR.out]; rfl
  have HE := Lib.hid hE
  have H := Lib.hid h
  have Hm := Lib.hid hm
  have Hok := Lib.hid hok
  clear hE h hm hok
  by_cases h8 : 8 < l.length
  · have q0 : (8 : Int) < (l.length : Int) := by omega
    have HR4 : Hid (2 = R) := Lib.hid (by rw [HE.out, if_pos h8])
    clear h8
    go_enter Tryz.func25, Tryz.ntmps25
    go_wp2_with fail
    go_ret
    exact ⟨ret_int HR4.out, Below.refl _ _⟩
  · have q0 : ¬ (8 : Int) < (l.length : Int) := by omega
    have HR4 : Hid (R = errF reqE l) := Lib.hid (by rw [HE.out, if_neg h8])
    clear h8
    go_enter Tryz.func25, Tryz.ntmps25
    go_wp2_with fail
    go_loopg [11] l.length (fun k u11 wr => ∃ i : Nat, i + k = l.length ∧ u11 = .int .i64 (i : Int) ∧ Hid (∀ x ∈ l.take i, reqE x = 0) ∧ Hid (Below w.heap.size w wr))
    case atStart => exact ⟨0, by omega, rfl, Lib.hid (by simp), Lib.hid (Below.refl _ _)⟩
    case round =>
      obtain ⟨i, hig, rfl, Hall, Hbel⟩ := hrel
      have hsr := Hbel.out.size
      cases gk with
      | zero =>
        obtain rfl : i = l.length := by omega
        have HR5 : Hid (0 = R) := Lib.hid (by
          rw [HR4.out, errF_none]
          intro x hx
          refine Hall.out x ?_
          rw [List.take_of_length_le (Nat.le_refl _)]; exact hx)
        go_wp2_with fail
        go_ret
        exact ⟨ret_int HR5.out, Hbel.out⟩
      | succ k =>
        have hil : i < l.length := by omega
        obtain ⟨x, hxi⟩ : ∃ x, l[i]? = some x := ⟨l[i]'(by omega), List.getElem?_eq_getElem _⟩
        obtain ⟨b, o, c', hv, _, _, hbs, hcell⟩ := H.out.form (by omega) (by omega)
        injection hv with u1 u2 u3
        subst u1
        clear u2 u3
        obtain ⟨ds, _, hcc, hR⟩ := hcell i x hxi
        have hR2 := stays_req _ _ _ _ (keeps_below Hbel.out) hR
        obtain ⟨y2, rfl, _, _⟩ := hR
        have e0 : wr.cell? ⟨b, o + i * 3, none⟩ = some (.string x.key) := (Hbel.out.cell (p := ⟨b, _, none⟩) hbs).trans (by simpa using hcc 0 _ rfl)
        have e1 : wr.cell? ⟨b, o + i * 3 + 1, none⟩ = some (.int .i64 x.kind) := (Hbel.out.cell (p := ⟨b, _, none⟩) hbs).trans (hcc 1 _ rfl)
        have e2 : wr.cell? ⟨b, o + i * 3 + 2, none⟩ = some y2 := (Hbel.out.cell (p := ⟨b, _, none⟩) hbs).trans (hcc 2 _ rfl)
        have q1 : (0 : Int) ≤ (i : Int) := by omega
        have q2 : (i : Int) < (l.length : Int) := by omega
        have HRx := Lib.hid hR2
        have Hxi := Lib.hid hxi
        obtain ⟨ao, co, rfl, _, _⟩ : ∃ ao co, y2 = .slice ao x.vals.length co ∧ True ∧ True := by
          obtain ⟨v2, h1, _, h2⟩ := hR2
          obtain ⟨ao, co, h3, _, _⟩ := h2.row.len
          injection h1 with _ h1; injection h1 with _ h1; injection h1 with h1 _
          exact ⟨ao, co, h1.trans h3, trivial, trivial⟩
        clear hcc hcell hxi hR2
        go_upto_region 6 with fail
        obtain ⟨W, hW⟩ : ∃ W, W = wr.alloc (.cells #[.string x.key, .int .i64 x.kind, .slice ao x.vals.length co] 26) := ⟨_, rfl⟩
        obtain ⟨gb, hgb⟩ : ∃ gb, gb = wr.heap.size := ⟨_, rfl⟩
        rw [← hW, ← hgb]
        have c0 : W.heap[gb]? = some (.cells #[.string x.key, .int .i64 x.kind, .slice ao x.vals.length co] 26 (0, 0)) := by rw [hW, hgb]; exact heap_alloc_new wr _
        have hb5 : Below wr.heap.size wr W := by rw [hW]; exact (Below.refl _ _).alloc (Nat.le_refl _) _
        have HW := Lib.hid (Hbel.out.trans (hb5.mono hsr))
        have HRW := Lib.hid (stays_req _ _ _ _ (keeps_below hb5) HRx.out)
        have cc := fun i => cell_block c0 i
        clear hW hgb hb5 c0 e0 e1 e2
        go_wp2_with fail
        refine (check1_any x _ m W HRW.out (Hok.out x (List.mem_of_getElem? Hxi.out)) (Hm.out.below HW.out)).mono ?_
        rintro E w3 ⟨rfl, hb3⟩
        have Hb3 := Lib.hid (HW.out.trans (hb3.mono HW.out.size))
        obtain ⟨rE, HrE⟩ : ∃ rE, Hid (reqE x = rE) := ⟨_, Lib.hid rfl⟩
        rw [HrE.out]
        clear hb3 cc
        by_cases hr0 : rE = 0
        · subst hr0
          have Hall2 := Lib.hid (zero_snoc Hall.out Hxi.out HrE.out)
          go_wp2_with fail
          go_roundg k
          case measure => omega
          case rel => exact ⟨i + 1, by omega, by go_num, Hall2, Hb3⟩
        · have q3 : (rE == 0) = false := by rw [beq_eq_false_iff_ne]; exact hr0
          have q4 : (rE != 0) = true := by rw [bne_iff_ne]; exact hr0
          have HR5 : Hid (rE = R) := Lib.hid (by rw [HR4.out, errF_at Hxi.out Hall.out (by rw [HrE.out]; exact hr0)]; exact HrE.out.symm)
          clear hr0
          go_wp2_with fail
          go_ret
          exact ⟨ret_int HR5.out, Hb3.out⟩
end Go.Proofs.YtlbolbkikkiifaaGreatDoor
/- query: the bounds of a selector; seneschalkeep.strange. -/
namespace Go.Proofs.YtlbolbkikkiifaaGreatDoor
open Go.RowKit

theorem le_sum {x : Nat} : ∀ {l : List Nat}, x ∈ l → x ≤ l.sum
  | a :: r, h => by
    rw [List.sum_cons]
    rcases List.mem_cons.1 h with rfl | h
    · omega
    · have := le_sum h; omega
theorem okReq_of {r : GReq} (h : reqB r ≤ 1048576) : okReq r := by
  unfold reqB at h
  have h1 := total_length r.vals
  refine ⟨by omega, by omega, fun x hx => ?_⟩
  have := total_mem hx
  omega
theorem Tryz.infoReq : (Tryz.prog.info? 26).map (fun i => (i.zero, i.size, i.bytes)) = some (some (.agg #[.string ByteArray.empty, .int .i64 0, .slice none 0 0]), 3, 48) := by kernel_rfl
theorem one_req : OneR ReqR := fun w cs x h u hu => by
  obtain ⟨v2, rfl, _, h2⟩ := h
  obtain ⟨ao, c, rfl, _, _⟩ := h2.row.len
  simp only [List.mem_cons, List.not_mem_nil, or_false] at hu
  rcases hu with rfl | rfl | rfl <;> rfl
theorem okReqs_of {l : List GReq} (h : (l.map reqB).sum ≤ 1048576) : (∀ x ∈ l, okReq x) ∧ l.length ≤ 1048576 :=
  ⟨fun x hx => okReq_of (Nat.le_trans (le_sum (List.mem_map_of_mem hx)) h), Nat.le_trans (sum_ge_length reqB (fun x => by unfold reqB; omega) l) h⟩
set_option maxRecDepth 100000 in
theorem strange_any (m : Int) (w : World) (hm : MaxOK m w) :
    Calls Tryz.prog 7 #[] w fun e w' => e = .returned (.bool true) ∧ Below w.heap.size w w' := by
  have Hm := Lib.hid hm
  clear hm
  have hr : reqsE [⟨ByteArray.empty, 0, []⟩] = 6 := (reqsE_one _).trans reqE_empty
  go_enter Tryz.func7, Tryz.ntmps7
  go_wp2_with fail
  obtain ⟨w1, hw1⟩ : ∃ w1, w1 = w.alloc (.cells #[.string ⟨#[]⟩, .int .i64 0, .slice none 0 0] 26) := ⟨_, rfl⟩
  have b1 : w1.heap[w.heap.size]? = some (.cells #[.string ⟨#[]⟩, .int .i64 0, .slice none 0 0] 26 (0, 0)) := by rw [hw1]; exact heap_alloc_new w _
  have hb1 : Below w.heap.size w w1 := by rw [hw1]; exact (Below.refl _ _).alloc (Nat.le_refl _) _
  rw [← hw1]
  have hR : ReqR w1 [.string ⟨#[]⟩, .int .i64 0, .slice none 0 0] ⟨ByteArray.empty, 0, []⟩ := ⟨.slice none 0 0, rfl, by decide, StrAt.nil _⟩
  refine (checks_any _ [⟨ByteArray.empty, 0, []⟩] m w1 (RowAt.one b1 rfl hR) (by simp) (fun r hr => by
    rw [List.mem_singleton.1 hr]
    exact ⟨by decide, by decide, fun x hx => by cases hx⟩) (Hm.out.below hb1)).mono ?_
  rw [hr]
  rintro E w2 ⟨rfl, hb2⟩
  have Hb2 := Lib.hid (hb1.trans (hb2.mono hb1.size))
  clear hb1 hb2 hw1 b1 hR
  go_wp2_with fail
  go_ret
  exact ⟨rfl, Hb2.out⟩
end Go.Proofs.YtlbolbkikkiifaaGreatDoor
/- query: Parse. -/
namespace Go.Proofs.YtlbolbkikkiifaaGreatDoor
open Go.RowKit
open QP

theorem listF_ok {m : Nat} : ∀ (n : Nat) (r : List UInt8) (out : List ByteArray) (x : List ByteArray × List UInt8), listF n r out = some x → (∀ v ∈ out, v.size ≤ m) → r.length ≤ m → (∀ v ∈ x.1, v.size ≤ m) ∧ x.1.length ≤ out.length + n ∧ x.2.length ≤ r.length
  | 0, _, _, _, h, _, _ => by cases h
  | n + 1, r, out, x, h, ho, hr => by
    have hE := wordE_len r
    have ho2 : ∀ v ∈ out ++ [wordS r], v.size ≤ m := fun v hv => by
      rcases List.mem_append.1 hv with h1 | h1
      · exact ho v h1
      · rw [List.mem_singleton.1 h1]; exact Nat.le_trans (wordS_size r) hr
    unfold listF at h
    by_cases h1 : headIs 44 (wordE r) = true
    · rw [if_pos h1] at h
      have htl := tail_len h1
      obtain ⟨a, b, c⟩ := listF_ok n _ _ x h ho2 (by omega)
      rw [List.length_append, List.length_singleton] at b
      exact ⟨a, by omega, by omega⟩
    · rw [if_neg h1] at h
      by_cases h2 : headIs 41 (wordE r) = true
      · rw [if_pos h2] at h
        have htl := tail_len h2
        have hsk := skip_len (wordE r).tail
        cases h
        exact ⟨ho2, by rw [List.length_append, List.length_singleton]; omega, by show (skipB (wordE r).tail).length ≤ _; omega⟩
      · rw [if_neg h2] at h; cases h
theorem tail_le (r : List UInt8) : r.tail.length ≤ r.length := by rw [List.length_tail]; omega
theorem choiceP_ok {key : ByteArray} {r : List UInt8} {x : GReq × List UInt8} (h : choiceP key r = some x) (hk : key.size ≤ 300) (hr : r.length ≤ 300) : okReq x.1 ∧ x.2.length ≤ r.length := by
  have hE := wordE_len r
  unfold choiceP at h
  split at h
  · cases h
  · split at h
    · cases h
    · cases hL : listP (wordE r) with
      | none => rw [hL] at h; cases h
      | some y =>
        rw [hL] at h
        cases h
        unfold listP at hL
        split at hL
        · have h1 := skip_len (wordE r)
          have h2 := tail_le (skipB (wordE r))
          obtain ⟨a, b, c⟩ := listF_ok (m := 300) _ _ _ y hL (fun v hv => by cases hv) (by omega)
          rw [List.length_nil] at b
          exact ⟨⟨by show key.size ≤ _; omega, by show y.1.length ≤ _; omega, fun v hv => by have := a v hv; omega⟩, by show y.2.length ≤ _; omega⟩
        · cases hL
theorem keyP_ok {r : List UInt8} {x : GReq × List UInt8} (h : keyP r = some x) (hr : r.length ≤ 300) : okReq x.1 ∧ x.2.length ≤ r.length := by
  have hE := wordE_len r
  have hS := wordS_size r
  have one : ∀ (kd : Int) (q : List UInt8), q.length ≤ r.length → okReq ⟨wordS r, kd, [wordS q]⟩ ∧ (wordE q).length ≤ r.length := fun kd q hq => by
    have h1 := wordS_size q
    have h2 := wordE_len q
    refine ⟨⟨by show (wordS r).size ≤ _; omega, by show (1 : Nat) ≤ _; omega, fun v hv => ?_⟩, by omega⟩
    rw [List.mem_singleton.1 hv]; omega
  have t1 := tail_le (wordE r)
  have t2 := tail_le (wordE r).tail
  unfold keyP at h
  split at h
  · cases h
    exact ⟨⟨by show (wordS r).size ≤ _; omega, by show (0 : Nat) ≤ _; omega, fun v hv => by cases hv⟩, hE⟩
  · split at h
    · cases h; exact one _ _ (by omega)
    · split at h
      · cases h; exact one _ _ (by omega)
      · split at h
        · cases h; exact one _ _ (by omega)
        · split at h
          · obtain ⟨a, b⟩ := choiceP_ok h (by omega) (by omega)
            exact ⟨a, by omega⟩
          · cases h
theorem partP_ok {r : List UInt8} {x : GReq × List UInt8} (h : partP r = some x) (hr : r.length ≤ 300) : okReq x.1 ∧ x.2.length ≤ r.length := by
  have hs := skip_len r
  have ht := tail_le (skipB r)
  unfold partP at h
  split at h
  · cases h
    have h1 := wordS_size (skipB r).tail
    have h2 := wordE_len (skipB r).tail
    exact ⟨⟨by show (wordS (skipB r).tail).size ≤ _; omega, by show (0 : Nat) ≤ _; omega, fun v hv => by cases hv⟩, by show (wordE (skipB r).tail).length ≤ _; omega⟩
  · obtain ⟨a, b⟩ := keyP_ok h (by omega)
    exact ⟨a, by omega⟩

/-- a part whose values lie in memory of the call's own -/
def ReqO (B : Nat) : Rd GReq := fun w cs x => ∃ v2, cs = [.string x.key, .int .i64 x.kind, v2] ∧ (1 ≤ x.kind ∧ x.kind ≤ 4) ∧ OwnAt RString 1 w B 9 v2 x.vals
theorem reqO_but {B g : Nat} {w w' : World} {cs : List Value} {x : GReq} (h : ReqO B w cs x) (hb : But g w w') (hg : g < B) : ReqO B w' cs x := by
  obtain ⟨v2, h1, h2, h3⟩ := h
  exact ⟨v2, h1, h2, h3.butLow flat_string hb hg⟩
theorem own_but {B g : Nat} {w w' : World} {v : Value} {l : List GReq} (h : OwnAt (ReqO B) 3 w B 26 v l) (hb : But g w w') (hg : g < B) : OwnAt (ReqO B) 3 w' B 26 v l := by
  obtain ⟨css, h1, h2, h3, h4⟩ := h
  refine ⟨css, h1, h2, ⟨h3.1, ?_⟩, fun j cs y hcs hy => reqO_but (h4 j cs y hcs hy) hb hg⟩
  rcases h3.2 with h5 | ⟨q, cap, cur, rfl, hB, hh, hr⟩
  · exact .inl h5
  · exact .inr ⟨q, cap, cur, rfl, hB, hb.keep hh (by omega), hr⟩
theorem reqO_staysX (B : Nat) : StaysX 26 (ReqO B) := fun w w' cs x hs ⟨v2, h1, h2, h3⟩ => by
  refine ⟨v2, h1, h2, ?_⟩
  obtain ⟨css, k1, k2, k3, k4⟩ := h3
  refine ⟨css, k1, k2, ⟨k3.1, ?_⟩, fun j cs y hcs hy => k4 j cs y hcs hy⟩
  rcases k3.2 with h5 | ⟨q, cap, cur, hv, hB, hh, hr⟩
  · exact .inl h5
  · exact .inr ⟨q, cap, cur, hv, hB, hs _ _ _ _ hh (by decide), hr⟩
theorem reqO_one (B : Nat) : OneR (ReqO B) := fun w cs x ⟨v2, h1, _, h3⟩ u hu => by
  obtain ⟨a, c, hv, _, _⟩ := h3.row.len
  rw [h1, hv] at hu
  simp at hu
  rcases hu with rfl | rfl | rfl <;> rfl
theorem reqO_req {B : Nat} {w : World} {cs : List Value} {x : GReq} (h : ReqO B w cs x) : ReqR w cs x := by
  obtain ⟨v2, h1, h2, h3⟩ := h
  refine ⟨v2, h1, ?_, h3.row.strs⟩
  have : x.kind = 1 ∨ x.kind = 2 ∨ x.kind = 3 ∨ x.kind = 4 := by omega
  rcases this with h | h | h | h <;> (rw [h]; decide)
theorem row_map {α : Type} {R R' : Rd α} {k : Nat} {w : World} {v : Value} {l : List α} (h : RowAt R k w v l) (hm : ∀ cs x, R w cs x → R' w cs x) : RowAt R' k w v l := by
  rcases h with h | ⟨a, c, h1, h2, h3, h4⟩
  · exact .inl h
  · exact .inr ⟨a, c, h1, h2, h3, fun j x hx => by
      obtain ⟨cs, g1, g2, g3⟩ := h4 j x hx
      exact ⟨cs, g1, g2, hm _ _ g3⟩⟩
def ParseAt (s : ByteArray) (w : World) (E : Ending) (w' : World) : Prop :=
  ∃ v, E = .returned (.tuple #[v, .int .i64 (parseL s.data.toList).2]) ∧ RowAt ReqR 3 w' v (parseL s.data.toList).1 ∧ Below w.heap.size w w'
theorem parse_end {s : ByteArray} {w w' : World} {v : Value} {l : List GReq} {e : Int} (h : parseL s.data.toList = (l, e)) (hr : RowAt ReqR 3 w' v l) (hb : Below w.heap.size w w') : ParseAt s w (.returned (.tuple #[v, .int .i64 e])) w' := by
  unfold ParseAt
  rw [h]
  exact ⟨v, rfl, hr, hb⟩
end Go.Proofs.YtlbolbkikkiifaaGreatDoor
/- query.Parse: its contract. -/
namespace Go.Proofs.YtlbolbkikkiifaaGreatDoor
open Go.RowKit
open QP

set_option maxRecDepth 100000 in
set_option maxHeartbeats 6400000 in
theorem parse_any (s : ByteArray) (m : Int) (w : World) (hs : s.size ≤ 1048576) (hm : MaxOK m w) :
    Calls Tryz.prog 16 #[.string s] w (ParseAt s w) := by
  obtain ⟨i0, hi0, hz0, hz1, hz2⟩ := info_parts Tryz.infoReq
  have hl : s.data.toList.length = s.size := by simp
  have Hend := fun {w' v l e} => Lib.hid (parse_end (s := s) (w := w) (w' := w') (v := v) (l := l) (e := e))
  obtain ⟨L, HL⟩ : ∃ L, Hid (parseL s.data.toList = L) := ⟨_, Lib.hid rfl⟩
  have HL1 : Hid ((if 300 < s.size then (([] : List GReq), (2 : Int)) else if skipB s.data.toList = [] then ([], 0) else match parseF 400 (skipB s.data.toList) [] with
    | none => ([], 3)
    | some l => if reqsE l = 0 then (l, 0) else ([], reqsE l)) = L) := Lib.hid (by rw [← HL.out, ← hl]; rfl)
  have Hm := Lib.hid hm
  clear hm hl
  by_cases h3 : 300 < s.size
  · have q0 : (300 : Int) < (s.size : Int) := by omega
    have HL2 : Hid (parseL s.data.toList = ([], 2)) := Lib.hid (by rw [HL.out, ← HL1.out, if_pos h3])
    clear h3 HL1 HL
    go_enter Tryz.func16, Tryz.ntmps16
    go_wp2_with fail
    go_ret2
    exact Hend.out HL2.out (RowAt.nil _) (Below.refl _ _)
  · have q0 : ¬ (300 : Int) < (s.size : Int) := by omega
    have HL2 : Hid ((if skipB s.data.toList = [] then (([] : List GReq), (0 : Int)) else match parseF 400 (skipB s.data.toList) [] with
      | none => ([], 3)
      | some l => if reqsE l = 0 then (l, 0) else ([], reqsE l)) = L) := Lib.hid (by rw [← HL1.out, if_neg h3])
    have hs3 : s.size ≤ 300 := by omega
    clear h3 HL1
    obtain ⟨W1, hW⟩ : ∃ W1, W1 = w.alloc (.cells #[.string s, .int .i64 0, .bool false] 72) := ⟨_, rfl⟩
    obtain ⟨g, hg⟩ : ∃ g, g = w.heap.size := ⟨_, rfl⟩
    have b1 : W1.heap[g]? = some (.cells #[.string s, .int .i64 0, .bool false] 72 (0, 0)) := by rw [hW, hg]; exact heap_alloc_new w _
    have hb1 : Below w.heap.size w W1 := by rw [hW]; exact (Below.refl _ w).alloc (Nat.le_refl _) _
    have HP1 : Hid (Par g s false s.data.toList W1) := Lib.hid ⟨0, Nat.zero_le _, rfl, b1⟩
    have hgw : w.heap.size ≤ g := by omega
    have hs1 : W1.heap.size = g + 1 := by rw [hW, hg, World.size_alloc]
    have Hb1 := Lib.hid hb1
    clear b1 hb1
    go_enter Tryz.func16, Tryz.ntmps16
    go_upto_region 4 with fail
    rw [← hW, ← hg]
    clear hW hg
    go_wp2_with fail
    refine (blanks_any g s false _ W1 HP1.out (by omega)).mono ?_
    rintro E w2 ⟨rfl, ⟨a, ha, hr, hp⟩, hb⟩
    have HA2 := Lib.hid hp
    have HB2 := Lib.hid hb
    have Hr := Lib.hid hr
    have HOv := Lib.hid (over_any g s false a w2 hp ha (by omega))
    clear hp hb hr HP1
    obtain ⟨R, HR⟩ : ∃ R, Hid (skipB s.data.toList = R) := ⟨_, Lib.hid rfl⟩
    rw [HR.out] at HL2 Hr
    go_wp2_with fail
    refine HOv.out.mono ?_
    rintro E w3 ⟨rfl, nd, rfl⟩
    by_cases hR0 : a = s.size
    · have q1 : decide (a = s.size) = true := decide_eq_true hR0
      have HL3 : Hid (parseL s.data.toList = ([], 0)) := Lib.hid (by rw [HL.out, ← HL2.out, if_pos (by rw [← Hr.out]; exact drop_end (by omega))])
      rw [q1]
      clear q1 HOv
      go_wp2_with fail
      go_ret2
      exact Hend.out HL3.out (RowAt.nil _) (((HB2.out.drew _).below Hb1.out (by omega) hgw))
    · have q1 : decide (a = s.size) = false := decide_eq_false hR0
      have HL3 : Hid ((match parseF 400 R [] with
        | none => (([] : List GReq), (3 : Int))
        | some l => if reqsE l = 0 then (l, 0) else ([], reqsE l)) = L) := Lib.hid (by
        rw [← HL2.out, if_neg]
        rw [← Hr.out, drop_at (by omega)]
        simp)
      obtain ⟨K, HK⟩ : ∃ K, Hid (parseF 400 R [] = K) := ⟨_, Lib.hid rfl⟩
      rw [HK.out] at HL3
      have HP3 : Hid (Par g s false R (w2.drewN nd)) := Lib.hid ⟨a, ha, Hr.out, HA2.out⟩
      have HB3 : Hid (But g W1 (w2.drewN nd)) := Lib.hid (HB2.out.drew _)
      have hRl := HP3.out.len
      rw [q1]
      clear q1 HOv HL2 HA2 HB2 Hr hR0
      go_wp2_with fail
      go_loopg [5] 400 (fun k u5 wr => ∃ (q : List UInt8) (out : List GReq), out.length + k = 400 ∧ q.length < k ∧ Hid (OwnAt (ReqO (g + 1)) 3 wr (g + 1) 26 u5 out) ∧ Hid (∀ x ∈ out, okReq x) ∧ Hid (Par g s false q wr) ∧ Hid (parseF k q out = K) ∧ Hid (But g W1 wr))
      case atStart => exact ⟨R, [], rfl, by omega, Lib.hid (OwnAt.nil _), Lib.hid (fun x hx => by cases hx), HP3, HK, HB3⟩
      case round =>
        obtain ⟨q, out, hok, hqk, Hout, Hok, HP, HKk, HB⟩ := hrel
        cases gk with
        | zero => omega
        | succ k =>
          have hol : out.length + 1 ≤ 400 := by omega
          have hqs := HP.out.len
          have hHB := HB.out.size
          go_wp2_with fail
          refine (part_any g s q wr HP.out hs3).mono ?_
          rintro E w4 ⟨x, v2, rfl, hk, hown, htold, hb⟩
          obtain ⟨av, cv, rfl, _, _⟩ := hown.row.len
          have hw4 := hb.size
          have Hx : Hid (ReqO (g + 1) (w4.alloc (.cells #[.string x.key, .int .i64 x.kind, .slice av x.vals.length cv] 26)) [.string x.key, .int .i64 x.kind, .slice av x.vals.length cv] x) :=
            Lib.hid ⟨_, rfl, hk, (hown.mono (by omega)).below stays_string ((Below.refl _ _).alloc (Nat.le_refl _) _)⟩
          have Hout4 := Lib.hid ((own_but Hout.out hb (Nat.lt_succ_self g)).belowX (reqO_staysX _) ((Below.refl _ w4).alloc (Nat.le_refl _) (.cells #[.string x.key, .int .i64 x.kind, .slice av x.vals.length cv] 26)))
          have Htold := Lib.hid htold
          have HB4 := Lib.hid (HB.out.trans hb)
          clear hown htold hb hk
          go_wp2_with (at_builtin; refine wpList_append_ownAtX (R := ReqO (g + 1)) (k := 3) (e := 26) (B := g + 1) (l := out) (m := [x]) _ (by rfl) _ _ _ (by rfl) i0 _ 48 Tryz.underlying22 hi0 hz0 hz1 hz2 rfl (by omega) (reqO_staysX _) (reqO_one _) _ (by rfl) Hout4.out (.slice (some ⟨w4.heap.size, 0, none⟩) 1 1) (by rfl) (RowAt.one (R := ReqO (g + 1)) (k := 3) (cs := #[.string x.key, .int .i64 x.kind, .slice av x.vals.length cv]) (heap_alloc_new w4 _) rfl Hx.out) (by unfold maxLen; simp; omega) (by simp; omega) (by simp; omega) ?_)
          intro v' w5 hv' hg hr _
          have hb5 : Below (g + 1) w4 w5 := below_of_grown ((Below.refl _ w4).alloc (by omega) _) (by simp; omega) hg hr
          have Hv := Lib.hid hv'
          have HB5 : Hid (But g W1 w5) := Lib.hid (HB4.out.thenBelow (by rw [hs1]; exact hb5))
          have Hb5 := Lib.hid hb5
          clear hv' hg hr hb5
          have HKk2 : Hid ((match partP q with
            | none => none
            | some x => if x.2 = [] then some (out ++ [x.1]) else if headIs 44 x.2 = true then parseF k x.2.tail (out ++ [x.1]) else none) = K) := Lib.hid (by rw [← HKk.out]; rfl)
          cases hpq : partP q with
          | none =>
            have ht := Htold.out
            have hk2 := HKk2.out
            rw [hpq] at ht hk2
            obtain ⟨r', hr'⟩ := ht
            obtain ⟨p2, pz⟩ := par_cells (hr'.below Hb5.out (Nat.lt_succ_self g))
            have HLn : Hid (parseL s.data.toList = ([], 3)) := Lib.hid (by rw [HL.out, ← HL3.out, ← hk2])
            clear hk2 hr' hpq
            go_wp2_with fail
            go_ret2
            exact Hend.out HLn.out (RowAt.nil _) (HB5.out.below Hb1.out (by omega) hgw)
          | some y =>
            have ht := Htold.out
            have hk2 := HKk2.out
            rw [hpq] at ht hk2
            dsimp only at hk2
            obtain ⟨hxy, hpy⟩ := ht
            have hp5 := hpy.below Hb5.out (Nat.lt_succ_self g)
            obtain ⟨hoky, hly⟩ := partP_ok hpq (by omega)
            rw [← hxy] at hoky hk2
            obtain ⟨p2, pz⟩ := par_cells hp5
            have Hok2 : Hid (∀ z ∈ out ++ [x], okReq z) := Lib.hid (fun z hz => by
              rcases List.mem_append.1 hz with h | h
              · exact Hok.out z h
              · rw [List.mem_singleton.1 h]; exact hoky)
            obtain ⟨q2, hq2⟩ : ∃ q2, y.2 = q2 := ⟨_, rfl⟩
            rw [hq2] at hp5 hk2 hly
            have HP5 := Lib.hid hp5
            obtain ⟨b, hb1, hb2, hb3⟩ := hp5
            have HOv := Lib.hid (over_any g s false b w5 hb3 hb1 (by omega))
            have Hb2 := Lib.hid hb2
            have HK2 := Lib.hid hk2
            clear hxy hpy hoky hpq hq2 hb2 hb3 hk2 HKk2 Htold
            have hlen2 : (out ++ [x]).length = out.length + 1 := by simp
            obtain ⟨o2, Ho2⟩ : ∃ o2, Hid (out ++ [x] = o2) := ⟨_, Lib.hid rfl⟩
            rw [Ho2.out] at Hok2 Hv HK2 hlen2
            go_wp2_with fail
            refine HOv.out.mono ?_
            rintro E w6 ⟨rfl, nd, rfl⟩
            by_cases hov : b = s.size
            · have q1 : decide (b = s.size) = true := decide_eq_true hov
              have HLs : Hid ((if reqsE o2 = 0 then (o2, 0) else ([], reqsE o2)) = parseL s.data.toList) := Lib.hid (by
                have h9 := HK2.out
                rw [if_pos (by rw [← Hb2.out]; exact drop_end (by omega))] at h9
                rw [HL.out, ← HL3.out, ← h9])
              have HB6 : Hid (Below w.heap.size w (w5.drewN nd)) := Lib.hid ((HB5.out.drew _).below Hb1.out (by omega) hgw)
              have Hrow : Hid (RowAt ReqR 3 (w5.drewN nd) v' o2) := Lib.hid (row_map (show RowAt (ReqO (g + 1)) 3 (w5.drewN nd) v' o2 from Hv.out.row) fun cs z hz => reqO_req hz)
              rw [q1]
              clear q1 hov HOv HK2 p2 pz
              go_wp2_with fail
              refine (checks_any v' o2 m (w5.drewN nd) Hrow.out (by omega) Hok2.out (Hm.out.below HB6.out)).mono ?_
              rintro E w7 ⟨rfl, hb7⟩
              have HB7 := Lib.hid (HB6.out.trans (hb7.mono HB6.out.size))
              have Hrow7 := Lib.hid (Hrow.out.below stays_req hb7)
              obtain ⟨rE, HrE⟩ : ∃ rE, Hid (reqsE o2 = rE) := ⟨_, Lib.hid rfl⟩
              rw [HrE.out] at HLs ⊢
              clear hb7
              by_cases hr0 : rE = 0
              · subst hr0
                have HLf : Hid (parseL s.data.toList = (o2, 0)) := Lib.hid (by rw [← HLs.out, if_pos rfl])
                go_wp2_with fail
                go_ret2
                exact Hend.out HLf.out Hrow7.out HB7.out
              · have q3 : (rE == 0) = false := by rw [beq_eq_false_iff_ne]; exact hr0
                have q4 : (rE != 0) = true := by rw [bne_iff_ne]; exact hr0
                have HLf : Hid (parseL s.data.toList = ([], rE)) := Lib.hid (by rw [← HLs.out, if_neg hr0])
                clear hr0
                go_wp2_with fail
                go_ret2
                exact Hend.out HLf.out (RowAt.nil _) HB7.out
            · have q1 : decide (b = s.size) = false := decide_eq_false hov
              have HK3 : Hid ((if headIs 44 q2 = true then parseF k q2.tail o2 else none) = K) := Lib.hid (by
                have h9 : q2 ≠ [] := by
                  rw [← Hb2.out, drop_at (by omega)]
                  simp
                rw [← HK2.out, if_neg h9])
              have HP6 : Hid (Par g s false q2 (w5.drewN nd)) := HP5
              have HB6 : Hid (But g W1 (w5.drewN nd)) := Lib.hid (HB5.out.drew _)
              have p6 : (w5.drewN nd).cell? ⟨g, 2, none⟩ = some (.bool false) := p2
              rw [q1]
              clear q1 hov HOv HK2 Hb2
              go_wp2_with fail
              refine (has1_any g s false q2 44 (w5.drewN nd) HP6.out (by omega)).mono ?_
              rintro E w7 ⟨rfl, hp, hb⟩
              have HB7 := Lib.hid (HB6.out.trans hb)
              have Hv7 : Hid (OwnAt (ReqO (g + 1)) 3 w7 (g + 1) 26 v' o2) := Lib.hid (own_but (show OwnAt (ReqO (g + 1)) 3 (w5.drewN nd) (g + 1) 26 v' o2 from Hv.out) hb (Nat.lt_succ_self g))
              cases h44 : headIs 44 q2 with
              | true =>
                rw [h44, if_pos rfl] at hp
                have HP7 := Lib.hid hp
                have HK4 : Hid (parseF k q2.tail o2 = K) := Lib.hid (by rw [← HK3.out, h44, if_pos rfl])
                have htl := tail_len h44
                clear hp hb HK3
                go_wp2_with fail
                go_roundg k
                case measure => omega
                case rel => exact ⟨q2.tail, o2, by omega, by omega, Hv7, Hok2, HP7, HK4, HB7⟩
              | false =>
                have HLn : Hid (parseL s.data.toList = ([], 3)) := Lib.hid (by
                  have h9 := HK3.out
                  rw [h44, if_neg (by simp)] at h9
                  rw [HL.out, ← HL3.out, ← h9])
                clear hp hb HK3
                go_wp2_with fail
                go_ret2
                exact Hend.out HLn.out (RowAt.nil _) (HB7.out.below Hb1.out (by omega) hgw)
end Go.Proofs.YtlbolbkikkiifaaGreatDoor
/- slices.IndexFunc and slices.ContainsFunc: for whatever function value that answers a plain predicate. -/
namespace Go.Proofs.YtlbolbkikkiifaaGreatDoor
open Go.RowKit

/-- the first one that is so -/
def FirstAt {α : Type} (l : List α) (p : α → Bool) (w : World) (e : Ending) (w' : World) : Prop :=
  ∃ n : Int, e = .returned (.int .i64 n) ∧ ((n = -1 ∧ l.find? p = none) ∨ ∃ (i : Nat) (x : α), n = (i : Int) ∧ l[i]? = some x ∧ l.find? p = some x ∧ ∀ y ∈ l.take i, p y = false) ∧ Below w.heap.size w w'
theorem find_at {α : Type} {l : List α} {p : α → Bool} {i : Nat} {x : α} (h : l[i]? = some x) (hp : p x = true) (hn : ∀ y ∈ l.take i, p y = false) : l.find? p = some x := by
  have hi := (List.getElem?_eq_some_iff.1 h).1
  have he := (List.getElem?_eq_some_iff.1 h).2
  have h1 : l = l.take i ++ x :: l.drop (i + 1) := by rw [← he, ← List.drop_eq_getElem_cons hi, List.take_append_drop]
  rw [h1, List.find?_append, List.find?_eq_none.2 (fun y hy => by rw [hn y hy]; simp)]
  simp [hp]
set_option maxRecDepth 100000 in
set_option maxHeartbeats 800000 in
theorem idxLabel_any {f : FuncId} {cap : Value} {Cap : World → Prop} {p : GLabel → Bool} {OK : GLabel → Prop} (enter : ∀ (a : Array Value) (w : World), (callFunc f a).run Tryz.prog w = .ok (.enter f a) w)
    (keepC : ∀ w w' : World, Cap w → Below w.heap.size w w' → Cap w')
    (clo : ∀ (x : GLabel) (w : World), LabelR w [.string x.key, .string x.val] x → OK x → Cap w → Calls Tryz.prog f #[.agg #[.string x.key, .string x.val], cap] w fun e w' => e = .returned (.bool (p x)) ∧ Below w.heap.size w w')
    (v : Value) (l : List GLabel) (w : World) (h : RowAt LabelR 2 w v l) (hl : l.length ≤ 1073741824) (hok : ∀ x ∈ l, OK x) (hc : Cap w) : Calls Tryz.prog 76 #[v, .func (.func f) #[] #[cap]] w (FirstAt l p w) := by
  obtain ⟨a1, c1, rfl, _, _⟩ := h.len
  have H := Lib.hid h
  have Hc := Lib.hid hc
  have HC := Lib.hid clo
  have HK := Lib.hid keepC
  have Hok := Lib.hid hok
  have ep := enter
  clear h hc clo keepC enter hok
  go_enter Tryz.func76, Tryz.ntmps76
  go_wp2_with fail
  go_loopg [8] l.length (fun g u8 wr => ∃ i : Nat, i + g = l.length ∧ u8 = .int .i64 (i : Int) ∧ Hid (∀ x ∈ l.take i, p x = false) ∧ Hid (Cap wr) ∧ Below w.heap.size w wr)
  case atStart => exact ⟨0, by omega, rfl, Lib.hid (fun x hx => by simp at hx), Hc, Below.refl _ _⟩
  case round =>
    obtain ⟨i, hig, rfl, Hall, Hcr, hbel⟩ := hrel
    cases gk with
    | zero =>
      obtain rfl : i = l.length := by omega
      have Hany : Hid (l.find? p = none) := Lib.hid (List.find?_eq_none.2 fun x hx => by rw [Hall.out x (by rw [List.take_length]; exact hx)]; simp)
      have Hbel := Lib.hid hbel
      clear hbel
      go_wp2_with fail
      go_ret
      exact ⟨-1, rfl, .inl ⟨rfl, Hany.out⟩, Hbel.out⟩
    | succ g =>
      have hil : i < l.length := by omega
      obtain ⟨x, hxi⟩ : ∃ x, l[i]? = some x := ⟨l[i]'(by omega), List.getElem?_eq_getElem _⟩
      obtain ⟨b, o, c', hv, _, _, hbs, hcell⟩ := H.out.form (by omega) (by omega)
      cases hv
      obtain ⟨ds, _, hcc, hR⟩ := hcell i x hxi
      have hR2 := hR
      obtain rfl : ds = [.string x.key, .string x.val] := by first | exact hR | exact hR.1
      have HR := Lib.hid (stays_label _ _ _ _ (keeps_below hbel) hR2)
      have e0 : wr.cell? ⟨b, o + i * 2, none⟩ = some (.string x.key) := (hbel.cell (p := ⟨b, _, none⟩) hbs).trans (by simpa using hcc 0 _ rfl)
      have e1 : wr.cell? ⟨b, o + i * 2 + 1, none⟩ = some (.string x.val) := (hbel.cell (p := ⟨b, _, none⟩) hbs).trans (hcc 1 _ rfl)
      have q1 : (0 : Int) ≤ (i : Int) := by omega
      have q2 : (i : Int) < (l.length : Int) := by omega
      have Hbel := Lib.hid hbel
      have hs0 := hbel.size
      have Hxi := Lib.hid hxi
      clear hcc hcell hbel hR2 hxi
      obtain ⟨pb, Hpb⟩ : ∃ pb, Hid (p x = pb) := ⟨_, Lib.hid rfl⟩
      go_wp2_with fail
      refine (HC.out x  wr HR.out (Hok.out x (List.mem_of_getElem? Hxi.out)) Hcr.out).mono ?_
      rintro E w1 ⟨rfl, hb1⟩
      rw [Hpb.out]
      have Hb1 := Lib.hid (Hbel.out.trans (hb1.mono hs0))
      have Hc1 := Lib.hid (HK.out _ _ Hcr.out hb1)
      clear hb1 e0 e1
      cases pb with
      | true =>
        have Hany : Hid (l.find? p = some x) := Lib.hid (find_at Hxi.out Hpb.out Hall.out)
        go_wp2_with fail
        go_ret
        exact ⟨_, rfl, .inr ⟨i, x, rfl, Hxi.out, Hany.out, Hall.out⟩, Hb1.out⟩
      | false =>
        have Hall2 : Hid (∀ x ∈ l.take (i + 1), p x = false) := Lib.hid fun y hy => by
          rw [List.take_add_one, Hxi.out] at hy
          rcases List.mem_append.1 hy with h | h
          · exact Hall.out y h
          · have h9 : y = x := by simpa using h
            rw [h9]; exact Hpb.out
        go_wp2_with fail
        go_roundg g
        case measure => omega
        case rel => exact ⟨i + 1, by omega, by go_num, Hall2, Hc1, Hb1.out⟩
end Go.Proofs.YtlbolbkikkiifaaGreatDoor
/- slices.IndexFunc and slices.ContainsFunc: for whatever function value that answers a plain predicate. -/
namespace Go.Proofs.YtlbolbkikkiifaaGreatDoor
open Go.RowKit

set_option maxRecDepth 100000 in
set_option maxHeartbeats 800000 in
theorem idxReq_any {f : FuncId} {cap : Value} {Cap : World → Prop} {p : GReq → Bool} {OK : GReq → Prop} (enter : ∀ (a : Array Value) (w : World), (callFunc f a).run Tryz.prog w = .ok (.enter f a) w)
    (keepC : ∀ w w' : World, Cap w → Below w.heap.size w w' → Cap w')
    (clo : ∀ (x : GReq) (y2 : Value) (w : World), ReqR w [.string x.key, .int .i64 x.kind, y2] x → OK x → Cap w → Calls Tryz.prog f #[.agg #[.string x.key, .int .i64 x.kind, y2], cap] w fun e w' => e = .returned (.bool (p x)) ∧ Below w.heap.size w w')
    (v : Value) (l : List GReq) (w : World) (h : RowAt ReqR 3 w v l) (hl : l.length ≤ 1073741824) (hok : ∀ x ∈ l, OK x) (hc : Cap w) : Calls Tryz.prog 84 #[v, .func (.func f) #[] #[cap]] w (FirstAt l p w) := by
  obtain ⟨a1, c1, rfl, _, _⟩ := h.len
  have H := Lib.hid h
  have Hc := Lib.hid hc
  have HC := Lib.hid clo
  have HK := Lib.hid keepC
  have Hok := Lib.hid hok
  have ep := enter
  clear h hc clo keepC enter hok
  go_enter Tryz.func84, Tryz.ntmps84
  go_wp2_with fail
  go_loopg [8] l.length (fun g u8 wr => ∃ i : Nat, i + g = l.length ∧ u8 = .int .i64 (i : Int) ∧ Hid (∀ x ∈ l.take i, p x = false) ∧ Hid (Cap wr) ∧ Below w.heap.size w wr)
  case atStart => exact ⟨0, by omega, rfl, Lib.hid (fun x hx => by simp at hx), Hc, Below.refl _ _⟩
  case round =>
    obtain ⟨i, hig, rfl, Hall, Hcr, hbel⟩ := hrel
    cases gk with
    | zero =>
      obtain rfl : i = l.length := by omega
      have Hany : Hid (l.find? p = none) := Lib.hid (List.find?_eq_none.2 fun x hx => by rw [Hall.out x (by rw [List.take_length]; exact hx)]; simp)
      have Hbel := Lib.hid hbel
      clear hbel
      go_wp2_with fail
      go_ret
      exact ⟨-1, rfl, .inl ⟨rfl, Hany.out⟩, Hbel.out⟩
    | succ g =>
      have hil : i < l.length := by omega
      obtain ⟨x, hxi⟩ : ∃ x, l[i]? = some x := ⟨l[i]'(by omega), List.getElem?_eq_getElem _⟩
      obtain ⟨b, o, c', hv, _, _, hbs, hcell⟩ := H.out.form (by omega) (by omega)
      cases hv
      obtain ⟨ds, _, hcc, hR⟩ := hcell i x hxi
      have hR2 := hR
      obtain ⟨y2, rfl, _⟩ := hR
      have HR := Lib.hid (stays_req _ _ _ _ (keeps_below hbel) hR2)
      have e0 : wr.cell? ⟨b, o + i * 3, none⟩ = some (.string x.key) := (hbel.cell (p := ⟨b, _, none⟩) hbs).trans (by simpa using hcc 0 _ rfl)
      have e1 : wr.cell? ⟨b, o + i * 3 + 1, none⟩ = some (.int .i64 x.kind) := (hbel.cell (p := ⟨b, _, none⟩) hbs).trans (hcc 1 _ rfl)
      have e2 : wr.cell? ⟨b, o + i * 3 + 2, none⟩ = some (y2) := (hbel.cell (p := ⟨b, _, none⟩) hbs).trans (hcc 2 _ rfl)
      have q1 : (0 : Int) ≤ (i : Int) := by omega
      have q2 : (i : Int) < (l.length : Int) := by omega
      have Hbel := Lib.hid hbel
      have hs0 := hbel.size
      have Hxi := Lib.hid hxi
      clear hcc hcell hbel hR2 hxi
      obtain ⟨pb, Hpb⟩ : ∃ pb, Hid (p x = pb) := ⟨_, Lib.hid rfl⟩
      go_wp2_with fail
      refine (HC.out x y2 wr HR.out (Hok.out x (List.mem_of_getElem? Hxi.out)) Hcr.out).mono ?_
      rintro E w1 ⟨rfl, hb1⟩
      rw [Hpb.out]
      have Hb1 := Lib.hid (Hbel.out.trans (hb1.mono hs0))
      have Hc1 := Lib.hid (HK.out _ _ Hcr.out hb1)
      clear hb1 e0 e1 e2
      cases pb with
      | true =>
        have Hany : Hid (l.find? p = some x) := Lib.hid (find_at Hxi.out Hpb.out Hall.out)
        go_wp2_with fail
        go_ret
        exact ⟨_, rfl, .inr ⟨i, x, rfl, Hxi.out, Hany.out, Hall.out⟩, Hb1.out⟩
      | false =>
        have Hall2 : Hid (∀ x ∈ l.take (i + 1), p x = false) := Lib.hid fun y hy => by
          rw [List.take_add_one, Hxi.out] at hy
          rcases List.mem_append.1 hy with h | h
          · exact Hall.out y h
          · have h9 : y = x := by simpa using h
            rw [h9]; exact Hpb.out
        go_wp2_with fail
        go_roundg g
        case measure => omega
        case rel => exact ⟨i + 1, by omega, by go_num, Hall2, Hc1, Hb1.out⟩
set_option maxRecDepth 100000 in
set_option maxHeartbeats 800000 in
theorem idxReq0_any {f : FuncId} {Cap : World → Prop} {p : GReq → Bool} {OK : GReq → Prop} (enter : ∀ (a : Array Value) (w : World), (callFunc f a).run Tryz.prog w = .ok (.enter f a) w)
    (keepC : ∀ w w' : World, Cap w → Below w.heap.size w w' → Cap w')
    (clo : ∀ (x : GReq) (y2 : Value) (w : World), ReqR w [.string x.key, .int .i64 x.kind, y2] x → OK x → Cap w → Calls Tryz.prog f #[.agg #[.string x.key, .int .i64 x.kind, y2]] w fun e w' => e = .returned (.bool (p x)) ∧ Below w.heap.size w w')
    (v : Value) (l : List GReq) (w : World) (h : RowAt ReqR 3 w v l) (hl : l.length ≤ 1073741824) (hok : ∀ x ∈ l, OK x) (hc : Cap w) : Calls Tryz.prog 84 #[v, .func (.func f) #[] #[]] w (FirstAt l p w) := by
  obtain ⟨a1, c1, rfl, _, _⟩ := h.len
  have H := Lib.hid h
  have Hc := Lib.hid hc
  have HC := Lib.hid clo
  have HK := Lib.hid keepC
  have Hok := Lib.hid hok
  have ep := enter
  clear h hc clo keepC enter hok
  go_enter Tryz.func84, Tryz.ntmps84
  go_wp2_with fail
  go_loopg [8] l.length (fun g u8 wr => ∃ i : Nat, i + g = l.length ∧ u8 = .int .i64 (i : Int) ∧ Hid (∀ x ∈ l.take i, p x = false) ∧ Hid (Cap wr) ∧ Below w.heap.size w wr)
  case atStart => exact ⟨0, by omega, rfl, Lib.hid (fun x hx => by simp at hx), Hc, Below.refl _ _⟩
  case round =>
    obtain ⟨i, hig, rfl, Hall, Hcr, hbel⟩ := hrel
    cases gk with
    | zero =>
      obtain rfl : i = l.length := by omega
      have Hany : Hid (l.find? p = none) := Lib.hid (List.find?_eq_none.2 fun x hx => by rw [Hall.out x (by rw [List.take_length]; exact hx)]; simp)
      have Hbel := Lib.hid hbel
      clear hbel
      go_wp2_with fail
      go_ret
      exact ⟨-1, rfl, .inl ⟨rfl, Hany.out⟩, Hbel.out⟩
    | succ g =>
      have hil : i < l.length := by omega
      obtain ⟨x, hxi⟩ : ∃ x, l[i]? = some x := ⟨l[i]'(by omega), List.getElem?_eq_getElem _⟩
      obtain ⟨b, o, c', hv, _, _, hbs, hcell⟩ := H.out.form (by omega) (by omega)
      cases hv
      obtain ⟨ds, _, hcc, hR⟩ := hcell i x hxi
      have hR2 := hR
      obtain ⟨y2, rfl, _⟩ := hR
      have HR := Lib.hid (stays_req _ _ _ _ (keeps_below hbel) hR2)
      have e0 : wr.cell? ⟨b, o + i * 3, none⟩ = some (.string x.key) := (hbel.cell (p := ⟨b, _, none⟩) hbs).trans (by simpa using hcc 0 _ rfl)
      have e1 : wr.cell? ⟨b, o + i * 3 + 1, none⟩ = some (.int .i64 x.kind) := (hbel.cell (p := ⟨b, _, none⟩) hbs).trans (hcc 1 _ rfl)
      have e2 : wr.cell? ⟨b, o + i * 3 + 2, none⟩ = some (y2) := (hbel.cell (p := ⟨b, _, none⟩) hbs).trans (hcc 2 _ rfl)
      have q1 : (0 : Int) ≤ (i : Int) := by omega
      have q2 : (i : Int) < (l.length : Int) := by omega
      have Hbel := Lib.hid hbel
      have hs0 := hbel.size
      have Hxi := Lib.hid hxi
      clear hcc hcell hbel hR2 hxi
      obtain ⟨pb, Hpb⟩ : ∃ pb, Hid (p x = pb) := ⟨_, Lib.hid rfl⟩
      go_wp2_with fail
      refine (HC.out x y2 wr HR.out (Hok.out x (List.mem_of_getElem? Hxi.out)) Hcr.out).mono ?_
      rintro E w1 ⟨rfl, hb1⟩
      rw [Hpb.out]
      have Hb1 := Lib.hid (Hbel.out.trans (hb1.mono hs0))
      have Hc1 := Lib.hid (HK.out _ _ Hcr.out hb1)
      clear hb1 e0 e1 e2
      cases pb with
      | true =>
        have Hany : Hid (l.find? p = some x) := Lib.hid (find_at Hxi.out Hpb.out Hall.out)
        go_wp2_with fail
        go_ret
        exact ⟨_, rfl, .inr ⟨i, x, rfl, Hxi.out, Hany.out, Hall.out⟩, Hb1.out⟩
      | false =>
        have Hall2 : Hid (∀ x ∈ l.take (i + 1), p x = false) := Lib.hid fun y hy => by
          rw [List.take_add_one, Hxi.out] at hy
          rcases List.mem_append.1 hy with h | h
          · exact Hall.out y h
          · have h9 : y = x := by simpa using h
            rw [h9]; exact Hpb.out
        go_wp2_with fail
        go_roundg g
        case measure => omega
        case rel => exact ⟨i + 1, by omega, by go_num, Hall2, Hc1, Hb1.out⟩
end Go.Proofs.YtlbolbkikkiifaaGreatDoor
/- query.CheckLabels: its contract. -/
namespace Go.Proofs.YtlbolbkikkiifaaGreatDoor
open Go.RowKit

theorem labZ_length (l : List GLabel) : (labZ l).length = l.length := by unfold labZ; simp
theorem labZ_get0 {l : List GLabel} {x : GLabel} (h : l[0]? = some x) : (labZ l)[0]? = some (none, x) := by
  unfold labZ
  rw [List.getElem?_zip_eq_some]
  exact ⟨rfl, h⟩
theorem labZ_get {l : List GLabel} {i : Nat} {x y : GLabel} (h : l[i + 1]? = some x) (hy : l[i]? = some y) : (labZ l)[i + 1]? = some (some y.key, x) := by
  unfold labZ
  rw [List.getElem?_zip_eq_some]
  exact ⟨by simp [hy], h⟩
theorem below_drew (B : Nat) (w : World) : Below B w w.drew := ⟨rfl, rfl, rfl, Nat.le_refl _, fun _ _ => rfl⟩
set_option maxRecDepth 100000 in
set_option maxHeartbeats 3200000 in
theorem labels_any (v : Value) (l : List GLabel) (m : Int) (w : World) (h : RowAt LabelR 2 w v l) (hl : l.length ≤ 1048576) (hok : ∀ r ∈ l, okLab r) (hm : MaxOK m w) :
    Calls Tryz.prog 26 #[v] w fun e w' => e = .returned (.int .i64 (labelsE l)) ∧ Below w.heap.size w w' := by
  obtain ⟨a1, c1, rfl, _, _⟩ := h.len
  obtain ⟨R, HR⟩ : ∃ R, Hid (labelsE l = R) := ⟨_, Lib.hid rfl⟩
  rw [HR.out]
  have hE : R = if 10 < l.length then 2 else errF labE (labZ l) := by rw [← HR.out]; rfl
  have HE := Lib.hid hE
  have H := Lib.hid h
  have Hm := Lib.hid hm
  have Hok := Lib.hid hok
  clear hE h hm hok
  by_cases h8 : 10 < l.length
  · have q0 : (10 : Int) < (l.length : Int) := by omega
    have HR4 : Hid (2 = R) := Lib.hid (by rw [HE.out, if_pos h8])
    clear h8
    go_enter Tryz.func26, Tryz.ntmps26
    go_wp2_with fail
    go_ret
    exact ⟨ret_int HR4.out, Below.refl _ _⟩
  · have q0 : ¬ (10 : Int) < (l.length : Int) := by omega
    have HR4 : Hid (R = errF labE (labZ l)) := Lib.hid (by rw [HE.out, if_neg h8])
    clear h8
    go_enter Tryz.func26, Tryz.ntmps26
    go_wp2_with fail
    go_loopg [12] l.length (fun k u12 wr => ∃ i : Nat, i + k = l.length ∧ u12 = .int .i64 (i : Int) ∧ Hid (∀ x ∈ (labZ l).take i, labE x = 0) ∧ Hid (Below w.heap.size w wr))
    case atStart => exact ⟨0, by omega, rfl, Lib.hid (by simp), Lib.hid (Below.refl _ _)⟩
    case round =>
      obtain ⟨i, hig, rfl, Hall, Hbel⟩ := hrel
      have hsr := Hbel.out.size
      cases gk with
      | zero =>
        obtain rfl : i = l.length := by omega
        have HR5 : Hid (0 = R) := Lib.hid (by
          rw [HR4.out, errF_none]
          intro x hx
          refine Hall.out x ?_
          rw [List.take_of_length_le (by rw [labZ_length]; exact Nat.le_refl _)]; exact hx)
        go_wp2_with fail
        go_ret
        exact ⟨ret_int HR5.out, Hbel.out⟩
      | succ k =>
        have hil : i < l.length := by omega
        obtain ⟨x, hxi⟩ : ∃ x, l[i]? = some x := ⟨l[i]'(by omega), List.getElem?_eq_getElem _⟩
        obtain ⟨b, o, c', hv, _, _, hbs, hcell⟩ := H.out.form (by omega) (by omega)
        injection hv with u1 u2 u3
        subst u1
        clear u2 u3
        obtain ⟨ds, _, hcc, hR⟩ := hcell i x hxi
        obtain rfl : ds = [.string x.key, .string x.val] := hR
        have e0 : wr.cell? ⟨b, o + i * 2, none⟩ = some (.string x.key) := (Hbel.out.cell (p := ⟨b, _, none⟩) hbs).trans (by simpa using hcc 0 _ rfl)
        have e1 : wr.cell? ⟨b, o + i * 2 + 1, none⟩ = some (.string x.val) := (Hbel.out.cell (p := ⟨b, _, none⟩) hbs).trans (hcc 1 _ rfl)
        have q1 : (0 : Int) ≤ (i : Int) := by omega
        have q2 : (i : Int) < (l.length : Int) := by omega
        have Hxi := Lib.hid hxi
        -- the label ahead of it
        have hprev : ∃ p, (labZ l)[i]? = some (p, x) ∧ ((i = 0 ∧ p = none) ∨ ∃ y : GLabel, 0 < i ∧ p = some y.key ∧ w.cell? ⟨b, o + (i - 1) * 2, none⟩ = some (.string y.key)) := by
          cases i with
          | zero => exact ⟨none, labZ_get0 hxi, .inl ⟨rfl, rfl⟩⟩
          | succ j =>
            obtain ⟨y, hy⟩ : ∃ y, l[j]? = some y := ⟨l[j]'(by omega), List.getElem?_eq_getElem _⟩
            obtain ⟨ds, _, hcc2, hR2⟩ := hcell j y hy
            obtain rfl : ds = [.string y.key, .string y.val] := hR2
            exact ⟨some y.key, labZ_get hxi hy, .inr ⟨y, by omega, rfl, by simpa using hcc2 0 _ rfl⟩⟩
        obtain ⟨p, hzi, hp⟩ := hprev
        have Hzi := Lib.hid hzi
        have Hp := Lib.hid hp
        have Hlab : Hid (labE (p, x) = if keyE x.key ≠ 0 then keyE x.key else if valE x.val ≠ 0 then valE x.val else prevE p x.key) := Lib.hid rfl
        obtain ⟨ok1, ok2⟩ := Hok.out x (List.mem_of_getElem? hxi)
        clear hcc hcell hxi hzi hp
        go_upto_region 6 with fail
        obtain ⟨W, hW⟩ : ∃ W, W = wr.alloc (.cells #[.string x.key, .string x.val] 30) := ⟨_, rfl⟩
        obtain ⟨gb, hgb⟩ : ∃ gb, gb = wr.heap.size := ⟨_, rfl⟩
        rw [← hW, ← hgb]
        have c0 : W.heap[gb]? = some (.cells #[.string x.key, .string x.val] 30 (0, 0)) := by rw [hW, hgb]; exact heap_alloc_new wr _
        have hb5 : Below wr.heap.size wr W := by rw [hW]; exact (Below.refl _ _).alloc (Nat.le_refl _) _
        have HW := Lib.hid (Hbel.out.trans (hb5.mono hsr))
        have Hc0 := Lib.hid c0
        have cc := fun i => cell_block c0 i
        clear hW hgb hb5 c0 e0 e1
        go_wp2_with fail
        refine (checkKey_any x.key m W (by omega) (Hm.out.below HW.out)).mono ?_
        rintro E w3 ⟨rfl, hb3⟩
        have Hb3 := Lib.hid (HW.out.trans (hb3.mono HW.out.size))
        have c3 := below_block hb3 Hc0.out
        have Hc3 := Lib.hid c3
        clear hb3 cc
        have cc := fun i => cell_block c3 i
        clear c3
        obtain ⟨kE, HkE⟩ : ∃ kE, Hid (NameP.checkKey x.key.data.toList = kE) := ⟨_, Lib.hid rfl⟩
        rw [HkE.out]
        have hk1 : keyE x.key = kE := HkE.out
        have Hk1 := Lib.hid hk1
        clear hk1
        by_cases hr0 : kE = 0
        · subst hr0
          go_wp2_with fail
          refine (checkVal_any x.val _ (by omega)).mono ?_
          rintro E w' ⟨rfl, rfl⟩
          obtain ⟨vE, HvE⟩ : ∃ vE, Hid (NameP.checkVal x.val.data.toList = vE) := ⟨_, Lib.hid rfl⟩
          rw [HvE.out]
          have hv1 : valE x.val = vE := HvE.out
          have Hv1 := Lib.hid hv1
          clear hv1
          by_cases hv0 : vE = 0
          · subst hv0
            have hl2 : labE (p, x) = prevE p x.key := by rw [Hlab.out, if_neg (by rw [Hk1.out]; simp), if_neg (by rw [Hv1.out]; simp)]
            have Hl2 := Lib.hid hl2
            clear hl2
            go_upto_region 12 with fail
            rcases Hp.out with ⟨hi0, rfl⟩ | ⟨y, hi0, rfl, hy⟩
            · subst hi0
              have hl3 : labE (none, x) = 0 := Hl2.out
              have Hall2 := Lib.hid (zero_snoc Hall.out Hzi.out hl3)
              clear hl3
              go_region
              go_wp2_with fail
              go_roundg k
              case measure => omega
              case rel => exact ⟨1, by omega, by go_num, Hall2, Lib.hid (Hb3.out.trans (below_drew _ _))⟩
            · have q5 : (0 : Int) ≤ (i : Int) - 1 := by omega
              have q6 : (i : Int) - 1 < (l.length : Int) := by omega
              have q7 : (0 : Int) < (i : Int) := by omega
              have f0 : w3.cell? ⟨b, o + (i - 1) * 2, none⟩ = some (.string y.key) := (Hb3.out.cell (p := ⟨b, _, none⟩) hbs).trans hy
              clear hy
              cases hless : Op.bytesLess y.key.toList x.key.toList with
              | true =>
                have hl3 : labE (some y.key, x) = 0 := by rw [Hl2.out]; show (if Op.bytesLess y.key.toList x.key.toList = true then (0 : Int) else 1) = _; rw [hless]; rfl
                have Hall2 := Lib.hid (zero_snoc Hall.out Hzi.out hl3)
                clear hl3
                go_region
                go_wp2_with fail
                go_roundg k
                case measure => omega
                case rel => exact ⟨i + 1, by omega, by go_num, Hall2, Lib.hid (Hb3.out.trans (below_drew _ _))⟩
              | false =>
                have hl3 : labE (some y.key, x) = 1 := by rw [Hl2.out]; show (if Op.bytesLess y.key.toList x.key.toList = true then (0 : Int) else 1) = _; rw [hless]; rfl
                have HR5 : Hid (1 = R) := Lib.hid (by rw [HR4.out, errF_at Hzi.out Hall.out (by rw [hl3]; decide)]; exact hl3.symm)
                clear hl3
                go_region
                go_wp2_with fail
                go_ret
                exact ⟨ret_int HR5.out, Hb3.out.trans (below_drew _ _)⟩
          · have q3 : (vE == 0) = false := by rw [beq_eq_false_iff_ne]; exact hv0
            have q4 : (vE != 0) = true := by rw [bne_iff_ne]; exact hv0
            have hlab : labE (p, x) = vE := by rw [Hlab.out, if_neg (by rw [Hk1.out]; simp), if_pos (by rw [Hv1.out]; exact hv0)]; exact Hv1.out
            have HR5 : Hid (vE = R) := Lib.hid (by rw [HR4.out, errF_at Hzi.out Hall.out (by rw [hlab]; exact hv0)]; exact hlab.symm)
            clear hv0 hlab
            go_wp2_with fail
            go_ret
            exact ⟨ret_int HR5.out, Hb3.out⟩
        · have q3 : (kE == 0) = false := by rw [beq_eq_false_iff_ne]; exact hr0
          have q4 : (kE != 0) = true := by rw [bne_iff_ne]; exact hr0
          have hlab : labE (p, x) = kE := by rw [Hlab.out, if_pos (by rw [Hk1.out]; exact hr0)]; exact Hk1.out
          have HR5 : Hid (kE = R) := Lib.hid (by rw [HR4.out, errF_at Hzi.out Hall.out (by rw [hlab]; exact hr0)]; exact hlab.symm)
          clear hr0 hlab
          go_wp2_with fail
          go_ret
          exact ⟨ret_int HR5.out, Hb3.out⟩
end Go.Proofs.YtlbolbkikkiifaaGreatDoor
/- The library's slices functions at texts, in our words. -/
namespace Go.Proofs.YtlbolbkikkiifaaGreatDoor
open Go.RowKit

theorem strAt_getD {l : List ByteArray} {j : Nat} (hj : j < l.length) : l[j]? = some (l.getD j ByteArray.empty) := by simp [List.getD, hj]
set_option maxRecDepth 100000 in
theorem contains_any (v : Value) (l : List ByteArray) (x : ByteArray) (w : World) (h : StrAt w v l) (hl : l.length ≤ 1073741824) : Calls Tryz.prog 78 #[v, .string x] w fun e w' => e = .returned (.bool (Lib.containsS l x)) ∧ w = w' := by
  rcases Nat.eq_zero_or_pos l.length with h0 | h0
  · obtain rfl := nil_of_len h0
    obtain ⟨ao, c, rfl, _, _⟩ := h.len
    exact (Tryz.slices_Contains_string_empty ao c x w).mono fun e w' ⟨h1, h2⟩ => ⟨by rw [h1]; rfl, h2.symm⟩
  · obtain ⟨b, o, c, rfl, _, _, _, hc⟩ := h.form h0
    refine (Tryz.slices_Contains_string b o l.length c l x w (Nat.le_refl _) (by omega) fun j hj => hc j _ (strAt_getD hj)).mono fun e w' ⟨h1, h2⟩ => ⟨?_, h2.symm⟩
    rw [h1, List.take_of_length_le (Nat.le_refl _)]
theorem index_any (v : Value) (l : List ByteArray) (x : ByteArray) (w : World) (h : StrAt w v l) (hl : l.length ≤ 1073741824) : Calls Tryz.prog 123 #[v, .string x] w fun e w' => e = .returned (.int .i64 (Lib.idxOfS l x)) ∧ w = w' := by
  rcases Nat.eq_zero_or_pos l.length with h0 | h0
  · obtain rfl := nil_of_len h0
    obtain ⟨ao, c, rfl, _, _⟩ := h.len
    exact (Tryz.slices_Index_string_empty ao c x w).mono fun e w' ⟨h1, h2⟩ => ⟨h1, h2.symm⟩
  · obtain ⟨b, o, c, rfl, _, _, _, hc⟩ := h.form h0
    refine (Tryz.slices_Index_string b o l.length c l x w (Nat.le_refl _) (by omega) fun j hj => hc j _ (strAt_getD hj)).mono fun e w' ⟨h1, h2⟩ => ⟨?_, h2.symm⟩
    rw [h1, List.take_of_length_le (Nat.le_refl _)]
theorem idx_none {l : List ByteArray} {x : ByteArray} (h : x ∉ l) : Lib.idxOfS l x = -1 := by
  have := Lib.idxOfS_miss l l.length x fun j hj e => h (by rw [← e]; exact List.mem_of_getElem? (strAt_getD hj))
  rwa [List.take_of_length_le (Nat.le_refl _)] at this
theorem idx_at {l : List ByteArray} {x : ByteArray} {k : Nat} (hk : l[k]? = some x) (hn : l.Nodup) : Lib.idxOfS l x = (k : Int) := by
  have hkl := (List.getElem?_eq_some_iff.1 hk).1
  have hx : l.getD k ByteArray.empty = x := by simp [List.getD, hk]
  have := Lib.idxOfS_hit l l.length k x hkl (Nat.le_refl _) hx fun j hj e => by
    have h1 : l[j]? = some x := by rw [← e]; exact strAt_getD (by omega)
    have h2 := (List.getElem?_inj (by omega : j < l.length) hn).1 (h1.trans hk.symm)
    omega
  rwa [List.take_of_length_le (Nat.le_refl _)] at this

/-- stores into a row of the call's own, one behind the other -/
theorem setCells_rowS (g : Nat) (t : TypeId) : ∀ (vs : List Value) (i : Nat) (cur : Array Value) (w : World), w.heap[g]? = some (.cells cur t (0, 0)) → i + vs.length ≤ cur.size →
    ∃ cur', (w.setCells g i vs).heap[g]? = some (.cells cur' t (0, 0)) ∧ cur'.size = cur.size ∧ (∀ j, j < i → cur'[j]? = cur[j]?) ∧ (∀ j u, vs[j]? = some u → cur'[i + j]? = some u) ∧ Touch g w (w.setCells g i vs)
  | [], i, cur, w, hg, _ => ⟨cur, hg, rfl, fun _ _ => rfl, fun j u h => by simp at h, ⟨rfl, rfl, rfl, rfl, fun _ _ => rfl⟩⟩
  | v :: r, i, cur, w, hg, hl => by
    simp only [List.length_cons] at hl
    obtain ⟨h1, h2⟩ := touch_setCell (w := w) (i := i) (v := v) hg
    obtain ⟨cur', g1, g2, g3, g4, g5⟩ := setCells_rowS g t r (i + 1) _ _ h1 (by simp; omega)
    refine ⟨cur', g1, by simpa using g2, fun j hj => ?_, fun j u hu => ?_, ?_⟩
    · rw [g3 j (by omega), Array.getElem?_setIfInBounds, if_neg (by omega)]
    · cases j with
      | zero =>
        simp only [List.getElem?_cons_zero, Option.some.injEq] at hu
        subst hu
        rw [Nat.add_zero, g3 i (by omega), Array.getElem?_setIfInBounds, if_pos rfl, if_pos (by omega)]
      | succ j =>
        have := g4 j u (by simpa using hu)
        rwa [show i + 1 + j = i + (j + 1) by omega] at this
    · show Touch g w ((w.setCell ⟨g, i, none⟩ v).setCells g (i + 1) r)
      exact ⟨g5.os.trans h2.os, g5.tape.trans h2.tape, g5.output.trans h2.output, g5.size.trans h2.size, fun b hb => (g5.other b hb).trans (h2.other b hb)⟩
theorem eraseIdx_get {β : Type} (l : List β) (i j : Nat) : (l.eraseIdx i)[j]? = if j < i then l[j]? else l[j + 1]? := List.getElem?_eraseIdx ..
theorem own_strs {w : World} {B : Nat} {e : TypeId} {v : Value} {l : List ByteArray} (h : OwnAt RString 1 w B e v l) : w.ownsRow B e 1 v l.length (strs l) := by
  obtain ⟨css, h1, h2, h3, h4⟩ := h
  have : css.flatten = strs l := by
    apply List.ext_getElem?
    intro j
    by_cases hj : j < l.length
    · have hcs : css[j]? = some css[j] := List.getElem?_eq_getElem (by omega)
      have hR : css[j] = [.string l[j]] := h4 j _ _ hcs (List.getElem?_eq_getElem hj)
      have := get_flat h2 (j := j) (i := 0) hcs (u := .string l[j]) (by rw [hR]; rfl)
      rw [Nat.mul_one, Nat.add_zero] at this
      rw [this]
      simp [strs, hj]
    · rw [List.getElem?_eq_none (by rw [flat_len h2]; omega), List.getElem?_eq_none (by rw [strs_length]; omega)]
  rwa [this] at h3
theorem ownAt_strs {w : World} {B n : Nat} {e : TypeId} {v : Value} {l : List ByteArray} (h : w.ownsRow B e 1 v n (strs l)) (hn : l.length = n) : OwnAt RString 1 w B e v l := by
  subst hn
  refine ⟨l.map fun x => [.string x], by simp, fun cs hcs => ?_, ?_, fun j cs x hcs hx => ?_⟩
  · obtain ⟨x, _, rfl⟩ := List.mem_map.1 hcs; rfl
  · have key : ∀ m : List ByteArray, (m.map fun x => [Value.string x]).flatten = strs m := fun m => by
      induction m with
      | nil => rfl
      | cons y r ih => rw [List.map_cons, List.flatten_cons, ih]; rfl
    rw [key]; exact h
  · simp only [List.getElem?_map, hx, Option.map_some, Option.some.injEq] at hcs
    exact hcs.symm
theorem deleteAt_any (v : Value) (l : List ByteArray) (B i : Nat) (w : World) (h : OwnAt RString 1 w B 9 v l) (hi : i < l.length) (hl : l.length ≤ 1073741824) :
    Calls Tryz.prog 162 #[v, .int .i64 (i : Int), .int .i64 ((i : Int) + 1)] w fun e w' => ∃ g c, v = .slice (some ⟨g, 0, none⟩) l.length c ∧ B ≤ g ∧ e = .returned (.slice (some ⟨g, 0, none⟩) (l.length - 1) c) ∧ OwnAt RString 1 w' B 9 (.slice (some ⟨g, 0, none⟩) (l.length - 1) c) (l.eraseIdx i) ∧ Touch g w w' := by
  have ho := own_strs h
  rw [show (i : Int) + 1 = ((i + 1 : Nat) : Int) by omega]
  rcases ho.2 with ⟨_, h0⟩ | ⟨g, c, cur, rfl, hB, hh, hlc, hc, hcs, htk⟩
  · omega
  have hcell : ∀ j, j < l.length → w.cell? ⟨g, 0 + j, none⟩ = some (.string (l.getD j ByteArray.empty)) := fun j hj => by
    rw [Nat.zero_add]
    have := ho.cells (g := g) rfl j _ (strs_get (strAt_getD hj))
    rwa [add_plain', Nat.zero_add] at this
  refine (Tryz.slices_Delete_string_cells g 0 l.length c i (i + 1) (fun j => l.getD j ByteArray.empty) w hlc (by unfold maxLen at hc; omega) (by omega) (by omega) hcell fun j _ => free_block hh _).mono fun e w' ⟨he, q, hw⟩ => ?_
  obtain ⟨X, HX⟩ : ∃ X, Hid (X = ((Lib.strsOf (fun j => l.getD j ByteArray.empty) l.length).take i ++ (Lib.strsOf (fun j => l.getD j ByteArray.empty) l.length).drop (i + 1) ++ List.replicate (i + 1 - i) [])) := ⟨_, Lib.hid rfl⟩
  have hgg : (w.drewN q).heap[g]? = some (.cells cur 9 (0, 0)) := hh
  have hXl : X.length = l.length := by rw [HX.out]; simp [Lib.strsOf]; omega
  have hXg : ∀ (j : Nat) (x : ByteArray), (l.eraseIdx i)[j]? = some x → X[j]? = some x.data.toList := fun j x hx => by
    have hj : j < l.length - 1 := by have := (List.getElem?_eq_some_iff.1 hx).1; rw [List.length_eraseIdx_of_lt hi] at this; exact this
    rw [eraseIdx_get] at hx
    rw [HX.out]
    by_cases hji : j < i
    · rw [if_pos hji] at hx
      rw [List.append_assoc, List.getElem?_append_left (by simp [Lib.strsOf]; omega), List.getElem?_take_of_lt hji]
      simp only [Lib.strsOf]
      rw [List.getElem?_map, List.getElem?_range (by omega)]
      simp [List.getD, hx]
    · rw [if_neg hji] at hx
      rw [List.append_assoc, List.getElem?_append_right (by simp [Lib.strsOf]; omega), List.getElem?_append_left (by simp [Lib.strsOf]; omega), List.getElem?_drop]
      simp only [Lib.strsOf, List.length_take, List.length_map, List.length_range]
      rw [show i + 1 + (j - min i l.length) = j + 1 by omega]
      rw [List.getElem?_map, List.getElem?_range (by omega)]
      simp [List.getD, hx]
  rw [← HX.out] at hw
  obtain ⟨cur', g1, g2, g3, g4, g5⟩ := setCells_rowS g 9 (X.map encStr) 0 cur (w.drewN q) hgg (by simp [hXl]; omega)
  have hel : (l.eraseIdx i).length = l.length - 1 := List.length_eraseIdx_of_lt hi
  refine ⟨g, c, rfl, hB, ?_, ownAt_strs (n := l.length - 1) ⟨by simp [strs, hel], .inr ⟨g, c, cur', rfl, hB, by rw [hw]; exact g1, by omega, hc, by rw [g2, hcs], ?_⟩⟩ hel, by rw [hw]; exact ⟨g5.os, g5.tape, g5.output, g5.size, g5.other⟩⟩
  · rw [he]
    congr 2
    omega
  · apply List.ext_getElem?
    intro j
    by_cases hj : j < l.length - 1
    · have hx : (l.eraseIdx i)[j]? = some ((l.eraseIdx i)[j]'(by omega)) := List.getElem?_eq_getElem (by omega)
      have h5 := g4 j (.string ((l.eraseIdx i)[j]'(by omega))) (by rw [List.getElem?_map, hXg j _ hx]; rfl)
      rw [List.getElem?_take_of_lt (by omega), Array.getElem?_toList, ← Nat.zero_add j, h5, Nat.zero_add, strs_get hx]
    · rw [List.getElem?_eq_none (by simp; omega), List.getElem?_eq_none (by rw [strs_length]; omega)]
end Go.Proofs.YtlbolbkikkiifaaGreatDoor
/- query.holds: its contract. -/
namespace Go.Proofs.YtlbolbkikkiifaaGreatDoor
open Go.RowKit

/-- the part that the closure has captured -/
def CapReq (g : Nat) (key : ByteArray) (kd : Int) (v : Value) (w : World) : Prop := w.heap[g]? = some (.cells #[.string key, .int .i64 kd, v] 26 (0, 0))
theorem run_holds1 : ∀ (a : Array Value) (w : World), (callFunc 77 a).run Tryz.prog w = .ok (.enter 77 a) w := run_callFunc_body Tryz.func77 (by kernel_rfl) (by kernel_rfl)
set_option maxRecDepth 100000 in
set_option maxHeartbeats 800000 in
theorem holds1_any (g : Nat) (key : ByteArray) (kd : Int) (v : Value) (x : GLabel) (w : World) (hc : CapReq g key kd v w) :
    Calls Tryz.prog 77 #[.agg #[.string x.key, .string x.val], .pointer (some ⟨g, 0, none⟩)] w fun e w' => e = .returned (.bool (decide (x.key = key))) ∧ Below w.heap.size w w' := by
  have Hc := Lib.hid hc
  obtain ⟨w1, hw1⟩ : ∃ w1, w1 = w.alloc (.cells #[.string x.key, .string x.val] 30) := ⟨_, rfl⟩
  obtain ⟨gb, hgb⟩ : ∃ gb, gb = w.heap.size := ⟨_, rfl⟩
  have b1 : w1.heap[gb]? = some (.cells #[.string x.key, .string x.val] 30 (0, 0)) := by rw [hw1, hgb]; exact heap_alloc_new w _
  have hb1 : Below w.heap.size w w1 := by rw [hw1]; exact (Below.refl _ _).alloc (Nat.le_refl _) _
  have c1 := below_block hb1 hc
  have Hb1 := Lib.hid hb1
  have cc := fun i => cell_block b1 i
  have dd := fun i => cell_block c1 i
  clear hc b1 hb1 c1
  obtain ⟨b, Hb⟩ : ∃ b, Hid (decide (x.key = key) = b) := ⟨_, Lib.hid rfl⟩
  rw [Hb.out]
  have hb : (x.key.toList == key.toList) = b := by
    rw [← Hb.out]
    by_cases h : x.key = key
    · rw [h]; simp
    · rw [decide_eq_false h, beq_eq_false_iff_ne]; exact fun e => h (toList_inj e)
  go_enter Tryz.func77, Tryz.ntmps77
  go_upto_region 1 with fail
  rw [← hw1]
  try rw [← hgb]
  clear hw1 hgb
  cases b with
  | true =>
    go_wp2_with fail
    go_ret
    exact ⟨rfl, Hb1.out⟩
  | false =>
    go_wp2_with fail
    go_ret
    exact ⟨rfl, Hb1.out⟩
set_option maxRecDepth 100000 in
set_option maxHeartbeats 3200000 in
theorem holds_any (r : GReq) (v2 v : Value) (labels : List GLabel) (w : World) (h : ReqR w [.string r.key, .int .i64 r.kind, v2] r) (hok : okReq r) (hlab : RowAt LabelR 2 w v labels) (hl : labels.length ≤ 1048576) :
    Calls Tryz.prog 47 #[.agg #[.string r.key, .int .i64 r.kind, v2], v] w fun e w' => e = .returned (.bool (holdsB labels r)) ∧ Below w.heap.size w w' := by
  obtain ⟨v2', h1, _, hst⟩ := h
  obtain rfl : v2 = v2' := by injection h1 with _ h1; injection h1 with _ h1; injection h1
  clear h1
  obtain ⟨ao, c, rfl, _, _⟩ := hst.row.len
  obtain ⟨a1, c1, rfl, _, _⟩ := hlab.len
  obtain ⟨_, ok2, _⟩ := hok
  obtain ⟨R, HR⟩ : ∃ R, Hid (holdsB labels r = R) := ⟨_, Lib.hid rfl⟩
  rw [HR.out]
  have hE : R = match labels.find? fun x => decide (x.key = r.key) with
    | some x => if r.kind = 1 then Lib.containsS r.vals x.val else if r.kind = 2 then !Lib.containsS r.vals x.val else decide (r.kind = 3)
    | none => if r.kind = 1 then false else if r.kind = 2 then true else decide (r.kind ≠ 3) := by rw [← HR.out]; rfl
  have HE := Lib.hid hE
  have Hst := Lib.hid hst
  have Hlab := Lib.hid hlab
  obtain ⟨nv, Hnv⟩ : ∃ nv, Hid (r.vals.length = nv) := ⟨_, Lib.hid rfl⟩
  rw [Hnv.out] at ok2 ⊢
  obtain ⟨kd, Hkd⟩ : ∃ kd, Hid (r.kind = kd) := ⟨_, Lib.hid rfl⟩
  rw [Hkd.out]
  obtain ⟨ky, Hky⟩ : ∃ ky, Hid (r.key = ky) := ⟨_, Lib.hid rfl⟩
  rw [Hky.out]
  clear hE hst hlab
  obtain ⟨w1, hw1⟩ : ∃ w1, w1 = w.alloc (.cells #[.string ky, .int .i64 kd, .slice ao nv c] 26) := ⟨_, rfl⟩
  obtain ⟨g, hg⟩ : ∃ g, g = w.heap.size := ⟨_, rfl⟩
  have b1 : w1.heap[g]? = some (.cells #[.string ky, .int .i64 kd, .slice ao nv c] 26 (0, 0)) := by rw [hw1, hg]; exact heap_alloc_new w _
  have hb1 : Below w.heap.size w w1 := by rw [hw1]; exact (Below.refl _ _).alloc (Nat.le_refl _) _
  have Hb1 := Lib.hid hb1
  have B1 := Lib.hid b1
  clear b1 hb1
  go_enter Tryz.func47, Tryz.ntmps47
  go_upto_region 1 with fail
  rw [← hw1]
  try rw [← hg]
  clear hw1 hg
  go_wp2_with fail
  refine (idxLabel_any (p := fun x => decide (x.key = ky)) (Cap := CapReq g ky kd (.slice ao nv c)) (OK := fun _ => True) run_holds1 (fun w w' h hb => below_block hb h) (fun x w _ _ hc => holds1_any g ky kd _ x w hc) _ labels w1 (Hlab.out.below stays_label Hb1.out) (by omega) (fun _ _ => trivial) B1.out).mono ?_
  rintro E w2 ⟨n, rfl, hn, hb2⟩
  have Hb2 := Lib.hid (Hb1.out.trans (hb2.mono Hb1.out.size))
  have b2 := below_block hb2 B1.out
  have cc := fun i => cell_block b2 i
  clear b2 hb2
  rcases hn with ⟨rfl, hf⟩ | ⟨i, x, rfl, hxi, hf, _⟩
  · have HR2 : Hid (R = if kd = 1 then false else if kd = 2 then true else decide (kd ≠ 3)) := Lib.hid (by rw [HE.out, Hky.out, hf, Hkd.out])
    clear hf
    by_cases k1 : kd = 1
    · subst k1
      have HR3 : Hid (false = R) := Lib.hid (by rw [HR2.out]; rfl)
      clear HR2
      go_wp2_with fail
      go_region
      go_wp2_with fail
      go_ret
      exact ⟨congrArg (fun b => Ending.returned (Value.bool b)) HR3.out, Hb2.out.trans (below_drew _ _)⟩
    · have q1 : (kd == 1) = false := by rw [beq_eq_false_iff_ne]; exact k1
      by_cases k2 : kd = 2
      · subst k2
        have HR3 : Hid (true = R) := Lib.hid (by rw [HR2.out]; rfl)
        clear HR2 k1
        go_wp2_with fail
        go_region
        go_wp2_with fail
        go_ret
        exact ⟨congrArg (fun b => Ending.returned (Value.bool b)) HR3.out, Hb2.out.trans (below_drew _ _)⟩
      · have q2 : (kd == 2) = false := by rw [beq_eq_false_iff_ne]; exact k2
        by_cases k3 : kd = 3
        · subst k3
          have HR3 : Hid (false = R) := Lib.hid (by rw [HR2.out]; rfl)
          clear HR2 k1 k2
          go_wp2_with fail
          go_ret
          exact ⟨congrArg (fun b => Ending.returned (Value.bool b)) HR3.out, Hb2.out⟩
        · have q3 : (kd == 3) = false := by rw [beq_eq_false_iff_ne]; exact k3
          have HR3 : Hid (true = R) := Lib.hid (by rw [HR2.out, if_neg k1, if_neg k2, decide_eq_true k3])
          clear HR2 k1 k2 k3
          go_wp2_with fail
          go_ret
          exact ⟨congrArg (fun b => Ending.returned (Value.bool b)) HR3.out, Hb2.out⟩
  · have HR2 : Hid (R = if kd = 1 then Lib.containsS r.vals x.val else if kd = 2 then !Lib.containsS r.vals x.val else decide (kd = 3)) := Lib.hid (by rw [HE.out, Hky.out, hf, Hkd.out])
    have hil : i < labels.length := (List.getElem?_eq_some_iff.1 hxi).1
    have hlb := Hlab.out.below stays_label Hb2.out
    obtain ⟨b, o, c', hv, _, _, hbs, hcell⟩ := hlb.form (by omega) (by omega)
    injection hv with u1 u2 u3
    subst u1
    clear u2 u3
    obtain ⟨ds, _, hcc, hR⟩ := hcell i x hxi
    obtain rfl : ds = [.string x.key, .string x.val] := hR
    have e1 : w2.cell? ⟨b, o + i * 2 + 1, none⟩ = some (.string x.val) := hcc 1 _ rfl
    have p1 : (0 : Int) ≤ (i : Int) := by omega
    have p2 : (i : Int) < (labels.length : Int) := by omega
    have p3 : ¬ (i : Int) < 0 := by omega
    have Hst2 := Lib.hid (Hst.out.below Hb2.out)
    clear hf hlb hcc hcell hxi
    obtain ⟨cv, Hcv⟩ : ∃ cv, Hid (Lib.containsS r.vals x.val = cv) := ⟨_, Lib.hid rfl⟩
    rw [Hcv.out] at HR2
    have hC : ∀ q, Calls Tryz.prog 78 #[.slice ao nv c, .string x.val] (w2.drewN q) fun e w' => e = .returned (.bool cv) ∧ ∃ q, w' = w2.drewN q := fun q => by
      rw [← Hcv.out, ← Hnv.out]
      exact (contains_any _ r.vals x.val _ (Hst2.out.below (below_drewN _ _ q)) (by rw [Hnv.out]; omega)).mono fun e w' h => ⟨h.1, q, h.2.symm⟩
    have HC := Lib.hid hC
    clear hC
    by_cases k1 : kd = 1
    · subst k1
      have HR3 : Hid (cv = R) := Lib.hid (by rw [HR2.out]; rfl)
      clear HR2
      go_wp2_with fail
      refine wp_region_hold 12 (fun w' => ∃ q, w' = w2.drewN q) (by kernel_rfl) (by kernel_rfl) ?_ ?_
      · exact ⟨1, rfl⟩
      simp only [List.take_succ_cons, List.take_zero, List.drop_succ_cons, List.drop_zero]
      (first | (refine wpHold_pure (v := ?_) (by rfl) (fun w => ?_) ?_; rotate_left; focus (first | (go_simp; done) | (go_simp; with_reducible rfl))) | (refine wpHold_skip ?_ ?_; focus (go_simp; done)) | (refine wpHold_pure' (v := ?_) ?_ (fun w => ?_) ?_; rotate_left; focus (go_simp; done); focus (first | (go_simp; done) | (go_simp; with_reducible rfl)))); try simp only [Act.put, List.setIfInBounds_toArray, List.set_cons_zero, List.set_cons_succ]
      (first | (refine wpHold_pure (v := ?_) (by rfl) (fun w => ?_) ?_; rotate_left; focus (first | (go_simp; done) | (go_simp; with_reducible rfl))) | (refine wpHold_skip ?_ ?_; focus (go_simp; done)) | (refine wpHold_pure' (v := ?_) ?_ (fun w => ?_) ?_; rotate_left; focus (go_simp; done); focus (first | (go_simp; done) | (go_simp; with_reducible rfl)))); try simp only [Act.put, List.setIfInBounds_toArray, List.set_cons_zero, List.set_cons_succ]
      (first | (refine wpHold_pure (v := ?_) (by rfl) (fun w => ?_) ?_; rotate_left; focus (first | (go_simp; done) | (go_simp; with_reducible rfl))) | (refine wpHold_skip ?_ ?_; focus (go_simp; done)) | (refine wpHold_pure' (v := ?_) ?_ (fun w => ?_) ?_; rotate_left; focus (go_simp; done); focus (first | (go_simp; done) | (go_simp; with_reducible rfl)))); try simp only [Act.put, List.setIfInBounds_toArray, List.set_cons_zero, List.set_cons_succ]
      refine wpHold_pure' (v := ?_) ?_ (fun w => ?_) ?_
      rotate_left
      focus (go_simp; done)
      focus (first | (go_simp; done) | (go_simp; with_reducible rfl))
      try simp only [Act.put, List.setIfInBounds_toArray, List.set_cons_zero, List.set_cons_succ]
      refine wpHold_read' (v := .slice ao nv c) (by first | rfl | (go_simp; done)) (fun w' hI => ?_) ?_
      · obtain ⟨q, rfl⟩ := hI
        have dd := fun i => (show (w2.drewN q).cell? ⟨g, i, none⟩ = _ from cc i)
        go_simp
        done
      try simp only [Act.put, List.setIfInBounds_toArray, List.set_cons_zero, List.set_cons_succ]
      refine wpHold_pure' (v := ?_) ?_ (fun w => ?_) ?_
      rotate_left
      focus (go_simp; done)
      focus (first | (go_simp; done) | (go_simp; with_reducible rfl))
      try simp only [Act.put, List.setIfInBounds_toArray, List.set_cons_zero, List.set_cons_succ]
      refine wpHold_pure' (v := ?_) ?_ (fun w => ?_) ?_
      rotate_left
      focus (go_simp; done)
      focus (first | (go_simp; done) | (go_simp; with_reducible rfl))
      try simp only [Act.put, List.setIfInBounds_toArray, List.set_cons_zero, List.set_cons_succ]
      refine wpHold_pure' (v := ?_) ?_ (fun w => ?_) ?_
      rotate_left
      focus (go_simp; done)
      focus (first | (go_simp; done) | (go_simp; with_reducible rfl))
      try simp only [Act.put, List.setIfInBounds_toArray, List.set_cons_zero, List.set_cons_succ]
      refine wpHold_pure' (v := ?_) ?_ (fun w => ?_) ?_
      rotate_left
      focus (go_simp; done)
      focus (first | (go_simp; done) | (go_simp; with_reducible rfl))
      try simp only [Act.put, List.setIfInBounds_toArray, List.set_cons_zero, List.set_cons_succ]
      refine wpHold_read' (v := .string x.val) (by first | rfl | (go_simp; done)) (fun w' hI => ?_) ?_
      · obtain ⟨q, rfl⟩ := hI
        have dd : (w2.drewN q).cell? ⟨b, o + i * 2 + 1, none⟩ = some (.string x.val) := e1
        go_simp
        done
      try simp only [Act.put, List.setIfInBounds_toArray, List.set_cons_zero, List.set_cons_succ]
      refine wpHold_call' (v := .bool cv) (f := 78) (args := #[.slice ao nv c, .string x.val]) (by first | rfl | (go_simp; done)) (fun w' => ?_) (fun w' hI => ?_) ?_
      · go_simp
        done
      · obtain ⟨q, rfl⟩ := hI
        exact HC.out q
      try simp only [Act.put, List.setIfInBounds_toArray, List.set_cons_zero, List.set_cons_succ]
      (first | (refine wpHold_pure (v := ?_) (by rfl) (fun w => ?_) ?_; rotate_left; focus (first | (go_simp; done) | (go_simp; with_reducible rfl))) | (refine wpHold_skip ?_ ?_; focus (go_simp; done)) | (refine wpHold_pure' (v := ?_) ?_ (fun w => ?_) ?_; rotate_left; focus (go_simp; done); focus (first | (go_simp; done) | (go_simp; with_reducible rfl)))); try simp only [Act.put, List.setIfInBounds_toArray, List.set_cons_zero, List.set_cons_succ]
      refine wpHold_nil ?_
      rintro w' ⟨q, rfl⟩
      go_wp2_with fail
      go_ret
      exact ⟨congrArg (fun b => Ending.returned (Value.bool b)) HR3.out, Hb2.out.trans (below_drewN _ _ _)⟩
    · have q1 : (kd == 1) = false := by rw [beq_eq_false_iff_ne]; exact k1
      by_cases k2 : kd = 2
      · subst k2
        have HR3 : Hid ((!cv) = R) := Lib.hid (by rw [HR2.out]; rfl)
        clear HR2 k1
        go_wp2_with fail
        refine wp_region_hold 13 (fun w' => ∃ q, w' = w2.drewN q) (by kernel_rfl) (by kernel_rfl) ?_ ?_
        · exact ⟨1, rfl⟩
        simp only [List.take_succ_cons, List.take_zero, List.drop_succ_cons, List.drop_zero]
        (first | (refine wpHold_pure (v := ?_) (by rfl) (fun w => ?_) ?_; rotate_left; focus (first | (go_simp; done) | (go_simp; with_reducible rfl))) | (refine wpHold_skip ?_ ?_; focus (go_simp; done)) | (refine wpHold_pure' (v := ?_) ?_ (fun w => ?_) ?_; rotate_left; focus (go_simp; done); focus (first | (go_simp; done) | (go_simp; with_reducible rfl)))); try simp only [Act.put, List.setIfInBounds_toArray, List.set_cons_zero, List.set_cons_succ]
        (first | (refine wpHold_pure (v := ?_) (by rfl) (fun w => ?_) ?_; rotate_left; focus (first | (go_simp; done) | (go_simp; with_reducible rfl))) | (refine wpHold_skip ?_ ?_; focus (go_simp; done)) | (refine wpHold_pure' (v := ?_) ?_ (fun w => ?_) ?_; rotate_left; focus (go_simp; done); focus (first | (go_simp; done) | (go_simp; with_reducible rfl)))); try simp only [Act.put, List.setIfInBounds_toArray, List.set_cons_zero, List.set_cons_succ]
        (first | (refine wpHold_pure (v := ?_) (by rfl) (fun w => ?_) ?_; rotate_left; focus (first | (go_simp; done) | (go_simp; with_reducible rfl))) | (refine wpHold_skip ?_ ?_; focus (go_simp; done)) | (refine wpHold_pure' (v := ?_) ?_ (fun w => ?_) ?_; rotate_left; focus (go_simp; done); focus (first | (go_simp; done) | (go_simp; with_reducible rfl)))); try simp only [Act.put, List.setIfInBounds_toArray, List.set_cons_zero, List.set_cons_succ]
        refine wpHold_pure' (v := ?_) ?_ (fun w => ?_) ?_
        rotate_left
        focus (go_simp; done)
        focus (first | (go_simp; done) | (go_simp; with_reducible rfl))
        try simp only [Act.put, List.setIfInBounds_toArray, List.set_cons_zero, List.set_cons_succ]
        refine wpHold_read' (v := .slice ao nv c) (by first | rfl | (go_simp; done)) (fun w' hI => ?_) ?_
        · obtain ⟨q, rfl⟩ := hI
          have dd := fun i => (show (w2.drewN q).cell? ⟨g, i, none⟩ = _ from cc i)
          go_simp
          done
        try simp only [Act.put, List.setIfInBounds_toArray, List.set_cons_zero, List.set_cons_succ]
        refine wpHold_pure' (v := ?_) ?_ (fun w => ?_) ?_
        rotate_left
        focus (go_simp; done)
        focus (first | (go_simp; done) | (go_simp; with_reducible rfl))
        try simp only [Act.put, List.setIfInBounds_toArray, List.set_cons_zero, List.set_cons_succ]
        refine wpHold_pure' (v := ?_) ?_ (fun w => ?_) ?_
        rotate_left
        focus (go_simp; done)
        focus (first | (go_simp; done) | (go_simp; with_reducible rfl))
        try simp only [Act.put, List.setIfInBounds_toArray, List.set_cons_zero, List.set_cons_succ]
        refine wpHold_pure' (v := ?_) ?_ (fun w => ?_) ?_
        rotate_left
        focus (go_simp; done)
        focus (first | (go_simp; done) | (go_simp; with_reducible rfl))
        try simp only [Act.put, List.setIfInBounds_toArray, List.set_cons_zero, List.set_cons_succ]
        refine wpHold_pure' (v := ?_) ?_ (fun w => ?_) ?_
        rotate_left
        focus (go_simp; done)
        focus (first | (go_simp; done) | (go_simp; with_reducible rfl))
        try simp only [Act.put, List.setIfInBounds_toArray, List.set_cons_zero, List.set_cons_succ]
        refine wpHold_read' (v := .string x.val) (by first | rfl | (go_simp; done)) (fun w' hI => ?_) ?_
        · obtain ⟨q, rfl⟩ := hI
          have dd : (w2.drewN q).cell? ⟨b, o + i * 2 + 1, none⟩ = some (.string x.val) := e1
          go_simp
          done
        try simp only [Act.put, List.setIfInBounds_toArray, List.set_cons_zero, List.set_cons_succ]
        refine wpHold_call' (v := .bool cv) (f := 78) (args := #[.slice ao nv c, .string x.val]) (by first | rfl | (go_simp; done)) (fun w' => ?_) (fun w' hI => ?_) ?_
        · go_simp
          done
        · obtain ⟨q, rfl⟩ := hI
          exact HC.out q
        try simp only [Act.put, List.setIfInBounds_toArray, List.set_cons_zero, List.set_cons_succ]
        refine wpHold_pure' (v := ?_) ?_ (fun w => ?_) ?_
        rotate_left
        focus (go_simp; done)
        focus (first | (go_simp; done) | (go_simp; with_reducible rfl))
        try simp only [Act.put, List.setIfInBounds_toArray, List.set_cons_zero, List.set_cons_succ]
        (first | (refine wpHold_pure (v := ?_) (by rfl) (fun w => ?_) ?_; rotate_left; focus (first | (go_simp; done) | (go_simp; with_reducible rfl))) | (refine wpHold_skip ?_ ?_; focus (go_simp; done)) | (refine wpHold_pure' (v := ?_) ?_ (fun w => ?_) ?_; rotate_left; focus (go_simp; done); focus (first | (go_simp; done) | (go_simp; with_reducible rfl)))); try simp only [Act.put, List.setIfInBounds_toArray, List.set_cons_zero, List.set_cons_succ]
        refine wpHold_nil ?_
        rintro w' ⟨q, rfl⟩
        go_wp2_with fail
        go_ret
        exact ⟨congrArg (fun b => Ending.returned (Value.bool b)) HR3.out, Hb2.out.trans (below_drewN _ _ _)⟩
      · have q2 : (kd == 2) = false := by rw [beq_eq_false_iff_ne]; exact k2
        by_cases k3 : kd = 3
        · subst k3
          have HR3 : Hid (true = R) := Lib.hid (by rw [HR2.out]; rfl)
          clear HR2 k1 k2
          go_wp2_with fail
          go_ret
          exact ⟨congrArg (fun b => Ending.returned (Value.bool b)) HR3.out, Hb2.out⟩
        · have q3 : (kd == 3) = false := by rw [beq_eq_false_iff_ne]; exact k3
          have HR3 : Hid (false = R) := Lib.hid (by rw [HR2.out, if_neg k1, if_neg k2, decide_eq_false k3])
          clear HR2 k1 k2 k3
          go_wp2_with fail
          go_ret
          exact ⟨congrArg (fun b => Ending.returned (Value.bool b)) HR3.out, Hb2.out⟩
end Go.Proofs.YtlbolbkikkiifaaGreatDoor
/- query: all, Match; strange: their contracts. -/
namespace Go.Proofs.YtlbolbkikkiifaaGreatDoor
open Go.RowKit

set_option maxRecDepth 100000 in
set_option maxHeartbeats 3200000 in
theorem allReq_any (v vl : Value) (l : List GReq) (labels : List GLabel) (w : World) (h : RowAt ReqR 3 w v l) (hl : l.length ≤ 1048576) (hok : ∀ r ∈ l, okReq r) (hlab : RowAt LabelR 2 w vl labels) (hll : labels.length ≤ 1048576) :
    Calls Tryz.prog 27 #[v, vl] w fun e w' => e = .returned (.bool (l.all (holdsB labels))) ∧ Below w.heap.size w w' := by
  obtain ⟨a1, c1, rfl, _, _⟩ := h.len
  obtain ⟨al, cl, rfl, _, _⟩ := hlab.len
  obtain ⟨R, HR⟩ : ∃ R, Hid (l.all (holdsB labels) = R) := ⟨_, Lib.hid rfl⟩
  rw [HR.out]
  have H := Lib.hid h
  have Hlab := Lib.hid hlab
  have Hok := Lib.hid hok
  clear h hlab hok
  go_enter Tryz.func27, Tryz.ntmps27
  go_wp2_with fail
  go_loopg [9] l.length (fun k u9 wr => ∃ i : Nat, i + k = l.length ∧ u9 = .int .i64 (i : Int) ∧ Hid (∀ x ∈ l.take i, holdsB labels x = true) ∧ Hid (Below w.heap.size w wr))
  case atStart => exact ⟨0, by omega, rfl, Lib.hid (by simp), Lib.hid (Below.refl _ _)⟩
  case round =>
    obtain ⟨i, hig, rfl, Hall, Hbel⟩ := hrel
    have hsr := Hbel.out.size
    cases gk with
    | zero =>
      obtain rfl : i = l.length := by omega
      have HR5 : Hid (true = R) := Lib.hid (by
        rw [← HR.out, eq_comm, List.all_eq_true]
        intro x hx
        refine Hall.out x ?_
        rw [List.take_of_length_le (Nat.le_refl _)]; exact hx)
      go_wp2_with fail
      go_ret
      exact ⟨congrArg (fun b => Ending.returned (Value.bool b)) HR5.out, Hbel.out⟩
    | succ k =>
      have hil : i < l.length := by omega
      obtain ⟨x, hxi⟩ : ∃ x, l[i]? = some x := ⟨l[i]'(by omega), List.getElem?_eq_getElem _⟩
      obtain ⟨b, o, c', hv, _, _, hbs, hcell⟩ := H.out.form (by omega) (by omega)
      injection hv with u1 u2 u3
      subst u1
      clear u2 u3
      obtain ⟨ds, _, hcc, hR⟩ := hcell i x hxi
      have hR2 := stays_req _ _ _ _ (keeps_below Hbel.out) hR
      obtain ⟨y2, rfl, _, _⟩ := hR
      have e0 : wr.cell? ⟨b, o + i * 3, none⟩ = some (.string x.key) := (Hbel.out.cell (p := ⟨b, _, none⟩) hbs).trans (by simpa using hcc 0 _ rfl)
      have e1 : wr.cell? ⟨b, o + i * 3 + 1, none⟩ = some (.int .i64 x.kind) := (Hbel.out.cell (p := ⟨b, _, none⟩) hbs).trans (hcc 1 _ rfl)
      have e2 : wr.cell? ⟨b, o + i * 3 + 2, none⟩ = some y2 := (Hbel.out.cell (p := ⟨b, _, none⟩) hbs).trans (hcc 2 _ rfl)
      have q1 : (0 : Int) ≤ (i : Int) := by omega
      have q2 : (i : Int) < (l.length : Int) := by omega
      have HRx := Lib.hid hR2
      have Hxi := Lib.hid hxi
      obtain ⟨ao, co, rfl, _, _⟩ : ∃ ao co, y2 = .slice ao x.vals.length co ∧ True ∧ True := by
        obtain ⟨v2, h1, _, h2⟩ := hR2
        obtain ⟨ao, co, h3, _, _⟩ := h2.row.len
        injection h1 with _ h1; injection h1 with _ h1; injection h1 with h1 _
        exact ⟨ao, co, h1.trans h3, trivial, trivial⟩
      clear hcc hcell hxi hR2
      go_upto_region 4 with fail
      obtain ⟨W, hW⟩ : ∃ W, W = wr.alloc (.cells #[.string x.key, .int .i64 x.kind, .slice ao x.vals.length co] 26) := ⟨_, rfl⟩
      obtain ⟨gb, hgb⟩ : ∃ gb, gb = wr.heap.size := ⟨_, rfl⟩
      rw [← hW, ← hgb]
      have c0 : W.heap[gb]? = some (.cells #[.string x.key, .int .i64 x.kind, .slice ao x.vals.length co] 26 (0, 0)) := by rw [hW, hgb]; exact heap_alloc_new wr _
      have hb5 : Below wr.heap.size wr W := by rw [hW]; exact (Below.refl _ _).alloc (Nat.le_refl _) _
      have HW := Lib.hid (Hbel.out.trans (hb5.mono hsr))
      have HRW := Lib.hid (stays_req _ _ _ _ (keeps_below hb5) HRx.out)
      have cc := fun i => cell_block c0 i
      clear hW hgb hb5 c0 e0 e1 e2
      go_wp2_with fail
      refine (holds_any x _ _ labels W HRW.out (Hok.out x (List.mem_of_getElem? Hxi.out)) (Hlab.out.below stays_label HW.out) (by omega)).mono ?_
      rintro E w3 ⟨rfl, hb3⟩
      have Hb3 := Lib.hid (HW.out.trans (hb3.mono HW.out.size))
      obtain ⟨rE, HrE⟩ : ∃ rE, Hid (holdsB labels x = rE) := ⟨_, Lib.hid rfl⟩
      rw [HrE.out]
      clear hb3 cc
      cases rE with
      | true =>
        have Hall2 : Hid (∀ y ∈ l.take (i + 1), holdsB labels y = true) := Lib.hid fun y hy => by
          rw [List.take_add_one, Hxi.out] at hy
          rcases List.mem_append.1 hy with h | h
          · exact Hall.out y h
          · simp at h; subst h; exact HrE.out
        go_wp2_with fail
        go_roundg k
        case measure => omega
        case rel => exact ⟨i + 1, by omega, by go_num, Hall2, Hb3⟩
      | false =>
        have HR5 : Hid (false = R) := Lib.hid (by
          rw [← HR.out, eq_comm, List.all_eq_false]
          exact ⟨x, List.mem_of_getElem? Hxi.out, by rw [HrE.out]; simp⟩)
        go_wp2_with fail
        go_ret
        exact ⟨congrArg (fun b => Ending.returned (Value.bool b)) HR5.out, Hb3.out⟩
set_option maxRecDepth 100000 in
set_option maxHeartbeats 1600000 in
theorem match_any (v vl : Value) (l : List GReq) (labels : List GLabel) (m : Int) (w : World) (h : RowAt ReqR 3 w v l) (hl : l.length ≤ 1048576) (hok : ∀ r ∈ l, okReq r) (hlab : RowAt LabelR 2 w vl labels) (hll : labels.length ≤ 1048576) (hokl : ∀ x ∈ labels, okLab x) (hm : MaxOK m w) :
    Calls Tryz.prog 8 #[v, vl] w fun e w' => e = .returned (.tuple #[.bool (matchB l labels), .int .i64 (matchE l labels)]) ∧ Below w.heap.size w w' := by
  have hE : matchE l labels = if reqsE l = 0 then labelsE labels else reqsE l := rfl
  have hB : matchB l labels = (decide (matchE l labels = 0) && l.all (holdsB labels)) := rfl
  obtain ⟨ME, HME⟩ : ∃ ME, Hid (matchE l labels = ME) := ⟨_, Lib.hid rfl⟩
  obtain ⟨MB, HMB⟩ : ∃ MB, Hid (matchB l labels = MB) := ⟨_, Lib.hid rfl⟩
  rw [HME.out, HMB.out]
  rw [HME.out] at hE hB
  rw [HMB.out] at hB
  have HE := Lib.hid hE
  have HB := Lib.hid hB
  have H := Lib.hid h
  have Hlab := Lib.hid hlab
  have Hok := Lib.hid hok
  have Hokl := Lib.hid hokl
  have Hm := Lib.hid hm
  clear h hlab hok hokl hm hE hB
  go_enter Tryz.func8, Tryz.ntmps8
  go_wp2_with fail
  refine (checks_any v l m w H.out hl Hok.out Hm.out).mono ?_
  rintro E w1 ⟨rfl, hb1⟩
  have Hb1 := Lib.hid hb1
  obtain ⟨e1, He1⟩ : ∃ e1, Hid (reqsE l = e1) := ⟨_, Lib.hid rfl⟩
  rw [He1.out]
  clear hb1
  by_cases h1 : e1 = 0
  · subst h1
    have HE2 : Hid (ME = labelsE labels) := Lib.hid (by rw [HE.out, if_pos He1.out])
    go_wp2_with fail
    refine (labels_any vl labels m w1 (Hlab.out.below stays_label Hb1.out) hll Hokl.out (Hm.out.below Hb1.out)).mono ?_
    rintro E w2 ⟨rfl, hb2⟩
    have Hb2 := Lib.hid (Hb1.out.trans (hb2.mono Hb1.out.size))
    rw [← HE2.out]
    clear hb2
    by_cases h2 : ME = 0
    · subst h2
      have HB2 : Hid (l.all (holdsB labels) = MB) := Lib.hid (by rw [HB.out, decide_eq_true rfl, Bool.true_and])
      go_wp2_with fail
      refine (allReq_any v vl l labels w2 (H.out.below stays_req Hb2.out) hl Hok.out (Hlab.out.below stays_label Hb2.out) hll).mono ?_
      rintro E w3 ⟨rfl, hb3⟩
      have Hb3 := Lib.hid (Hb2.out.trans (hb3.mono Hb2.out.size))
      rw [HB2.out]
      clear hb3
      go_wp2_with fail
      go_ret2
      exact ⟨rfl, Hb3.out⟩
    · have q1 : (ME == 0) = false := by rw [beq_eq_false_iff_ne]; exact h2
      have q2 : (ME != 0) = true := by rw [bne_iff_ne]; exact h2
      have hB2 : MB = false := by rw [HB.out, decide_eq_false h2, Bool.false_and]
      subst hB2
      clear h2
      go_wp2_with fail
      go_ret2
      exact ⟨rfl, Hb2.out⟩
  · have q1 : (e1 == 0) = false := by rw [beq_eq_false_iff_ne]; exact h1
    have q2 : (e1 != 0) = true := by rw [bne_iff_ne]; exact h1
    have hE2 : ME = e1 := by rw [HE.out, He1.out, if_neg h1]
    have hB2 : MB = false := by rw [HB.out, hE2, decide_eq_false h1, Bool.false_and]
    subst hB2
    subst hE2
    clear h1
    go_wp2_with fail
    go_ret2
    exact ⟨rfl, Hb1.out⟩
end Go.Proofs.YtlbolbkikkiifaaGreatDoor
/- query: the bounds; Copy at parts. -/
namespace Go.Proofs.YtlbolbkikkiifaaGreatDoor
open Go.RowKit

theorem okLabs_of {l : List GLabel} (h : (l.map labelB).sum ≤ 1048576) : (∀ x ∈ l, okLab x) ∧ l.length ≤ 1048576 := by
  refine ⟨fun x hx => ?_, Nat.le_trans (sum_ge_length labelB (fun x => by unfold labelB; omega) l) h⟩
  have h1 : labelB x ≤ (l.map labelB).sum := le_sum (List.mem_map_of_mem hx)
  have h2 : labelB x = ((x.key.size + 1) + ((x.val.size + 1) + 0)) + 1 := rfl
  exact ⟨by omega, by omega⟩
end Go.Proofs.YtlbolbkikkiifaaGreatDoor
/- Rows of the call's own: a whole element is stored; the tail is cleared; cut short. Any program. -/
namespace Go.Proofs.YtlbolbkikkiifaaGreatDoor
open Go.RowKit

/-- stores into a row of the call's own, one behind the other: all else stays -/
theorem setCells_all (g : Nat) (t : TypeId) : ∀ (vs : List Value) (i : Nat) (cur : Array Value) (w : World), w.heap[g]? = some (.cells cur t (0, 0)) → i + vs.length ≤ cur.size →
    ∃ cur', (w.setCells g i vs).heap[g]? = some (.cells cur' t (0, 0)) ∧ cur'.size = cur.size ∧ (∀ j, j < i ∨ i + vs.length ≤ j → cur'[j]? = cur[j]?) ∧ (∀ j u, vs[j]? = some u → cur'[i + j]? = some u) ∧ Touch g w (w.setCells g i vs)
  | [], i, cur, w, hg, _ => ⟨cur, hg, rfl, fun _ _ => rfl, fun j u h => by simp at h, ⟨rfl, rfl, rfl, rfl, fun _ _ => rfl⟩⟩
  | v :: r, i, cur, w, hg, hl => by
    simp only [List.length_cons] at hl
    obtain ⟨h1, h2⟩ := touch_setCell (w := w) (i := i) (v := v) hg
    obtain ⟨cur', g1, g2, g3, g4, g5⟩ := setCells_all g t r (i + 1) _ _ h1 (by simp; omega)
    refine ⟨cur', g1, by simpa using g2, fun j hj => ?_, fun j u hu => ?_, ?_⟩
    · simp only [List.length_cons] at hj
      rw [g3 j (by omega), Array.getElem?_setIfInBounds, if_neg (by omega)]
    · cases j with
      | zero =>
        simp only [List.getElem?_cons_zero, Option.some.injEq] at hu
        subst hu
        rw [Nat.add_zero, g3 i (by omega), Array.getElem?_setIfInBounds, if_pos rfl, if_pos (by omega)]
      | succ j =>
        have := g4 j u (by simpa using hu)
        rwa [show i + 1 + j = i + (j + 1) by omega] at this
    · show Touch g w ((w.setCell ⟨g, i, none⟩ v).setCells g (i + 1) r)
      exact ⟨g5.os.trans h2.os, g5.tape.trans h2.tape, g5.output.trans h2.output, g5.size.trans h2.size, fun b hb => (g5.other b hb).trans (h2.other b hb)⟩
section
variable {α : Type} {R : Rd α} {k B : Nat} {e : TypeId} {w : World} {g n c : Nat} {l : List α}
/-- its cells may be written -/
theorem OwnAt.there (h : OwnAt R k w B e (.slice (some ⟨g, 0, none⟩) n c) l) {o m : Nat} (hm : o + m ≤ c * k) : w.there g o m := by
  obtain ⟨css, h1, h2, h3, h4⟩ := h
  rcases h3.2 with ⟨h5, _⟩ | ⟨g', cap, cur, hv, hB, hh, hle, hmx, hz, ht⟩
  · cases h5
  · cases hv
    intro j hj
    refine ⟨?_, free_block hh _⟩
    rw [cell_block hh, Array.getElem?_eq_getElem (by omega)]
    rfl
/-- a whole element is stored -/
theorem OwnAt.storeElem (hf : Flat R) (h : OwnAt R k w B e (.slice (some ⟨g, 0, none⟩) n c) l) {i : Nat} (hi : i < l.length) {cs : List Value} (hk : cs.length = k) {x : α} (hR : R w cs x) :
    OwnAt R k (w.setCells g (i * k) cs) B e (.slice (some ⟨g, 0, none⟩) n c) (l.set i x) ∧ Touch g w (w.setCells g (i * k) cs) := by
  obtain ⟨css, h1, h2, h3, h4⟩ := h
  rcases h3.2 with ⟨h5, _⟩ | ⟨g', cap, cur, hv, hB, hh, hle, hmx, hz, ht⟩
  · cases h5
  · have hlen : css.flatten.length = l.length * k := by rw [flat_len h2, h1]
    cases hv
    have hik : i * k + k ≤ l.length * k := by rw [← Nat.succ_mul]; exact Nat.mul_le_mul_right k hi
    have hlc : l.length * k ≤ c * k := Nat.mul_le_mul_right k hle
    obtain ⟨cur', g1, g2, g3, g4, g5⟩ := setCells_all g e cs (i * k) cur w hh (by rw [hk, hz]; omega)
    have hk2 : ∀ q ∈ css.set i cs, q.length = k := fun q hq => by
      rcases List.mem_or_eq_of_mem_set hq with h6 | h6
      · exact h2 q h6
      · rw [h6]; exact hk
    have hfl : ∀ t, t < l.length * k → cur'[t]? = (css.set i cs).flatten[t]? := fun t htl => by
      have hk0 : 0 < k := by
        rcases Nat.eq_zero_or_pos k with h0 | h0
        · subst h0; simp at htl
        · exact h0
      have hdm : t = t / k * k + t % k := by rw [Nat.mul_comm]; exact (Nat.div_add_mod t k).symm
      have hmod : t % k < k := Nat.mod_lt _ hk0
      have hdiv : t / k < css.length := by rw [h1]; exact (Nat.div_lt_iff_lt_mul hk0).2 htl
      by_cases hti : t / k = i
      · have hu : cs[t % k]? = some (cs[t % k]'(by omega)) := List.getElem?_eq_getElem _
        have e1 := get_flat hk2 (j := i) (i := t % k) (cs := cs) (by rw [List.getElem?_set, if_pos rfl, if_pos (by omega)]) hu
        have e2 := g4 (t % k) _ hu
        rw [← hti, ← hdm] at e2
        rw [← hti, ← hdm] at e1
        rw [hti] at e1
        rw [e2, e1]
      · have hq : css[t / k]? = some css[t / k] := List.getElem?_eq_getElem hdiv
        have hu : (css[t / k])[t % k]? = some ((css[t / k])[t % k]'(by rw [h2 _ (List.getElem_mem _)]; exact hmod)) := List.getElem?_eq_getElem _
        have e1 := get_flat hk2 (j := t / k) (i := t % k) (by rw [List.getElem?_set, if_neg (fun h => hti h.symm)]; exact hq) hu
        have e3 := get_flat h2 (j := t / k) (i := t % k) hq hu
        rw [← hdm] at e1 e3
        have hout : t < i * k ∨ i * k + cs.length ≤ t := by
          rw [hk]
          rcases Nat.lt_or_gt_of_ne hti with h7 | h7
          · left
            have : (t / k + 1) * k ≤ i * k := Nat.mul_le_mul_right k h7
            rw [Nat.succ_mul] at this; omega
          · right
            have : (i + 1) * k ≤ t / k * k := Nat.mul_le_mul_right k h7
            rw [Nat.succ_mul] at this; omega
        rw [g3 t hout, e1, ← e3, ← ht, List.getElem?_take_of_lt htl, Array.getElem?_toList]
    refine ⟨⟨css.set i cs, by simp [h1], hk2, ?_, fun j q y hq hy => ?_⟩, g5⟩
    · rw [List.length_set]
      refine ⟨by rw [flat_len hk2, List.length_set, h1], .inr ⟨g, c, cur', rfl, hB, g1, hle, hmx, by rw [g2]; exact hz, ?_⟩⟩
      apply List.ext_getElem?
      intro t
      by_cases htl : t < l.length * k
      · rw [List.getElem?_take_of_lt htl, Array.getElem?_toList, hfl t htl]
      · rw [List.getElem?_eq_none (by rw [List.length_take]; omega), List.getElem?_eq_none (by rw [flat_len hk2, List.length_set, h1]; omega)]
    · by_cases hij : i = j
      · subst hij
        rw [List.getElem?_set, if_pos rfl, if_pos (by omega)] at hq
        rw [List.getElem?_set, if_pos rfl, if_pos hi] at hy
        cases hq; cases hy
        exact hf _ _ _ _ hR
      · rw [List.getElem?_set, if_neg hij] at hq hy
        exact hf _ _ _ _ (h4 j q y hq hy)
/-- stores behind the first i; cut short there -/
theorem OwnAt.behind (hf : Flat R) (h : OwnAt R k w B e (.slice (some ⟨g, 0, none⟩) n c) l) {i : Nat} (hi : i ≤ l.length) {vs : List Value} (hvs : i * k + vs.length ≤ c * k) :
    OwnAt R k (w.setCells g (i * k) vs) B e (.slice (some ⟨g, 0, none⟩) i c) (l.take i) ∧ Touch g w (w.setCells g (i * k) vs) := by
  obtain ⟨css, h1, h2, h3, h4⟩ := h
  rcases h3.2 with ⟨h5, _⟩ | ⟨g', cap, cur, hv, hB, hh, hle, hmx, hz, ht⟩
  · cases h5
  · cases hv
    obtain ⟨cur', g1, g2, g3, g4, g5⟩ := setCells_all g e vs (i * k) cur w hh (by rw [hz]; exact hvs)
    have hik : i * k ≤ l.length * k := Nat.mul_le_mul_right k hi
    have hlk : (l.take i).length = i := by rw [List.length_take]; omega
    have hk2 : ∀ q ∈ css.take i, q.length = k := fun q hq => h2 q (List.mem_of_mem_take hq)
    have hfl : (css.take i).flatten.length = i * k := by rw [flat_len hk2, List.length_take, h1]; congr 1; omega
    have hpre : (css.take i).flatten = css.flatten.take (i * k) := by
      have h7 : css.flatten = (css.take i).flatten ++ (css.drop i).flatten := by rw [← List.flatten_append, List.take_append_drop]
      rw [h7, ← hfl, List.take_left]
    refine ⟨⟨css.take i, by rw [List.length_take, List.length_take, h1], hk2, ?_, fun j q y hq hy => ?_⟩, g5⟩
    · rw [hlk]
      refine ⟨hfl, .inr ⟨g, c, cur', rfl, hB, g1, by omega, hmx, by rw [g2]; exact hz, ?_⟩⟩
      rw [hpre, ← ht]
      apply List.ext_getElem?
      intro t
      by_cases htl : t < i * k
      · rw [List.getElem?_take_of_lt htl, Array.getElem?_toList, g3 t (.inl htl), List.getElem?_take_of_lt htl, List.getElem?_take_of_lt (by omega), Array.getElem?_toList]
      · rw [List.getElem?_eq_none (by rw [List.length_take]; omega), List.getElem?_eq_none (by rw [List.length_take]; omega)]
    · have hj : j < i := by have := (List.getElem?_eq_some_iff.1 hy).1; omega
      rw [List.getElem?_take_of_lt hj] at hq hy
      exact hf _ _ _ _ (h4 j q y hq hy)
end
/-- 'clear(s)' at elements of several cells -/
theorem run_clear_rows {P : Program} (w : World) (t e ty : TypeId) (z : Value) (ht : P.underlying t = some (.slice e)) (hv : ∀ w, (zeroValue e).run P w = .ok z w) (h1 : ∀ u ∈ z.cells, u.oneCell' = true) (b o n c : Nat) (hn : 0 < n)
    (hc : w.there b o (Builtin.zeroCells z.cells n).size) :
    (Builtin.clear_ #[t] ty #[.slice (some ⟨b, o, none⟩) n c]).run P w = .ok (.tuple #[]) (w.setCells b o (Builtin.zeroCells z.cells n).toList) := by
  have hone : ∀ u ∈ (Builtin.zeroCells z.cells n).toList, u.oneCell' = true := fun u hu => by
    unfold Builtin.zeroCells at hu
    rw [Array.toList_map] at hu
    obtain ⟨i, hi, rfl⟩ := List.mem_map.1 hu
    have hi2 : i < n * z.cells.size := by simpa using hi
    have h0 : 0 < z.cells.size := by
      rcases Nat.eq_zero_or_pos z.cells.size with h | h
      · rw [h] at hi2; simp at hi2
      · exact h
    have hlt : i % z.cells.size < z.cells.size := Nat.mod_lt _ h0
    rw [getElem!_pos z.cells _ hlt]
    exact h1 _ (Array.getElem_mem hlt)
  have hst := run_storeCells_cells (P := P) b o (Builtin.zeroCells z.cells n).toList 0 w (fun j hj => by simpa using (hc j (by simpa using hj)).1) (fun j hj => by simpa using (hc j (by simpa using hj)).2) hone
  simp only [Nat.add_zero] at hst
  obtain ⟨m, rfl⟩ : ∃ m, n = m + 1 := ⟨n - 1, by omega⟩
  simp [Builtin.clear_, run_underlying ht, hv, hst]
theorem wpList_clear_rows {P : Program} (w : World) {ops : Array Oper} {rest : List Oper} {o : Oper} {a : Act} {Q : Exit → Act → World → Prop} (hg : o.guard = none) (s : Operand) (t e : TypeId)
    (ho : o.op = .call { callee := .builtin .clear, args := #[s], argTypes := #[t] }) (z : Value) (ht : P.underlying t = some (.slice e)) (hv : ∀ w, (zeroValue e).run P w = .ok z w) (h1 : ∀ u ∈ z.cells, u.oneCell' = true) (b i n c : Nat) (hn : 0 < n)
    (hs : a.eval s = .slice (some ⟨b, i, none⟩) n c) (hc : w.there b i (Builtin.zeroCells z.cells n).size)
    (h : wpList P ops Q rest (a.put o.dst (.tuple #[])) (w.setCells b i (Builtin.zeroCells z.cells n).toList)) : wpList P ops Q (o :: rest) a w := by
  refine wpList_plain hg fun K hK' => ?_
  have hrun := run_clear_rows w t e o.type z ht hv h1 b i n c hn hc
  unfold Oper.wp
  simp [execOp, ho, resolve, invoke, builtin, hs, hrun, Result.andThen]
  exact hK' _ _ h
theorem zeroCells_size (z : Array Value) (n : Nat) : (Builtin.zeroCells z n).size = n * z.size := by simp [Builtin.zeroCells]
end Go.Proofs.YtlbolbkikkiifaaGreatDoor
/- slices.DeleteFunc at parts of a selector. -/
namespace Go.Proofs.YtlbolbkikkiifaaGreatDoor
open Go.RowKit

theorem Tryz.sizeReq : (Tryz.prog.info? 26).map (·.size) = some 3 := by kernel_rfl
abbrev ReqW (w0 : World) : Rd GReq := AtW w0 ReqR
theorem keepC_mono {Cap : World → Prop} {B : Nat} (h : ∀ w w' : World, Cap w → Below B w w' → Cap w') (w w' : World) (hB : B ≤ w.heap.size) (hc : Cap w) (hb : Below w.heap.size w w') : Cap w' := h w w' hc (hb.mono hB)
set_option maxRecDepth 100000 in
set_option maxHeartbeats 3200000 in
theorem deleteReq_any {f : FuncId} {cap : Value} {Cap : World → Prop} {p : GReq → Bool} (w0 : World) (B : Nat) (enter : ∀ (a : Array Value) (w : World), (callFunc f a).run Tryz.prog w = .ok (.enter f a) w)
    (keepC : ∀ w w' : World, Cap w → Below B w w' → Cap w')
    (clo : ∀ (x : GReq) (y2 : Value) (w : World), ReqR w [.string x.key, .int .i64 x.kind, y2] x → Cap w → Calls Tryz.prog f #[.agg #[.string x.key, .int .i64 x.kind, y2], cap] w fun e w' => e = .returned (.bool (p x)) ∧ Below w.heap.size w w')
    (v : Value) (l : List GReq) (w : World) (h : OwnAt (ReqW w0) 3 w B 26 v l) (hb0 : Below w0.heap.size w0 w) (h0B : w0.heap.size ≤ B) (hB : B ≤ w.heap.size) (hl : l.length ≤ 1048576) (hc : Cap w) :
    Calls Tryz.prog 81 #[v, .func (.func f) #[] #[cap]] w fun e w' => ∃ v', e = .returned v' ∧ OwnAt (ReqW w0) 3 w' B 26 v' (l.filter fun r => !p r) ∧ Below B w w' := by
  have hrow := h.row.ofW stays_req hb0
  have hidx := idxReq_any (p := p) (Cap := fun w => Cap w ∧ B ≤ w.heap.size) (OK := fun _ => True) enter (fun w w' hc hb => ⟨keepC_mono keepC w w' hc.2 hc.1 hb, by have := hb.size; have := hc.2; omega⟩) (fun x y2 w hx _ hc => clo x y2 w hx hc.1) v l w hrow (by omega) (fun _ _ => trivial) ⟨hc, hB⟩
  have Hidx := Lib.hid hidx
  have H := Lib.hid h
  have Hb0 := Lib.hid hb0
  have HC := Lib.hid clo
  have HK := Lib.hid keepC
  have Hc := Lib.hid hc
  have ep := enter
  rcases h.form with ⟨rfl, rfl⟩ | ⟨g, c, rfl, hgB, hgw, hlc, hcm⟩
  · clear h hb0 clo keepC hc enter hidx hrow
    go_enter Tryz.func81, Tryz.ntmps81
    go_wp2_with fail
    refine Hidx.out.mono ?_
    rintro E w1 ⟨n, rfl, hn, hb1⟩
    rcases hn with ⟨rfl, _⟩ | ⟨i, x, rfl, hx, _⟩
    · have Hb1 := Lib.hid (hb1.mono hB)
      clear hb1
      go_wp2_with fail
      go_ret
      exact ⟨_, rfl, OwnAt.nil _, Hb1.out⟩
    · simp at hx
  · clear h hb0 clo keepC hc enter hidx hrow
    go_enter Tryz.func81, Tryz.ntmps81
    go_wp2_with fail
    refine Hidx.out.mono ?_
    rintro E w1 ⟨n, rfl, hn, hb1⟩
    have Hown := Lib.hid (H.out.below (flat_atW w0 ReqR).stays hb1)
    have Hb1 := Lib.hid (hb1.mono hB)
    have Hc1 := Lib.hid (keepC_mono HK.out w w1 hB Hc.out hb1)
    have hs1 := hb1.size
    clear hb1
    rcases hn with ⟨rfl, hnone⟩ | ⟨i0, x0, rfl, hx0, hf0, hpre⟩
    · have hfil : l.filter (fun r => !p r) = l := List.filter_eq_self.2 fun r hr => by
        have := List.find?_eq_none.1 hnone r hr
        simpa using this
      go_wp2_with fail
      go_ret
      exact ⟨_, rfl, by rw [hfil]; exact Hown.out, Hb1.out⟩
    · have hi0 : i0 < l.length := (List.getElem?_eq_some_iff.1 hx0).1
      have hpx0 : p x0 = true := by have := List.find?_some hf0; exact this
      have hfil0 : (l.take (i0 + 1)).filter (fun r => !p r) = l.take i0 := by
        rw [List.take_add_one, hx0, List.filter_append, List.filter_eq_self.2 fun r hr => by rw [hpre r hr]; rfl]
        simp [hpx0]
      have q0 : ((i0 : Int) == -1) = false := by rw [beq_eq_false_iff_ne]; omega
      have Hfil0 := Lib.hid hfil0
      clear hx0 hf0 hpre hpx0 hfil0
      go_wp2_with fail
      go_loopg [5, 6] l.length (fun gq u5 u6 wr => ∃ (i j : Nat) (S : List GReq), j + gq = l.length + (i0 + 1) ∧ j ≤ l.length ∧ i < j ∧ u5 = .int .i64 (i : Int) ∧ u6 = .int .i64 (j : Int) ∧ Hid (OwnAt (ReqW w0) 3 wr B 26 (.slice (some ⟨g, 0, none⟩) l.length c) S) ∧ S.length = l.length ∧ Hid (S.take i = (l.take j).filter fun r => !p r) ∧ Hid (S.drop j = l.drop j) ∧ Hid (Below B w wr) ∧ Hid (Cap wr))
      case atStart => exact ⟨i0, i0 + 1, l, by omega, by omega, by omega, rfl, by go_num, Hown, rfl, Lib.hid Hfil0.out.symm, Lib.hid rfl, Hb1, Hc1⟩
      case round =>
        obtain ⟨i, j, S, hjg, hjl, hij, rfl, rfl, HS, hSl, Hf, Hd, Hbel, Hcr⟩ := hrel
        have hsr := Hbel.out.size
        by_cases hend : j < l.length
        · have hSj : j < S.length := by omega
          obtain ⟨x, hxi⟩ : ∃ x, l[j]? = some x := ⟨l[j], List.getElem?_eq_getElem hend⟩
          have hxS : S[j]? = some x := by
            have h1 := congrArg (fun m => m[0]?) Hd.out
            simp only [List.getElem?_drop, Nat.add_zero] at h1
            rw [h1, hxi]
          obtain ⟨b, o, c', hv, _, _, hbs, hcell⟩ := HS.out.row.form (by omega) (by omega)
          injection hv with u1 u2 u3
          injection u1 with u1
          injection u1 with u1 u4
          subst u1; subst u4
          clear u2 u3
          obtain ⟨ds, _, hcc, hR⟩ := hcell j x hxS
          have hRw : ReqR w0 ds x := hR
          have hRc := stays_req _ _ _ _ (keeps_below (Hb0.out.trans (Hbel.out.mono h0B))) hRw
          obtain ⟨y2, rfl, _, hst⟩ := hR
          obtain ⟨ao, co, rfl, _, _⟩ := hst.row.len
          have e0 : wr.cell? ⟨g, j * 3, none⟩ = some (.string x.key) := by simpa using hcc 0 _ rfl
          have e1 : wr.cell? ⟨g, j * 3 + 1, none⟩ = some (.int .i64 x.kind) := by simpa using hcc 1 _ rfl
          have e2 : wr.cell? ⟨g, j * 3 + 2, none⟩ = some (.slice ao x.vals.length co) := by simpa using hcc 2 _ rfl
          have q1 : (0 : Int) ≤ (j : Int) := by omega
          have q2 : (j : Int) < (l.length : Int) := by omega
          have q3 : (0 : Int) ≤ (i : Int) := by omega
          have q4 : (i : Int) < (l.length : Int) := by omega
          have HRw := Lib.hid hRw
          have HRc := Lib.hid hRc
          have Hxi := Lib.hid hxi
          clear hcc hcell hxi hxS hRw hRc hst
          go_upto_region 8 with fail
          obtain ⟨W, hW⟩ : ∃ W, W = wr.alloc (.cells #[.string x.key, .int .i64 x.kind, .slice ao x.vals.length co] 26) := ⟨_, rfl⟩
          obtain ⟨gb, hgb⟩ : ∃ gb, gb = wr.heap.size := ⟨_, rfl⟩
          rw [← hW, ← hgb]
          have c0 : W.heap[gb]? = some (.cells #[.string x.key, .int .i64 x.kind, .slice ao x.vals.length co] 26 (0, 0)) := by rw [hW, hgb]; exact heap_alloc_new wr _
          have hb5 : Below wr.heap.size wr W := by rw [hW]; exact (Below.refl _ _).alloc (Nat.le_refl _) _
          have hBr : B ≤ wr.heap.size := by omega
          have HW := Lib.hid (Hbel.out.trans (hb5.mono hBr))
          have HRW := Lib.hid (stays_req _ _ _ _ (keeps_below hb5) HRc.out)
          have HSW := Lib.hid (HS.out.below (flat_atW w0 ReqR).stays hb5)
          have HcW := Lib.hid (keepC_mono HK.out _ _ hBr Hcr.out hb5)
          have Hc0 := Lib.hid c0
          have cc := fun i => cell_block c0 i
          have hWs := hb5.size
          clear hW hgb hb5 c0 e0 e1 e2
          go_wp2_with fail
          refine (HC.out x _ W HRW.out HcW.out).mono ?_
          rintro E w3 ⟨rfl, hb3⟩
          have HS3 := Lib.hid (HSW.out.below (flat_atW w0 ReqR).stays hb3)
          have Hb3 := Lib.hid (HW.out.trans (hb3.mono (by omega)))
          have Hc3 := Lib.hid (keepC_mono HK.out _ _ (by omega) HcW.out hb3)
          have d3 := below_block hb3 Hc0.out
          have hs3 := hb3.size
          clear hb3 cc
          have cc := fun i => cell_block d3 i
          obtain ⟨pb, Hpb⟩ : ∃ pb, Hid (p x = pb) := ⟨_, Lib.hid rfl⟩
          rw [Hpb.out]
          cases pb with
          | true =>
            have Hf2 : Hid (S.take i = (l.take (j + 1)).filter fun r => !p r) := Lib.hid (by
              rw [List.take_add_one, Hxi.out, List.filter_append, ← Hf.out]
              simp [Hpb.out])
            have Hd2 : Hid (S.drop (j + 1) = l.drop (j + 1)) := Lib.hid (by rw [← List.drop_drop, ← List.drop_drop, Hd.out])
            go_wp2_with fail
            go_roundg (gk - 1)
            case measure => omega
            case rel => exact ⟨i, j + 1, S, by omega, by omega, by omega, rfl, by go_num, HS3, hSl, Hf2, Hd2, Hb3, Hc3⟩
          | false =>
            go_upto_region 9 with fail
            obtain ⟨hnew, htouch⟩ := HS3.out.storeElem (flat_atW w0 ReqR) (i := i) (by omega) (cs := [.string x.key, .int .i64 x.kind, .slice ao x.vals.length co]) rfl (x := x) HRw.out
            have Hnew := Lib.hid hnew
            have Htouch := Lib.hid htouch
            have hthere := HS3.out.there (o := i * 3) (m := 3) (by omega)
            clear hnew htouch
            have Hf2 : Hid ((S.set i x).take (i + 1) = (l.take (j + 1)).filter fun r => !p r) := Lib.hid (by
              rw [List.take_add_one, List.getElem?_set, if_pos rfl, if_pos (by omega), List.take_set_of_le (Nat.le_refl i), List.take_add_one, Hxi.out, List.filter_append, ← Hf.out]
              simp [Hpb.out])
            have Hd2 : Hid ((S.set i x).drop (j + 1) = l.drop (j + 1)) := Lib.hid (by rw [List.drop_set_of_lt (by omega), ← List.drop_drop, ← List.drop_drop, Hd.out])
            iterate 13 go_step
            refine wpList_store_mid (by rfl) _ _ _ (by rfl) g (i * 3) #[.string x.key, .int .i64 x.kind, .slice ao x.vals.length co] (by rfl) (by rfl) hthere Tryz.sizeReq (by simp [Value.oneCell']) ?_
            obtain ⟨w4, Hw4⟩ : ∃ w4, Hid (w3.setCells g (i * 3) [.string x.key, .int .i64 x.kind, .slice ao x.vals.length co] = w4) := ⟨_, Lib.hid rfl⟩
            have hnew4 := Hnew.out
            have ht4 := Htouch.out
            rw [Hw4.out] at hnew4 ht4
            have Hnew4 := Lib.hid hnew4
            have Hb4 := Lib.hid (ht4.below Hb3.out hgB)
            have Hc4 := Lib.hid (HK.out _ _ Hc3.out (ht4.below (Below.refl _ _) hgB))
            have hw4 : w3.setCells g (i * 3) (#[.string x.key, .int .i64 x.kind, .slice ao x.vals.length co] : Array Value).toList = w4 := Hw4.out
            rw [hw4]
            clear hnew4 ht4 hw4 cc hthere
            go_wp2_with fail
            go_roundg (gk - 1)
            case measure => omega
            case rel => exact ⟨i + 1, j + 1, S.set i x, by omega, by omega, by omega, by go_num, by go_num, Hnew4, by rw [List.length_set]; exact hSl, Hf2, Hd2, Hb4, Hc4⟩
        · have hjn : j = l.length := by omega
          have hfin : S.take i = l.filter fun r => !p r := by
            rw [Hf.out, List.take_of_length_le (by omega)]
          have q2 : ¬ (j : Int) < (l.length : Int) := by omega
          have q3 : (0 : Int) ≤ (i : Int) := by omega
          have q4 : (i : Int) ≤ (l.length : Int) := by omega
          have q5 : (i : Int) ≤ (c : Int) := by omega
          have Hfin := Lib.hid hfin
          have hlt : i < l.length := by omega
          obtain ⟨m, hm⟩ : ∃ m, l.length - i = m := ⟨_, rfl⟩
          go_upto_region 11 with fail
          iterate 10 go_step
          have hzs : (Builtin.zeroCells (Value.agg #[.string ByteArray.empty, .int .i64 0, .slice none 0 0]).cells m).size = m * 3 := zeroCells_size _ _
          obtain ⟨hend1, htouch⟩ := HS.out.behind (flat_atW w0 ReqR) (i := i) (vs := (Builtin.zeroCells (Value.agg #[.string ByteArray.empty, .int .i64 0, .slice none 0 0]).cells m).toList) (by omega) (by rw [Array.length_toList, hzs]; omega)
          have hthere := HS.out.there (o := i * 3) (m := m * 3) (by omega)
          rw [← hzs] at hthere
          have Hend1 := Lib.hid hend1
          have Hthere := Lib.hid hthere
          have Htouch := Lib.hid htouch
          clear hend1 htouch hthere
          refine wpList_clear_rows wr (by rfl) _ _ 26 (by rfl) (.agg #[.string ByteArray.empty, .int .i64 0, .slice none 0 0]) Tryz.underlying22 Tryz.zeroValue26 (by simp [Value.cells, Value.oneCell']) g (i * 3) m (c - i) (by omega) (by rfl) Hthere.out ?_
          obtain ⟨w4, Hw4⟩ : ∃ w4, Hid (wr.setCells g (i * 3) (Builtin.zeroCells (Value.agg #[.string ByteArray.empty, .int .i64 0, .slice none 0 0]).cells m).toList = w4) := ⟨_, Lib.hid rfl⟩
          rw [Hw4.out]
          have h1 := Hend1.out
          have h2 := Htouch.out
          rw [Hw4.out] at h1 h2
          rw [Hfin.out] at h1
          have H1 := Lib.hid h1
          have H2 := Lib.hid (h2.below Hbel.out hgB)
          clear h1 h2 hm hzs
          go_wp2_with fail
          go_ret
          exact ⟨_, rfl, H1.out, H2.out⟩
end Go.Proofs.YtlbolbkikkiifaaGreatDoor
/- query: Solve, Implies: what they tell is sound and whole: the plain laws. -/
namespace Go.Proofs.YtlbolbkikkiifaaGreatDoor
open Go.RowKit

/-- the value of a key -/
def getL (labels : List GLabel) (k : ByteArray) : Option ByteArray := (labels.find? fun x => decide (x.key = k)).map (·.val)
def holdsV (o : Option ByteArray) (r : GReq) : Bool := match o with
  | some v => if r.kind = 1 then Lib.containsS r.vals v else if r.kind = 2 then !Lib.containsS r.vals v else decide (r.kind = 3)
  | none => if r.kind = 1 then false else if r.kind = 2 then true else decide (r.kind ≠ 3)
theorem holdsB_eq (labels : List GLabel) (r : GReq) : holdsB labels r = holdsV (getL labels r.key) r := by
  unfold holdsB holdsV getL
  cases labels.find? fun x => decide (x.key = r.key) <;> rfl
theorem getL_one (k v : ByteArray) : getL [⟨k, v⟩] k = some v := by
  unfold getL
  rw [List.find?_cons_of_pos (by simp)]
  rfl
/-- all parts about a key let this value be -/
def fitsV (l : List GReq) (k v : ByteArray) : Bool := (l.filter fun r => decide (r.key = k)).all (holdsV (some v))
theorem fits_all (l : List GReq) (k v : ByteArray) : (l.filter fun r => decide (r.key = k)).all (holdsB [⟨k, v⟩]) = fitsV l k v := by
  unfold fitsV
  rw [Bool.eq_iff_iff, List.all_eq_true, List.all_eq_true]
  constructor
  · intro h r hr
    have := h r hr
    rw [holdsB_eq] at this
    have hk : r.key = k := by simpa using (List.mem_filter.1 hr).2
    rwa [hk, getL_one] at this
  · intro h r hr
    have := h r hr
    rw [holdsB_eq]
    have hk : r.key = k := by simpa using (List.mem_filter.1 hr).2
    rwa [hk, getL_one]
theorem fits_iff {l : List GReq} {k v : ByteArray} : fitsV l k v = true ↔ ∀ r ∈ l, r.key = k → holdsV (some v) r = true := by
  unfold fitsV
  rw [List.all_eq_true]
  constructor
  · intro h r hr hk
    exact h r (List.mem_filter.2 ⟨hr, by simpa using hk⟩)
  · intro h r hr
    have := List.mem_filter.1 hr
    exact h r this.1 (by simpa using this.2)
/-- a part that was checked -/
structure GoodR (r : GReq) : Prop where
  key : keyE r.key = 0
  kind : 1 ≤ r.kind ∧ r.kind ≤ 4
  many : r.vals.length ≤ 8
  vals : ∀ v ∈ r.vals, valE v = 0
theorem good_of {r : GReq} (h : reqE r = 0) : GoodR r := by
  have hk := argR_kind h
  unfold reqE at h
  by_cases h1 : keyE r.key ≠ 0
  · rw [if_pos h1] at h; exact absurd h h1
  · rw [if_neg h1] at h
    by_cases h2 : argR r = true
    · rw [if_pos h2] at h; cases h
    · rw [if_neg h2] at h
      by_cases h3 : 8 < r.vals.length
      · rw [if_pos h3] at h; cases h
      · rw [if_neg h3] at h
        exact ⟨by simpa using h1, hk, by omega, errF_zero.1 h⟩
theorem good_opp {r : GReq} (h : GoodR r) : GoodR (oppR r) := by
  obtain ⟨h1, h2, h3, h4⟩ := h
  refine ⟨h1, ?_, h3, h4⟩
  have hk : r.kind = 1 ∨ r.kind = 2 ∨ r.kind = 3 ∨ r.kind = 4 := by omega
  unfold oppR oppK
  dsimp only
  rcases hk with h | h | h | h <;> rw [h] <;> decide
/-- the value told for a key -/
def ValueOK (l : List GReq) (k v : ByteArray) (is : Bool) : Prop := (is = true → fitsV l k v = true ∧ valE v = 0) ∧ (is = false → ∀ u, fitsV l k u = false)
/-- among the values of a part that asks for one of them -/
theorem value_in {l : List GReq} {r : GReq} (hg : ∀ r ∈ l, GoodR r) (hr : r ∈ l) (hk : r.kind = 1) {vs : List ByteArray} (hvs : ∀ v, v ∈ vs ↔ v ∈ r.vals) :
    (∀ v ∈ vs, fitsV l r.key v = true → ValueOK l r.key v true) ∧ ((∀ v ∈ vs, fitsV l r.key v = false) → ∀ v, ValueOK l r.key v false) := by
  constructor
  · intro v hv hf
    exact ⟨fun _ => ⟨hf, (hg r hr).vals v ((hvs v).1 hv)⟩, fun h => by cases h⟩
  · intro h v
    refine ⟨fun h => (by cases h), fun _ u => ?_⟩
    cases hf : fitsV l r.key u with
    | false => rfl
    | true =>
      have h1 := fits_iff.1 hf r hr rfl
      unfold holdsV at h1
      simp only [hk, if_true] at h1
      have h2 := (hvs u).2 ((Lib.containsS_iff r.vals u).1 h1)
      rw [h u h2] at hf
      cases hf
def numB (n : Nat) : ByteArray := ⟨(Lib.decDigits n).toArray⟩
/-- what is tried where nothing is asked for -/
def candB : List ByteArray := ByteArray.empty :: (List.range 73).map numB
theorem cand_nodup : candB.Nodup := by decide +kernel
theorem cand_good : ∀ v ∈ candB, valE v = 0 := by decide +kernel
theorem nodup_len {α : Type} [DecidableEq α] : ∀ (c v : List α), c.Nodup → (∀ x ∈ c, x ∈ v) → c.length ≤ v.length
  | [], _, _, _ => by simp
  | a :: c, v, hn, h => by
    have h1 := h a (List.mem_cons_self ..)
    have h2 := nodup_len c (v.erase a) (List.nodup_cons.1 hn).2 fun x hx => by
      have hne : x ≠ a := fun e => (List.nodup_cons.1 hn).1 (e ▸ hx)
      exact (List.mem_erase_of_ne hne).2 (h x (List.mem_cons_of_mem _ hx))
    rw [List.length_erase_of_mem h1] at h2
    have h3 : 0 < v.length := List.length_pos_of_mem h1
    rw [List.length_cons]
    omega
theorem flat_le (l : List GReq) (hg : ∀ r ∈ l, GoodR r) : (l.flatMap (·.vals)).length ≤ l.length * 8 := by
  induction l with
  | nil => simp
  | cons a r ih =>
    have h1 := ih fun x hx => hg x (List.mem_cons_of_mem _ hx)
    have h2 := (hg a (List.mem_cons_self ..)).many
    rw [List.flatMap_cons, List.length_append, List.length_cons]
    omega
theorem value_free {l : List GReq} {k : ByteArray} (hg : ∀ r ∈ l, GoodR r) (hl : l.length ≤ 9) (hno : ∀ r ∈ l, r.key = k → r.kind ≠ 1) :
    (∀ v ∈ candB, fitsV l k v = true → ValueOK l k v true) ∧ ((∀ v ∈ candB, fitsV l k v = false) → ∀ v, ValueOK l k v false) := by
  constructor
  · intro v hv hf
    exact ⟨fun _ => ⟨hf, cand_good v hv⟩, fun h => by cases h⟩
  · intro h v
    refine ⟨fun h => (by cases h), fun _ u => ?_⟩
    cases hf : fitsV l k u with
    | false => rfl
    | true =>
      exfalso
      have h1 : ∀ x ∈ candB, x ∈ l.flatMap (·.vals) := fun x hx => by
        have h2 := h x hx
        refine Classical.byContradiction fun hnot => ?_
        · skip
          have h3 : fitsV l k x = true := fits_iff.2 fun r hr hk => by
            have h4 := fits_iff.1 hf r hr hk
            have h5 := hno r hr hk
            have hx' : x ∉ r.vals := fun hm => hnot (List.mem_flatMap.2 ⟨r, hr, hm⟩)
            have hc : Lib.containsS r.vals x = false := by
              cases hc : Lib.containsS r.vals x with
              | false => rfl
              | true => exact absurd ((Lib.containsS_iff r.vals x).1 hc) hx'
            unfold holdsV at h4 ⊢
            simp only [h5, if_false] at h4 ⊢
            by_cases h6 : r.kind = 2
            · rw [if_pos h6, hc]; rfl
            · rw [if_neg h6] at h4 ⊢; exact h4
          rw [h2] at h3
          cases h3
      have h7 := nodup_len candB _ cand_nodup h1
      have h8 := flat_le l hg
      have h9 : candB.length = 74 := by rfl
      omega
/-- the keys that must have a value -/
def wantK (l : List GReq) : List ByteArray := (l.filter fun r => decide (r.kind = 1) || decide (r.kind = 3)).map (·.key)
theorem mem_wantK {l : List GReq} {k : ByteArray} : k ∈ wantK l ↔ ∃ r ∈ l, (r.kind = 1 ∨ r.kind = 3) ∧ r.key = k := by
  unfold wantK
  rw [List.mem_map]
  constructor
  · rintro ⟨r, hr, rfl⟩
    have := List.mem_filter.1 hr
    exact ⟨r, this.1, by simpa using this.2, rfl⟩
  · rintro ⟨r, hr, hk, rfl⟩
    exact ⟨r, List.mem_filter.2 ⟨hr, by simpa using hk⟩, rfl⟩
/-- rising -/
def Rising : List ByteArray → Prop
  | [] => True
  | [_] => True
  | a :: b :: r => lessB a b = true ∧ Rising (b :: r)
theorem rising_tail {a : ByteArray} {r : List ByteArray} (h : Rising (a :: r)) : Rising r := by
  cases r with
  | nil => trivial
  | cons b r => exact h.2
theorem rising_less {a : ByteArray} : ∀ {r : List ByteArray}, Rising (a :: r) → ∀ x ∈ r, lessB a x = true
  | [], _, x, hx => by cases hx
  | b :: r, h, x, hx => by
    rcases List.mem_cons.1 hx with rfl | hx
    · exact h.1
    · exact lessB_trans h.1 (rising_less h.2 x hx)
theorem rising_get {out : List GLabel} (h : Rising (out.map (·.key))) {x : GLabel} (hx : x ∈ out) : getL out x.key = some x.val := by
  induction out with
  | nil => cases hx
  | cons a r ih =>
    unfold getL
    rcases List.mem_cons.1 hx with rfl | hx'
    · rw [List.find?_cons_of_pos (by simp)]; rfl
    · have hne : a.key ≠ x.key := fun e => by
        have := rising_less (by simpa using h) x.key (List.mem_map_of_mem hx')
        rw [e, lessB_irrefl] at this
        cases this
      rw [List.find?_cons_of_neg (by simpa using hne)]
      exact ih (rising_tail (by simpa using h)) hx'
theorem getL_none {out : List GLabel} {k : ByteArray} (h : k ∉ out.map (·.key)) : getL out k = none := by
  unfold getL
  rw [List.find?_eq_none.2]
  · rfl
  · intro x hx e
    exact h (by simp at e; rw [← e]; exact List.mem_map_of_mem hx)
/-- what is told as labels that match -/
def SolveOK (l : List GReq) (out : List GLabel) (is : Bool) : Prop := (is = true → l.all (holdsB out) = true ∧ labelsE out = 0) ∧ (is = false → ∀ labels, l.all (holdsB labels) = false)
theorem labZ_zero {out : List GLabel} (hr : Rising (out.map (·.key))) (hk : ∀ x ∈ out, keyE x.key = 0 ∧ valE x.val = 0) : ∀ y ∈ labZ out, labE y = 0 := by
  have key : ∀ (p : Option ByteArray) (m : List GLabel), (∀ x ∈ m, keyE x.key = 0 ∧ valE x.val = 0) → Rising (m.map (·.key)) → (∀ q, p = some q → ∀ x, m.head? = some x → lessB q x.key = true) →
      ∀ y ∈ (p :: m.map (some ·.key)).zip m, labE y = 0 := fun p m => by
    induction m generalizing p with
    | nil => intro _ _ _ y hy; simp at hy
    | cons a r ih =>
      intro hk hr hp y hy
      rw [List.map_cons, List.zip_cons_cons] at hy
      rcases List.mem_cons.1 hy with rfl | hy
      · obtain ⟨h1, h2⟩ := hk a (List.mem_cons_self ..)
        unfold labE
        dsimp only
        rw [if_neg (by simpa using h1), if_neg (by simpa using h2)]
        cases p with
        | none => rfl
        | some q =>
          have h3 := hp q rfl a rfl
          show (if lessB q a.key = true then (0 : Int) else 1) = 0
          rw [if_pos h3]
      · refine ih (some a.key) (fun x hx => hk x (List.mem_cons_of_mem _ hx)) (rising_tail (by simpa using hr)) (fun q hq x hx => ?_) y hy
        cases hq
        have hx' : x ∈ r := List.mem_of_mem_head? hx
        exact rising_less (by simpa using hr) x.key (List.mem_map_of_mem hx')
  exact key none out hk hr fun q hq => by cases hq
/-- all keys have a value that fits -/
theorem solve_found {l : List GReq} (hg : ∀ r ∈ l, GoodR r) (hl : l.length ≤ 9) {out : List GLabel} (hr : Rising (out.map (·.key))) (hm : ∀ k, k ∈ out.map (·.key) ↔ k ∈ wantK l) (hlen : out.length ≤ l.length)
    (hv : ∀ x ∈ out, ValueOK l x.key x.val true) : l.all (holdsB out) = true ∧ labelsE out = 0 := by
  constructor
  · rw [List.all_eq_true]
    intro r hrl
    rw [holdsB_eq]
    by_cases h : r.key ∈ out.map (·.key)
    · obtain ⟨x, hx, hk⟩ := List.mem_map.1 h
      rw [← hk, rising_get hr hx]
      exact fits_iff.1 ((hv x hx).1 rfl).1 r hrl hk.symm
    · rw [getL_none h]
      have h2 : ¬ (r.kind = 1 ∨ r.kind = 3) := fun h3 => h ((hm r.key).2 (mem_wantK.2 ⟨r, hrl, h3, rfl⟩))
      unfold holdsV
      dsimp only
      rw [if_neg (by omega)]
      by_cases h4 : r.kind = 2
      · rw [if_pos h4]
      · rw [if_neg h4, decide_eq_true (by omega)]
  · unfold labelsE
    rw [if_neg (by omega)]
    refine errF_none (labZ_zero hr fun x hx => ?_)
    obtain ⟨r, hrl, _, hk⟩ := mem_wantK.1 ((hm x.key).1 (List.mem_map_of_mem hx))
    exact ⟨by rw [← hk]; exact (hg r hrl).key, ((hv x hx).1 rfl).2⟩
theorem solve_yes {l : List GReq} (hg : ∀ r ∈ l, GoodR r) (hl : l.length ≤ 9) {out : List GLabel} (hr : Rising (out.map (·.key))) (hm : ∀ k, k ∈ out.map (·.key) ↔ k ∈ wantK l) (hlen : out.length ≤ l.length)
    (hv : ∀ x ∈ out, ValueOK l x.key x.val true) : SolveOK l out true := ⟨fun _ => solve_found hg hl hr hm hlen hv, fun h => by cases h⟩
/-- a key has none -/
theorem solve_no {l : List GReq} {k v : ByteArray} (hk : k ∈ wantK l) (hv : ValueOK l k v false) (out : List GLabel) : SolveOK l out false := by
  refine ⟨fun h => (by cases h), fun _ labels => ?_⟩
  cases h : l.all (holdsB labels) with
  | false => rfl
  | true =>
    exfalso
    rw [List.all_eq_true] at h
    obtain ⟨r, hr, hkind, rfl⟩ := mem_wantK.1 hk
    have h1 := h r hr
    rw [holdsB_eq] at h1
    cases hget : getL labels r.key with
    | none =>
      rw [hget] at h1
      unfold holdsV at h1
      dsimp only at h1
      rcases hkind with h2 | h2
      · rw [if_pos h2] at h1; cases h1
      · rw [if_neg (by omega), if_neg (by omega), decide_eq_false (by omega)] at h1; cases h1
    | some u =>
      have h3 : fitsV l r.key u = true := fits_iff.2 fun q hq hqk => by
        have h4 := h q hq
        rwa [holdsB_eq, hqk, hget] at h4
      rw [hv.2 rfl u] at h3
      cases h3
end Go.Proofs.YtlbolbkikkiifaaGreatDoor
/- Sorted texts, each once: rising. Any program. -/
namespace Go.Proofs.YtlbolbkikkiifaaGreatDoor
open Go.RowKit Go.Sort Go.Proofs

def leL (x y : List UInt8) : Bool := decide (x ≤ y)
theorem leL_eq (x y : List UInt8) : leL x y = !Op.bytesLess y x := by
  unfold leL
  rw [bytesLess_eq]
  by_cases h : y < x
  · rw [decide_eq_true h, decide_eq_false (fun hle : x ≤ y => hle h)]; rfl
  · rw [decide_eq_false h, decide_eq_true (show x ≤ y from h)]; rfl
theorem leL_trans (x y z : List UInt8) (h : leL x y = true) (k : leL y z = true) : leL x z = true := by
  rw [leL_eq, Bool.not_eq_true'] at *
  cases hz : Op.bytesLess z x with
  | false => rfl
  | true =>
    cases hy : Op.bytesLess y z with
    | true => rw [bl_trans y z x hy hz] at h; cases h
    | false =>
      have := bl_total y z hy k
      subst this
      rw [hz] at h; cases h
theorem leL_total (x y : List UInt8) : (leL x y || leL y x) = true := by
  rw [leL_eq, leL_eq]
  cases h : Op.bytesLess y x with
  | false => rfl
  | true => rw [bl_asymm h]; rfl
def sortedL (l : List (List UInt8)) : List (List UInt8) := l.mergeSort fun x y => decide (x ≤ y)
theorem sorted_pair (l : List (List UInt8)) : (sortedL l).Pairwise fun x y => leL x y = true := List.pairwise_mergeSort (le := leL) leL_trans leL_total l
theorem sorted_mem (l : List (List UInt8)) (x : List UInt8) : x ∈ sortedL l ↔ x ∈ l := List.mem_mergeSort
theorem sorted_len (l : List (List UInt8)) : (sortedL l).length = l.length := List.length_mergeSort l
/-- each once -/
theorem compact_rising (zs : List (List UInt8)) (hs : zs.Pairwise fun x y => leL x y = true) :
    (Lib.compact zs).Pairwise (fun x y => Op.bytesLess x y = true) ∧ ∀ x, x ∈ Lib.compact zs ↔ x ∈ zs := by
  have hget : ∀ i j, i < j → j < zs.length → leL (zs.toArray[i]!) (zs.toArray[j]!) = true := fun i j hij hj => by
    have := List.pairwise_iff_getElem.1 hs i j (by omega) hj hij
    rwa [getElem!_pos zs.toArray i (by simpa using (by omega : i < zs.length)), getElem!_pos zs.toArray j (by simpa using hj)]
  have key : ∀ m, m ≤ zs.length → (Lib.compactUpTo zs.toArray m).Pairwise (fun x y => Op.bytesLess x y = true) ∧ (∀ x ∈ Lib.compactUpTo zs.toArray m, ∃ j, j < m ∧ x = zs.toArray[j]!) ∧ (∀ j, j < m → zs.toArray[j]! ∈ Lib.compactUpTo zs.toArray m) := fun m => by
    induction m with
    | zero => intro _; exact ⟨by simp [Lib.compactUpTo], by simp [Lib.compactUpTo], fun j hj => by omega⟩
    | succ m ih =>
      intro hm
      obtain ⟨h1, h2, h3⟩ := ih (by omega)
      rw [Lib.compactUpTo_succ]
      by_cases h0 : m = 0
      · subst h0
        rw [if_pos (Lib.keeps_lt_one _ 0 (by omega))]
        have : Lib.compactUpTo zs.toArray 0 = [] := by simp [Lib.compactUpTo]
        rw [this, List.nil_append]
        refine ⟨by simp, fun x hx => ⟨0, by omega, by simpa using hx⟩, fun j hj => ?_⟩
        obtain rfl : j = 0 := by omega
        simp
      · by_cases he : zs.toArray[m]! = zs.toArray[m - 1]!
        · rw [Lib.keeps_neg (by omega) he]
          simp only [Bool.false_eq_true, if_false, List.append_nil]
          refine ⟨h1, fun x hx => ?_, fun j hj => ?_⟩
          · obtain ⟨j, hj, e⟩ := h2 x hx
            exact ⟨j, by omega, e⟩
          · by_cases hjm : j = m
            · subst hjm
              rw [he]
              exact h3 _ (by omega)
            · exact h3 j (by omega)
        · rw [Lib.keeps_pos he, if_pos rfl]
          refine ⟨?_, fun x hx => ?_, fun j hj => ?_⟩
          · rw [List.pairwise_append]
            refine ⟨h1, by simp, fun a ha b hb => ?_⟩
            obtain rfl : b = zs.toArray[m]! := by simpa using hb
            obtain ⟨j, hj, rfl⟩ := h2 a ha
            have h4 : Op.bytesLess (zs.toArray[m - 1]!) (zs.toArray[m]!) = true := by
              have h5 := hget (m - 1) m (by omega) (by omega)
              rw [leL_eq, Bool.not_eq_true'] at h5
              cases h6 : Op.bytesLess (zs.toArray[m - 1]!) (zs.toArray[m]!) with
              | true => rfl
              | false => exact absurd (bl_total _ _ h6 h5).symm he
            by_cases hjm : j = m - 1
            · rw [hjm]; exact h4
            · have h5 := hget j (m - 1) (by omega) (by omega)
              rw [leL_eq, Bool.not_eq_true'] at h5
              cases h6 : Op.bytesLess (zs.toArray[j]!) (zs.toArray[m - 1]!) with
              | true => exact bl_trans _ _ _ h6 h4
              | false => rw [bl_total _ _ h6 h5]; exact h4
          · rcases List.mem_append.1 hx with hx | hx
            · obtain ⟨j, hj, e⟩ := h2 x hx
              exact ⟨j, by omega, e⟩
            · exact ⟨m, by omega, by simpa using hx⟩
          · by_cases hjm : j = m
            · subst hjm; simp
            · exact List.mem_append_left _ (h3 j (by omega))
  obtain ⟨h1, h2, h3⟩ := key zs.length (Nat.le_refl _)
  refine ⟨h1, fun x => ⟨fun hx => ?_, fun hx => ?_⟩⟩
  · obtain ⟨j, hj, rfl⟩ := h2 x hx
    rw [getElem!_pos zs.toArray j (by simpa using hj)]
    simp
  · obtain ⟨j, hj, rfl⟩ := List.getElem_of_mem hx
    have := h3 j hj
    rw [getElem!_pos zs.toArray j (by simpa using hj)] at this
    exact this
end Go.Proofs.YtlbolbkikkiifaaGreatDoor
/- slices.Sort, Compact, Clone at texts, in our words. -/
namespace Go.Proofs.YtlbolbkikkiifaaGreatDoor
open Go.RowKit

def mkB (l : List UInt8) : ByteArray := ⟨l.toArray⟩
theorem mkB_data (l : List ByteArray) : (l.map (·.data.toList)).map mkB = l := by
  rw [List.map_map]
  conv => rhs; rw [← List.map_id l]
  congr 1
theorem own_texts {w : World} {B : Nat} {e : TypeId} {g n c : Nat} {l : List ByteArray} (h : OwnAt RString 1 w B e (.slice (some ⟨g, 0, none⟩) n c) l) : n = l.length ∧ B ≤ g ∧ g < w.heap.size ∧ l.length ≤ c ∧ c ≤ maxLen ∧ Go.Sort.Holds encStr w g 0 (l.map (·.data.toList)).toArray := by
  have ho := own_strs h
  rcases h.form with ⟨h1, _⟩ | ⟨g', c', h1, h2, h3, h4, h5⟩
  · cases h1
  · injection h1 with u1 u2 u3
    injection u1 with u1
    injection u1 with u1
    subst u1; subst u2; subst u3
    refine ⟨rfl, h2, h3, h4, h5, fun j hj => ?_⟩
    have hjl : j < l.length := by simpa using hj
    rcases ho.2 with ⟨e1, _⟩ | ⟨g2, cap, cur, e1, _, hh, _, _, _, _⟩
    · cases e1
    · have hc := ho.cells (g := g) rfl j _ (strs_get (List.getElem?_eq_getElem hjl))
      rw [add_plain'] at hc
      injection e1 with u1 _ _
      injection u1 with u1
      injection u1 with u1
      subst u1
      refine ⟨?_, free_block hh _⟩
      rw [hc, getElem!_pos _ j (by simpa using hjl)]
      simp [encStr]
/-- other texts in the same row -/
theorem own_putRow {w : World} {B : Nat} {e : TypeId} {g n c q : Nat} {l : List ByteArray} (h : OwnAt RString 1 w B e (.slice (some ⟨g, 0, none⟩) n c) l) (zs : List (List UInt8)) (hz : zs.length = l.length) :
    OwnAt RString 1 (Go.Sort.putRow encStr (Go.Sort.ahead w q) g 0 zs.toArray) B e (.slice (some ⟨g, 0, none⟩) n c) (zs.map mkB) ∧ RowKit.Below B w (Go.Sort.putRow encStr (Go.Sort.ahead w q) g 0 zs.toArray) ∧ (Go.Sort.putRow encStr (Go.Sort.ahead w q) g 0 zs.toArray).heap.size = w.heap.size := by
  obtain ⟨css, c1, c2, ⟨c3, c4⟩, c5⟩ := h
  rcases c4 with ⟨h0, _⟩ | ⟨g', cap, cur, hv, hB, hh, hle, hm, hzc, ht⟩
  · cases h0
  · injection hv with u1 u2 u3
    injection u1 with u1
    injection u1 with u1
    subst u1; subst u2; subst u3
    obtain ⟨W, hW⟩ : ∃ W, Go.Sort.putRow encStr (Go.Sort.ahead w q) g 0 zs.toArray = W := ⟨_, rfl⟩
    rw [hW]
    have hw : W.heap[g]? = some (.cells (Go.Sort.putCells encStr 0 zs.toArray cur) e (0, 0)) := by
      rw [← hW]
      unfold Go.Sort.putRow Go.Sort.mapBlock
      show (Array.modify w.heap g _)[g]? = _
      rw [Array.getElem?_modify, if_pos rfl, hh]
      rfl
    have ho : ∀ k, k ≠ g → W.heap[k]? = w.heap[k]? := fun k hk => by
      rw [← hW]
      unfold Go.Sort.putRow Go.Sort.mapBlock
      show (Array.modify w.heap g _)[k]? = _
      rw [Array.getElem?_modify, if_neg (Ne.symm hk)]
    have hs : W.heap.size = w.heap.size := by
      rw [← hW]
      unfold Go.Sort.putRow Go.Sort.mapBlock
      show (Array.modify w.heap g _).size = _
      rw [Array.size_modify]
    refine ⟨ownAt_strs (n := l.length) ⟨by rw [strs_length, List.length_map, hz, Nat.mul_one], .inr ⟨g, c, _, rfl, hB, hw, hle, hm, by unfold Go.Sort.putCells; rw [Array.size_mapIdx]; exact hzc, ?_⟩⟩ (by rw [List.length_map, hz]), ⟨by rw [← hW]; rfl, by rw [← hW]; rfl, by rw [← hW]; rfl, by rw [hs]; exact Nat.le_refl _, fun k hk => ho k (by omega)⟩, hs⟩
    apply List.ext_getElem?
    intro t
    rw [Nat.mul_one]
    by_cases htl : t < l.length
    · have htc : t < cur.size := by rw [hzc]; omega
      rw [List.getElem?_take_of_lt htl, Array.getElem?_toList]
      unfold Go.Sort.putCells
      rw [Array.getElem?_mapIdx, Array.getElem?_eq_getElem htc, Option.map_some, if_pos ⟨by omega, by simp [hz]; omega⟩, Nat.sub_zero, getElem!_pos zs.toArray t (by simpa [hz] using htl)]
      unfold strs
      rw [List.map_map, List.getElem?_map, List.getElem?_eq_getElem (by omega)]
      rfl
    · rw [List.getElem?_eq_none (by rw [List.length_take]; omega), List.getElem?_eq_none (by rw [strs_length, List.length_map, hz]; omega)]
theorem sortStr_any (v : Value) (l : List ByteArray) (B : Nat) (w : World) (h : OwnAt RString 1 w B 9 v l) (hB : B ≤ w.heap.size) (hl : l.length ≤ 1073741824) :
    Calls Tryz.prog 48 #[v] w fun e w' => e = .returned (.tuple #[]) ∧ OwnAt RString 1 w' B 9 v ((sortedL (l.map (·.data.toList))).map mkB) ∧ RowKit.Below B w w' := by
  rcases h.form with ⟨rfl, rfl⟩ | ⟨g, c, rfl, _, hg, _, _⟩
  · refine (Tryz.slices_Sort_string_none none 0 w).mono fun e w' ⟨h1, h2⟩ => ?_
    subst h2
    refine ⟨h1, ?_, Below.refl _ _⟩
    have : sortedL (([] : List ByteArray).map (·.data.toList)) = [] := by simp [sortedL]
    rw [this]
    exact OwnAt.nil _
  · obtain ⟨_, _, _, _, _, hH⟩ := own_texts h
    have hs := Tryz.slices_Sort_string g 0 c (l.map (·.data.toList)) w hH hg (by rw [List.length_map]; omega)
    rw [List.length_map] at hs
    refine hs.mono fun e w' ⟨h1, n, os, h2⟩ => ?_
    obtain ⟨o1, o2, o3⟩ := own_putRow (q := n) h (sortedL (l.map (·.data.toList))) (by rw [sorted_len, List.length_map])
    have hgr : RowKit.Below (Go.Sort.putRow encStr (Go.Sort.ahead w n) g 0 (sortedL (l.map (·.data.toList))).toArray).heap.size (Go.Sort.putRow encStr (Go.Sort.ahead w n) g 0 (sortedL (l.map (·.data.toList))).toArray) w' := by
      rw [h2]
      exact Lib.below_grow _ _ (Nat.le_refl _) 0 os
    refine ⟨h1, o1.below stays_string hgr, o2.trans (hgr.mono (by rw [o3]; exact hB))⟩
theorem setCells_nil (w : World) (g i : Nat) : w.setCells g i [] = w := rfl
theorem compactStr_any (v : Value) (l : List ByteArray) (B : Nat) (w : World) (h : OwnAt RString 1 w B 9 v l) (hl : l.length ≤ 1073741824) :
    Calls Tryz.prog 49 #[v] w fun e w' => ∃ v', e = .returned v' ∧ OwnAt RString 1 w' B 9 v' ((Lib.compact (l.map (·.data.toList))).map mkB) ∧ RowKit.Below B w w' := by
  rcases h.form with ⟨rfl, rfl⟩ | ⟨g, c, rfl, _, hg, _, _⟩
  · refine (Tryz.slices_Compact_string_empty none 0 w).mono fun e w' ⟨h1, h2⟩ => ?_
    subst h2
    refine ⟨_, h1, ?_, Below.refl _ _⟩
    have : Lib.compact (([] : List ByteArray).map (·.data.toList)) = [] := by simp [Lib.compact, Lib.compactUpTo]
    rw [this]
    exact OwnAt.nil _
  · obtain ⟨_, _, _, hlc, _, hH⟩ := own_texts h
    have hs := Tryz.slices_Compact_string g 0 c (l.map (·.data.toList)) w hH (by rw [List.length_map]; omega) (by rw [List.length_map]; exact hlc)
    rw [List.length_map] at hs
    refine hs.mono fun e w' ⟨h1, q, h2⟩ => ?_
    have hle : (Lib.compact (l.map (·.data.toList))).length ≤ l.length := by
      have := Lib.compact_length_le (l.map (·.data.toList))
      rwa [List.length_map] at this
    obtain ⟨o1, o2, o3⟩ := own_putRow (q := q) h (Lib.compact (l.map (·.data.toList)) ++ List.replicate (l.length - (Lib.compact (l.map (·.data.toList))).length) []) (by rw [List.length_append, List.length_replicate]; omega)
    rw [← h2] at o1 o2 o3
    obtain ⟨o4, _⟩ := o1.behind flat_string (i := (Lib.compact (l.map (·.data.toList))).length) (vs := []) (by rw [List.length_map, List.length_append]; omega) (by simp; omega)
    rw [setCells_nil, List.map_append, List.take_left' (by rw [List.length_map])] at o4
    exact ⟨_, h1, o4, o2⟩
theorem cloneStr_any (v : Value) (l : List ByteArray) (w : World) (h : StrAt w v l) (hl : l.length ≤ 1048576) :
    Calls Tryz.prog 86 #[v] w fun e w' => ∃ v', e = .returned v' ∧ OwnAt RString 1 w' w.heap.size 9 v' l ∧ RowKit.Below w.heap.size w w' := by
  rcases h with ⟨rfl, rfl⟩ | ⟨a, c, rfl, h1, h2, h3⟩
  · refine (Tryz.slices_Clone_string_nil 0 0 w).mono fun e w' ⟨e1, e2⟩ => ?_
    subst e2
    exact ⟨_, e1, OwnAt.nil _, Below.refl _ _⟩
  · rcases Nat.eq_zero_or_pos l.length with h0 | h0
    · obtain rfl := nil_of_len h0
      refine (Tryz.slices_Clone_string_zero a c w).mono fun e w' ⟨v', e1, e2, _, e3⟩ => ⟨v', e1, ownAt_strs (n := 0) e2 rfl, e3⟩
    · obtain ⟨b, o, c', hv, _, _, _, hc⟩ := StrAt.form (.inr ⟨a, c, rfl, h1, h2, h3⟩) h0
      injection hv with u1 u2 u3
      injection u1 with u1
      subst u1
      refine (Tryz.slices_Clone_string b o l.length c l w (Nat.le_refl _) (by omega) fun j hj => hc j _ (strAt_getD hj)).mono fun e w' ⟨v', e1, e2, _, e3⟩ => ⟨v', e1, ?_, e3⟩
      rw [List.take_of_length_le (Nat.le_refl _)] at e2
      exact ownAt_strs (n := l.length) e2 rfl
end Go.Proofs.YtlbolbkikkiifaaGreatDoor
/- query.value: its closures; Clone at parts. -/
namespace Go.Proofs.YtlbolbkikkiifaaGreatDoor
open Go.RowKit

set_option maxRecDepth 100000 in
theorem cloneReq_any {R : Rd GReq} (hf : Flat R) (h1 : OneR R) (v : Value) (l : List GReq) (w : World) (h : RowAt R 3 w v l) (hl : l.length ≤ 1048576) :
    Calls Tryz.prog 29 #[v] w fun e w' => ∃ v', e = .returned v' ∧ OwnAt R 3 w' w.heap.size 26 v' l ∧ Below w.heap.size w w' := by
  obtain ⟨i0, hi0, hz0, hz1, hz2⟩ := info_parts Tryz.infoReq
  have hn := fun (w : World) (a : Option Addr) (n c : Nat) => Lib.run_eql_slice_nil (P := Tryz.prog) w 22 26 a n c 0 0 Tryz.underlying22
  rcases h with ⟨rfl, rfl⟩ | ⟨a, c, rfl, g1, g2, g3⟩
  · go_enter Tryz.func29, Tryz.ntmps29
    go_wp2_with fail
    go_ret
    exact ⟨_, rfl, OwnAt.nil _, Below.refl _ _⟩
  · have hrow : RowAt R 3 w (.slice (some a) l.length c) l := .inr ⟨a, c, rfl, g1, g2, g3⟩
    have Hrow := Lib.hid (hrow.below hf.stays ((Below.refl _ w).alloc (Nat.le_refl _) (.cells #[] 26)))
    clear hrow g1 g2 g3
    go_enter Tryz.func29, Tryz.ntmps29
    go_wp2_with (at_builtin; refine wpList_append_ownAt (R := R) (k := 3) (e := 26) (B := w.heap.size) (l := []) (m := l) _ (by rfl) _ _ _ (by rfl) i0 _ 48 Tryz.underlying22 hi0 hz0 hz1 hz2 rfl (by omega) hf h1 _ (by rfl) (own_empty w 3 _ (Nat.le_refl _)) _ (by rfl) Hrow.out (by unfold maxLen; simp; omega) (by simp; omega) (by simp) ?_)
    intro v' w' hv' hg hr _
    have hb : Below w.heap.size w w' := below_of_grown ((Below.refl _ _).alloc (Nat.le_refl _) _) (by simp) hg hr
    go_wp2_with fail
    go_ret
    exact ⟨_, rfl, by simpa using hv', hb⟩
/-- a key in a box -/
def CapKey (g : Nat) (key : ByteArray) (w : World) : Prop := w.heap[g]? = some (.cells #[.string key] 9 (0, 0))
theorem run_val1 : ∀ (a : Array Value) (w : World), (callFunc 82 a).run Tryz.prog w = .ok (.enter 82 a) w := run_callFunc_body Tryz.func82 (by kernel_rfl) (by kernel_rfl)
theorem run_val2 : ∀ (a : Array Value) (w : World), (callFunc 83 a).run Tryz.prog w = .ok (.enter 83 a) w := run_callFunc_body Tryz.func83 (by kernel_rfl) (by kernel_rfl)
theorem run_val3 : ∀ (a : Array Value) (w : World), (callFunc 85 a).run Tryz.prog w = .ok (.enter 85 a) w := run_callFunc_body Tryz.func85 (by kernel_rfl) (by kernel_rfl)
set_option maxRecDepth 100000 in
set_option maxHeartbeats 800000 in
theorem val1_any (g : Nat) (key : ByteArray) (x : GReq) (y2 : Value) (w : World) (hx : ReqR w [.string x.key, .int .i64 x.kind, y2] x) (hc : CapKey g key w) :
    Calls Tryz.prog 82 #[.agg #[.string x.key, .int .i64 x.kind, y2], .pointer (some ⟨g, 0, none⟩)] w fun e w' => e = .returned (.bool (!decide (x.key = key))) ∧ Below w.heap.size w w' := by
  obtain ⟨v2', h1, _, hst⟩ := hx
  obtain rfl : y2 = v2' := by injection h1 with _ h1; injection h1 with _ h1; injection h1
  clear h1
  obtain ⟨ao, c, rfl, _, _⟩ := hst.row.len
  obtain ⟨w1, hw1⟩ : ∃ w1, w1 = w.alloc (.cells #[.string x.key, .int .i64 x.kind, .slice ao x.vals.length c] 26) := ⟨_, rfl⟩
  obtain ⟨gb, hgb⟩ : ∃ gb, gb = w.heap.size := ⟨_, rfl⟩
  have b1 : w1.heap[gb]? = some (.cells #[.string x.key, .int .i64 x.kind, .slice ao x.vals.length c] 26 (0, 0)) := by rw [hw1, hgb]; exact heap_alloc_new w _
  have hb1 : Below w.heap.size w w1 := by rw [hw1]; exact (Below.refl _ _).alloc (Nat.le_refl _) _
  have c1 := below_block hb1 hc
  have Hb1 := Lib.hid hb1
  have cc := fun i => cell_block b1 i
  have dd := fun i => cell_block c1 i
  clear hc b1 hb1 c1 hst
  obtain ⟨b, Hb⟩ : ∃ b, Hid (decide (x.key = key) = b) := ⟨_, Lib.hid rfl⟩
  rw [Hb.out]
  have hb : (x.key.toList == key.toList) = b := by
    rw [← Hb.out]
    by_cases h : x.key = key
    · rw [h]; simp
    · rw [decide_eq_false h, beq_eq_false_iff_ne]; exact fun e => h (toList_inj e)
  go_enter Tryz.func82, Tryz.ntmps82
  go_upto_region 1 with fail
  rw [← hw1]
  try rw [← hgb]
  clear hw1 hgb
  cases b with
  | true =>
    go_wp2_with fail
    go_ret
    exact ⟨rfl, Hb1.out⟩
  | false =>
    go_wp2_with fail
    go_ret
    exact ⟨rfl, Hb1.out⟩
set_option maxRecDepth 100000 in
set_option maxHeartbeats 800000 in
theorem val3_any (x : GReq) (y2 : Value) (w : World) (hx : ReqR w [.string x.key, .int .i64 x.kind, y2] x) :
    Calls Tryz.prog 85 #[.agg #[.string x.key, .int .i64 x.kind, y2]] w fun e w' => e = .returned (.bool (decide (x.kind = 1))) ∧ Below w.heap.size w w' := by
  obtain ⟨v2', h1, _, hst⟩ := hx
  obtain rfl : y2 = v2' := by injection h1 with _ h1; injection h1 with _ h1; injection h1
  clear h1
  obtain ⟨ao, c, rfl, _, _⟩ := hst.row.len
  obtain ⟨w1, hw1⟩ : ∃ w1, w1 = w.alloc (.cells #[.string x.key, .int .i64 x.kind, .slice ao x.vals.length c] 26) := ⟨_, rfl⟩
  obtain ⟨gb, hgb⟩ : ∃ gb, gb = w.heap.size := ⟨_, rfl⟩
  have b1 : w1.heap[gb]? = some (.cells #[.string x.key, .int .i64 x.kind, .slice ao x.vals.length c] 26 (0, 0)) := by rw [hw1, hgb]; exact heap_alloc_new w _
  have hb1 : Below w.heap.size w w1 := by rw [hw1]; exact (Below.refl _ _).alloc (Nat.le_refl _) _
  have Hb1 := Lib.hid hb1
  have cc := fun i => cell_block b1 i
  clear b1 hb1 hst
  obtain ⟨kd, Hkd⟩ : ∃ kd, Hid (x.kind = kd) := ⟨_, Lib.hid rfl⟩
  rw [Hkd.out] at cc hw1 ⊢
  have way : (kd = 1 ∧ decide (kd = 1) = true) ∨ ((kd == 1) = false ∧ decide (kd = 1) = false) := by
    by_cases h : kd = 1
    · exact .inl ⟨h, decide_eq_true h⟩
    · exact .inr ⟨by rw [beq_eq_false_iff_ne]; exact h, decide_eq_false h⟩
  obtain ⟨b, Hb⟩ : ∃ b, decide (kd = 1) = b := ⟨_, rfl⟩
  rw [Hb] at way ⊢
  clear Hb
  go_enter Tryz.func85, Tryz.ntmps85
  go_upto_region 1 with fail
  rw [← hw1]
  try rw [← hgb]
  clear hw1 hgb
  rcases way with ⟨rfl, rfl⟩ | ⟨q, rfl⟩
  · go_wp2_with fail
    go_ret
    exact ⟨rfl, Hb1.out⟩
  · go_wp2_with fail
    go_ret
    exact ⟨rfl, Hb1.out⟩
/-- what 'fits' has captured -/
structure CapFit (ga gk : Nat) (va : Value) (A : List GReq) (key : ByteArray) (w : World) : Prop where
  about : w.heap[ga]? = some (.cells #[va] 22 (0, 0))
  key : CapKey gk key w
  row : RowAt ReqR 3 w va A
theorem CapFit.below {ga gk : Nat} {va : Value} {A : List GReq} {key : ByteArray} {w w' : World} (h : CapFit ga gk va A key w) (hb : Below w.heap.size w w') : CapFit ga gk va A key w' :=
  ⟨below_block hb h.about, below_block hb h.key, h.row.below stays_req hb⟩
set_option maxRecDepth 100000 in
set_option maxHeartbeats 800000 in
theorem val2_any {ga gk : Nat} {va : Value} {A : List GReq} {key : ByteArray} (v : ByteArray) (w : World) (h : CapFit ga gk va A key w) (hA : A.length ≤ 1048576) (hok : ∀ r ∈ A, okReq r) :
    Calls Tryz.prog 83 #[.string v, .pointer (some ⟨ga, 0, none⟩), .pointer (some ⟨gk, 0, none⟩)] w fun e w' => e = .returned (.bool (A.all (holdsB [⟨key, v⟩]))) ∧ Below w.heap.size w w' := by
  obtain ⟨h1, h2, h3⟩ := h
  obtain ⟨ao, c, rfl, _, _⟩ := h3.len
  have cc := fun i => cell_block h1 i
  have dd := fun i => cell_block h2 i
  have H3 := Lib.hid h3
  have Hok := Lib.hid hok
  clear h1 h2 h3 hok
  go_enter Tryz.func83, Tryz.ntmps83
  go_wp2_with fail
  obtain ⟨w1, hw1⟩ : ∃ w1, w1 = w.alloc (.cells #[.string key, .string v] 30) := ⟨_, rfl⟩
  have b1 : w1.heap[w.heap.size]? = some (.cells #[.string key, .string v] 30 (0, 0)) := by rw [hw1]; exact heap_alloc_new w _
  have hb1 : Below w.heap.size w w1 := by rw [hw1]; exact (Below.refl _ _).alloc (Nat.le_refl _) _
  rw [← hw1]
  have hrow : RowAt LabelR 2 w1 (.slice (some ⟨w.heap.size, 0, none⟩) 1 1) [⟨key, v⟩] := RowAt.one b1 rfl rfl
  refine (allReq_any _ _ A [⟨key, v⟩] w1 (H3.out.below stays_req hb1) hA Hok.out hrow (by simp)).mono ?_
  rintro E w2 ⟨rfl, hb2⟩
  have Hb2 := Lib.hid (hb1.trans (hb2.mono hb1.size))
  clear hb1 hb2 hw1 b1 hrow cc dd
  go_wp2_with fail
  go_ret
  exact ⟨rfl, Hb2.out⟩
end Go.Proofs.YtlbolbkikkiifaaGreatDoor
