/- query.Implies: its contract. -/
import Derived.Test.YtjhaopkhpmkkiaaDoorOpposite
import Derived.Test.YtjhaopkhpmkkiaaDoorRelX
namespace Go.Proofs.YtjhaopkhpmkkiaaDoor
open Go.RowKit

theorem exec_append {P : Program} {a : Act} {o : Oper} {w w3 : World} {s x : Operand} {t : TypeId} {v xv v' : Value} (ho : o.op = .call { callee := .builtin .append, args := #[s, x], argTypes := #[t, t] }) (hs : a.eval s = v) (hx : a.eval x = xv)
    (hrun : (Builtin.append_ #[t, t] o.type #[v, xv]).run P w = .ok v' w3) : (execOp a.eval o).run P w = .ok (.value v') w3 := by
  simp [execOp, ho, resolve, invoke, builtin, hs, hx, hrun, Result.andThen]
/-- what solve has told -/
def TellS (l : List GReq) (B : Nat) (u : Value) (w' : World) : Prop :=
  ∃ (v' : Value) (out : List GLabel) (is : Bool), u = .tuple #[v', .bool is] ∧ SolveOK l out is ∧ OwnAt LabelR 2 w' B 78 v' out ∧ (∀ x ∈ out, okLab x) ∧ out.length ≤ 9
theorem own_sameBut {α : Type} {R : Rd α} (hf : Flat R) {k : Nat} {w w' : World} {B : Nat} {e e' : TypeId} {v : Value} {l : List α} (h : OwnAt R k w B e v l) (hs : SameBut e' w w') (hne : e ≠ e') : OwnAt R k w' B e v l := by
  obtain ⟨css, h1, h2, h3, h4⟩ := h
  refine ⟨css, h1, h2, ⟨h3.1, ?_⟩, fun j cs y hcs hy => hf _ _ _ _ (h4 j cs y hcs hy)⟩
  rcases h3.2 with h5 | ⟨q, cap, cur, rfl, hB, hh, hr⟩
  · exact .inl h5
  · exact .inr ⟨q, cap, cur, rfl, hB, hs _ _ _ _ hh hne, hr⟩
theorem TellS.sameBut {l : List GReq} {B : Nat} {u : Value} {w w' : World} (h : TellS l B u w) (hs : SameBut 33 w w') : TellS l B u w' := by
  obtain ⟨v', out, is, h1, h2, h3, h4, h5⟩ := h
  exact ⟨v', out, is, h1, h2, own_sameBut flat_lab h3 hs (by decide), h4, h5⟩
theorem TellS.below {l : List GReq} {B : Nat} {u : Value} {w w' : World} (h : TellS l B u w) (hb : Below w.heap.size w w') : TellS l B u w' := by
  obtain ⟨v', out, is, h1, h2, h3, h4, h5⟩ := h
  exact ⟨v', out, is, h1, h2, h3.below flat_lab.stays hb, h4, h5⟩
def ImpliesAt (a b : List GReq) (w : World) (E : Ending) (w' : World) : Prop :=
  ∃ (v' : Value) (out : List GLabel) (is : Bool), E = .returned (.tuple #[.bool is, v', .int .i64 (implyE a b)]) ∧ (implyE a b = 0 → ImplyOK a b out is) ∧ (implyE a b ≠ 0 → is = false ∧ out = []) ∧ (is = true → out = []) ∧ RowAt LabelR 2 w' v' out ∧ (∀ x ∈ out, okLab x) ∧ out.length ≤ 9 ∧ Below w.heap.size w w'
set_option maxRecDepth 100000 in
set_option maxHeartbeats 6400000 in
theorem implies_any (va vb : Value) (a b : List GReq) (m : Int) (w : World) (ha : RowAt ReqR 3 w va a) (hb : RowAt ReqR 3 w vb b) (hla : a.length ≤ 1048576) (hlb : b.length ≤ 1048576) (hoka : ∀ r ∈ a, okReq r) (hokb : ∀ r ∈ b, okReq r) (hm : MaxOK m w) :
    Calls Tryd.prog 14 #[va, vb] w (ImpliesAt a b w) := by
  obtain ⟨i0, hi0, hz0, hz1, hz2⟩ := info_parts Tryd.infoReq
  obtain ⟨a0, c0, rfl, _, _⟩ := ha.len
  obtain ⟨a1, c1, rfl, _, _⟩ := hb.len
  obtain ⟨e1, He1⟩ : ∃ e, Hid (reqsE a = e) := ⟨_, Lib.hid rfl⟩
  obtain ⟨e2, He2⟩ : ∃ e, Hid (reqsE b = e) := ⟨_, Lib.hid rfl⟩
  have hE : implyE a b = if e1 = 0 then e2 else e1 := by unfold implyE; rw [He1.out, He2.out]
  have HE := Lib.hid hE
  have Hat := Lib.hid (ha.atW (Below.refl _ _))
  have Ha := Lib.hid ha
  have Hb := Lib.hid hb
  have Hoka := Lib.hid hoka
  have Hokb := Lib.hid hokb
  have Hm := Lib.hid hm
  clear ha hb hoka hokb hm hE
  go_enter Tryd.func14, Tryd.ntmps14
  go_wp2_with fail
  refine (checks_any _ a m w Ha.out hla Hoka.out Hm.out).mono ?_
  rintro E w1 ⟨rfl, hb1⟩
  have Hb1 := Lib.hid hb1
  rw [He1.out]
  clear hb1
  by_cases h1 : e1 = 0
  · subst h1
    go_wp2_with fail
    refine (checks_any _ b m w1 (Hb.out.below stays_req Hb1.out) hlb Hokb.out (Hm.out.below Hb1.out)).mono ?_
    rintro E w2 ⟨rfl, hb2⟩
    have Hb2 := Lib.hid (Hb1.out.trans (hb2.mono Hb1.out.size))
    rw [He2.out]
    clear hb2
    by_cases h2 : e2 = 0
    · subst h2
      have hz : implyE a b = 0 := by rw [HE.out]; rfl
      have Hz := Lib.hid hz
      obtain ⟨hga, hla8⟩ := goods_of He1.out
      obtain ⟨hgb, hlb8⟩ := goods_of He2.out
      have Hga := Lib.hid hga
      have Hgb := Lib.hid hgb
      clear hz hga hgb
      go_wp2_with fail
      go_loopg [23] b.length (fun k u23 wr => ∃ i : Nat, i + k = b.length ∧ u23 = .int .i64 (i : Int) ∧ Hid (∀ r ∈ b.take i, ∀ labels, (a ++ [oppR r]).all (holdsB labels) = false) ∧ Hid (Below w.heap.size w wr))
      case atStart => exact ⟨0, by omega, rfl, Lib.hid (by simp), Hb2⟩
      case round =>
        obtain ⟨i, hig, rfl, Hno, Hbel⟩ := hrel
        have hsr := Hbel.out.size
        cases gk with
        | zero =>
          obtain rfl : i = b.length := by omega
          have hno := Hno.out
          rw [List.take_of_length_le (Nat.le_refl _)] at hno
          have Hno2 := Lib.hid hno
          clear hno
          go_wp2_with fail
          go_ret3
          exact ⟨_, [], true, by rw [Hz.out]; rfl, fun _ => ⟨fun _ => Hno2.out, fun h => by cases h⟩, fun h => absurd Hz.out h, fun _ => rfl, RowAt.nil _, by simp, by simp, Hbel.out⟩
        | succ k =>
          have hil : i < b.length := by omega
          obtain ⟨r, hri⟩ : ∃ r, b[i]? = some r := ⟨b[i]'(by omega), List.getElem?_eq_getElem _⟩
          have hrb := List.mem_of_getElem? hri
          obtain ⟨bb, o, c', hv, _, _, hbs, hcell⟩ := Hb.out.form (by omega) (by omega)
          injection hv with u1 u2 u3
          subst u1
          clear u2 u3
          obtain ⟨ds, _, hcc, hR⟩ := hcell i r hri
          obtain ⟨y2, rfl, hwf, hst⟩ := hR
          obtain ⟨ao, co, rfl, _, _⟩ := hst.row.len
          have e0 : wr.cell? ⟨bb, o + i * 3, none⟩ = some (.string r.key) := (Hbel.out.cell (p := ⟨bb, _, none⟩) hbs).trans (by simpa using hcc 0 _ rfl)
          have e3 : wr.cell? ⟨bb, o + i * 3 + 1, none⟩ = some (.int .i64 r.kind) := (Hbel.out.cell (p := ⟨bb, _, none⟩) hbs).trans (hcc 1 _ rfl)
          have e4 : wr.cell? ⟨bb, o + i * 3 + 2, none⟩ = some (.slice ao r.vals.length co) := (Hbel.out.cell (p := ⟨bb, _, none⟩) hbs).trans (hcc 2 _ rfl)
          have q1 : (0 : Int) ≤ (i : Int) := by omega
          have q2 : (i : Int) < (b.length : Int) := by omega
          have hkr := (Hgb.out r hrb).kind
          have Hri := Lib.hid hri
          have hoppR : ReqR w [.string r.key, .int .i64 (oppK r.kind), .slice ao r.vals.length co] (oppR r) := by
            refine ⟨.slice ao r.vals.length co, rfl, ?_, hst⟩
            have hk : r.kind = 1 ∨ r.kind = 2 ∨ r.kind = 3 ∨ r.kind = 4 := by omega
            show (Lit.int .i64 (oppK r.kind)).wf = true
            rcases hk with h | h | h | h <;> rw [h] <;> decide
          have HoppR := Lib.hid hoppR
          have Hrok := Lib.hid (Hokb.out r hrb)
          have Hrg := Lib.hid (Hgb.out r hrb)
          clear hcc hcell hri hst hwf hoppR hrb
          go_upto_region 9 with fail
          obtain ⟨W, hW⟩ : ∃ W, W = wr.alloc (.cells #[.string r.key, .int .i64 r.kind, .slice ao r.vals.length co] 33) := ⟨_, rfl⟩
          obtain ⟨gb, hgb⟩ : ∃ gb, gb = wr.heap.size := ⟨_, rfl⟩
          rw [← hW, ← hgb]
          have d0 : W.heap[gb]? = some (.cells #[.string r.key, .int .i64 r.kind, .slice ao r.vals.length co] 33 (0, 0)) := by rw [hW, hgb]; exact heap_alloc_new wr _
          have hb5 : Below wr.heap.size wr W := by rw [hW]; exact (Below.refl _ _).alloc (Nat.le_refl _) _
          have HW := Lib.hid (Hbel.out.trans (hb5.mono hsr))
          have hWs := HW.out.size
          have hgW : gb < W.heap.size := (Array.getElem?_eq_some_iff.1 d0).1
          clear hW hgb hb5 e0 e3 e4
          have Hg10 : Hid (∀ q ∈ a ++ [oppR r], GoodR q) := Lib.hid fun q hq => by
            rcases List.mem_append.1 hq with h | h
            · exact Hga.out q h
            · rw [List.mem_singleton.1 h]; exact good_opp Hrg.out
          have Hok10 : Hid (∀ q ∈ a ++ [oppR r], okReq q) := Lib.hid fun q hq => by
            rcases List.mem_append.1 hq with h | h
            · exact Hoka.out q h
            · rw [List.mem_singleton.1 h]; exact Hrok.out
          refine wp_region_relX 11 (fun w' => Below W.heap.size W w') (fun j w1 w2 => if j = 5 then SameBut 33 w1 w2 ∧ Below W.heap.size w1 w2 else Below w1.heap.size w1 w2) (fun j u w' => match j with
            | 0 => u 0 = .slice a0 a.length c0 | 1 => OwnAt (ReqW w) 3 w' W.heap.size 33 (u 1) a | 2 => u 2 = .agg #[.string r.key, .int .i64 r.kind, .slice ao r.vals.length co]
            | 3 => u 3 = .agg #[.string r.key, .int .i64 (oppK r.kind), .slice ao r.vals.length co] | 4 => RowAt (ReqW w) 3 w' (u 4) [oppR r]
            | 5 => OwnAt (ReqW w) 3 w' W.heap.size 33 (u 5) (a ++ [oppR r])
            | 6 => TellS (a ++ [oppR r]) W.heap.size (u 6) w' | 7 => TellS (a ++ [oppR r]) W.heap.size (u 7) w'
            | 8 => ∃ p q : Value, u 7 = .tuple #[p, q] ∧ u 8 = p | 9 => ∃ p q : Value, u 7 = .tuple #[p, q] ∧ u 9 = q | 10 => u 10 = u 8
            | _ => True)
            (fun | 1 => [0] | 3 => [1, 2] | 4 => [3] | 5 => [1, 4] | 6 => [5] | 7 => [6] | 8 => [7] | 9 => [7] | 10 => [8] | _ => []) (fun | 1 => [5] | 4 => [5] | _ => []) (by kernel_rfl) (by kernel_rfl) (Below.refl _ W).drew ?_ ?_ ⟨?_, ?_, ?_, ?_, ?_, ?_, ?_, ?_, ?_, ?_, ?_, trivial⟩ ?_
          · intro j w1 w2 hk hI
            by_cases h5 : j = 5
            · rw [if_pos h5] at hk
              exact hI.trans hk.2
            · rw [if_neg h5] at hk
              exact hI.trans (hk.mono hI.size)
          · intro i' j u w1 w2 hji hkill hk hI h
            by_cases h5 : i' = 5
            · rw [if_pos h5] at hk
              subst h5
              match j, hji, hkill, h with
              | 0, _, _, h => exact h
              | 1, _, hkill, _ => exact absurd (by simp) hkill
              | 2, _, _, h => exact h
              | 3, _, _, h => exact h
              | 4, _, hkill, _ => exact absurd (by simp) hkill
              | 5, hji, _, _ => exact absurd rfl hji
              | 6, _, _, h => exact TellS.sameBut h hk.1
              | 7, _, _, h => exact TellS.sameBut h hk.1
              | 8, _, _, h => exact h
              | 9, _, _, h => exact h
              | 10, _, _, h => exact h
              | _ + 11, _, _, h => trivial
            · rw [if_neg h5] at hk
              match j, h with
              | 0, h => exact h
              | 1, h => exact OwnAt.below (flat_atW w ReqR).stays h hk
              | 2, h => exact h
              | 3, h => exact h
              | 4, h => exact RowAt.below (flat_atW w ReqR).stays h hk
              | 5, h => exact OwnAt.below (flat_atW w ReqR).stays h hk
              | 6, h => exact TellS.below h hk
              | 7, h => exact TellS.below h hk
              | 8, h => exact h
              | 9, h => exact h
              | 10, h => exact h
              | _ + 11, h => trivial
          · intro x' w' hb hd
            refine owesK_here (.slice a0 a.length c0) (by rfl) ?_ rfl (else_of (by decide) (Below.refl _ _))
            simp only [putAll, List.take_succ_cons, List.take_zero]
            go_simp
          · intro x' w' hb hd
            have h0 : x' 0 = .slice a0 a.length c0 := hd 0 (by simp)
            have hb2 : Below w.heap.size w w' := HW.out.trans (hb.mono hWs)
            refine owesK_call 27 #[.slice a0 a.length c0] (by rfl) ?_ ((cloneReq_any (flat_atW w ReqR) (one_atW w one_req) _ a w' (Hat.out.below (flat_atW w ReqR).stays hb2) (by omega)).mono ?_)
            · simp only [putAll, List.take_succ_cons, List.take_zero]
              go_simp
            · rintro _ w2 ⟨v2, rfl, ho, hb3⟩
              exact ⟨v2, rfl, ho.mono hb.size, else_of (by decide) hb3⟩
          · intro x' w' hb hd
            have d1 := (hb.block gb hgW).trans d0
            refine owesK_here (.agg #[.string r.key, .int .i64 r.kind, .slice ao r.vals.length co]) (by rfl) ?_ rfl (else_of (by decide) (Below.refl _ _))
            simp only [putAll, List.take_succ_cons, List.take_zero]
            have e3 := fun i => cell_block d1 i
            go_simp
          · intro x' w' hb hd
            have h2 : x' 2 = .agg #[.string r.key, .int .i64 r.kind, .slice ao r.vals.length co] := hd 2 (by simp)
            refine owesK_call 28 #[.agg #[.string r.key, .int .i64 r.kind, .slice ao r.vals.length co]] (by rfl) ?_ ((opposite_any r ao co w' hkr).mono ?_)
            · simp only [putAll, List.take_succ_cons, List.take_zero]
              rw [h2]
              go_simp
            · rintro _ w2 ⟨rfl, hb3⟩
              exact ⟨_, rfl, rfl, else_of (by decide) hb3⟩
          · intro x' w' hb hd
            have h3 : x' 3 = .agg #[.string r.key, .int .i64 (oppK r.kind), .slice ao r.vals.length co] := hd 3 (by simp)
            refine owesK_makes (w' := w'.alloc (.cells #[.string r.key, .int .i64 (oppK r.kind), .slice ao r.vals.length co] 33)) (.slice (some ⟨w'.heap.size, 0, none⟩) 1 1) (by rfl) ?_ (RowAt.one (R := ReqW w) (heap_alloc_new w' _) rfl HoppR.out) (else_of (by decide) ((Below.refl _ w').alloc (Nat.le_refl _) _))
            clear hd
            simp only [putAll, List.take_succ_cons, List.take_zero]
            rw [h3]
            go_simp
          · intro x' w' hb hd
            have h1 : OwnAt (ReqW w) 3 w' W.heap.size 33 (x' 1) a := hd 1 (by simp)
            have h4 : RowAt (ReqW w) 3 w' (x' 4) [oppR r] := hd 4 (by simp)
            obtain ⟨v', w3, hrun, r1, r2, r3, _⟩ := run_append_ownAt (P := Tryd.prog) w' 22 22 i0 _ 48 Tryd.underlying22 hi0 hz0 hz1 hz2 rfl (by omega) (flat_atW w ReqR) (one_atW w one_req) (x' 1) h1 (x' 4) (m := [oppR r]) h4 (by unfold maxLen; simp; omega) (by simp; omega) hb.size
            refine owesK_makes (w' := w3) v' (by rfl) ?_ r1 (then_of rfl ⟨h1.sameBut r2, (Below.refl _ w').grown r2 hb.size r3⟩)
            simp only [putAll, List.take_succ_cons, List.take_zero]
            try simp only [Act.put, List.setIfInBounds_toArray, List.set_cons_zero, List.set_cons_succ]
            exact exec_append (by rfl) (by rfl) (by rfl) hrun
          · intro x' w' hb hd
            have h5 : OwnAt (ReqW w) 3 w' W.heap.size 33 (x' 5) (a ++ [oppR r]) := hd 5 (by simp)
            have hb2 : Below w.heap.size w w' := HW.out.trans (hb.mono hWs)
            refine owesK_call 26 #[x' 5] (by rfl) ?_ ((solve_any (x' 5) (a ++ [oppR r]) w' (h5.row.ofW stays_req hb2) (by rw [List.length_append]; simp; omega) Hok10.out Hg10.out).mono ?_)
            · simp only [putAll, List.take_succ_cons, List.take_zero]
              go_simp
            · rintro _ w2 ⟨v2, out, is, rfl, hs, hr, ho, hlen, hb3⟩
              exact ⟨_, rfl, ⟨v2, out, is, rfl, hs, hr.mono hb.size, ho, hlen⟩, else_of (by decide) hb3⟩
          · intro x' w' hb hd
            have h6 : TellS (a ++ [oppR r]) W.heap.size (x' 6) w' := hd 6 (by simp)
            refine owesK_here (x' 6) (by rfl) ?_ h6 (else_of (by decide) (Below.refl _ _))
            clear hd h6
            simp only [putAll, List.take_succ_cons, List.take_zero]
            go_simp
          · intro x' w' hb hd
            have h7 : TellS (a ++ [oppR r]) W.heap.size (x' 7) w' := hd 7 (by simp)
            obtain ⟨p, out, is, h7, _⟩ := h7
            refine owesK_here p (by rfl) ?_ ⟨p, .bool is, h7, rfl⟩ (else_of (by decide) (Below.refl _ _))
            clear hd
            simp only [putAll, List.take_succ_cons, List.take_zero]
            rw [h7]
            go_simp
          · intro x' w' hb hd
            have h7 : TellS (a ++ [oppR r]) W.heap.size (x' 7) w' := hd 7 (by simp)
            obtain ⟨p, out, is, h7, _⟩ := h7
            refine owesK_here (.bool is) (by rfl) ?_ ⟨p, .bool is, h7, rfl⟩ (else_of (by decide) (Below.refl _ _))
            clear hd
            simp only [putAll, List.take_succ_cons, List.take_zero]
            rw [h7]
            go_simp
          · intro x' w' hb hd
            refine owesK_here (x' 8) (by rfl) ?_ rfl (else_of (by decide) (Below.refl _ _))
            clear hd
            simp only [putAll, List.take_succ_cons, List.take_zero]
            go_simp
          · intro x' w' hb hR
            have h7 : TellS (a ++ [oppR r]) W.heap.size (x' 7) w' := hR 7 (by omega) rfl
            have h8 : ∃ p q : Value, x' 7 = .tuple #[p, q] ∧ x' 8 = p := hR 8 (by omega) rfl
            have h9 : ∃ p q : Value, x' 7 = .tuple #[p, q] ∧ x' 9 = q := hR 9 (by omega) rfl
            have h10 : x' 10 = x' 8 := hR 10 (by omega) rfl
            obtain ⟨p, out, is, h7, hs, hr, ho, hlen⟩ := h7
            obtain ⟨p2, q2, g7, g8⟩ := h8
            obtain ⟨p3, q3, k7, k9⟩ := h9
            have e8 : x' 8 = p := by
              rw [h7] at g7
              injection g7 with g7
              injection g7 with g7
              injection g7 with g7
              rw [g8, g7]
            have e9 : x' 9 = .bool is := by
              rw [h7] at k7
              injection k7 with k7
              injection k7 with k7
              injection k7 with _ k7
              injection k7 with k7
              rw [k9, k7]
            have e10 : x' 10 = p := h10.trans e8
            have Hs := Lib.hid hs
            have Hr := Lib.hid hr.row
            have Ho := Lib.hid ho
            have Hb10 := Lib.hid (HW.out.trans (hb.mono hWs))
            obtain ⟨ap, cp, rfl, _, _⟩ := hr.row.len
            clear hR hs hr ho hb g7 g8 k7 k9 h10 e8 h7
            simp only [putAll, List.take_succ_cons, List.take_zero, List.drop_succ_cons, List.drop_zero]
            rw [e9, e10]
            clear e9 e10
            try simp only [Act.put, List.setIfInBounds_toArray, List.set_cons_zero, List.set_cons_succ]
            cases is with
            | true =>
              have Hfound : Hid (ImplyOK a b out false) := Lib.hid ⟨fun h => (by cases h), fun _ => ⟨r, List.mem_of_getElem? Hri.out, (Hs.out.1 rfl).1, (Hs.out.1 rfl).2⟩⟩
              go_wp2_with fail
              go_ret3
              exact ⟨_, out, false, by rw [Hz.out]; rfl, fun _ => Hfound.out, fun h => absurd Hz.out h, fun h => (by cases h), Hr.out, Ho.out, hlen, Hb10.out⟩
            | false =>
              have Hno2 : Hid (∀ q ∈ b.take (i + 1), ∀ labels, (a ++ [oppR q]).all (holdsB labels) = false) := Lib.hid fun q hq => by
                rw [List.take_add_one, Hri.out] at hq
                rcases List.mem_append.1 hq with h | h
                · exact Hno.out q h
                · simp at h; subst h; exact Hs.out.2 rfl
              go_wp2_with fail
              go_roundg k
              case measure => omega
              case rel => exact ⟨i + 1, by omega, by go_num, Hno2, Hb10⟩
    · have q1 : (e2 == 0) = false := by rw [beq_eq_false_iff_ne]; exact h2
      have q2 : (e2 != 0) = true := by rw [bne_iff_ne]; exact h2
      have hz : implyE a b = e2 := by rw [HE.out]; rfl
      have Hz := Lib.hid hz
      have H2 := Lib.hid h2
      clear h2 hz
      go_wp2_with fail
      go_ret3
      exact ⟨_, [], false, by rw [Hz.out]; rfl, fun h => absurd (Hz.out.symm.trans h) H2.out, fun _ => ⟨rfl, rfl⟩, fun _ => rfl, RowAt.nil _, by simp, by simp, Hb2.out⟩
  · have q1 : (e1 == 0) = false := by rw [beq_eq_false_iff_ne]; exact h1
    have q2 : (e1 != 0) = true := by rw [bne_iff_ne]; exact h1
    have hz : implyE a b = e1 := by rw [HE.out, if_neg h1]
    have Hz := Lib.hid hz
    have H1 := Lib.hid h1
    clear h1 hz
    go_wp2_with fail
    go_ret3
    exact ⟨_, [], false, by rw [Hz.out]; rfl, fun h => absurd (Hz.out.symm.trans h) H1.out, fun _ => ⟨rfl, rfl⟩, fun _ => rfl, RowAt.nil _, by simp, by simp, Hb1.out⟩
end Go.Proofs.YtjhaopkhpmkkiaaDoor
