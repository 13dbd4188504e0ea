/- Texts of ours joined. -/
import Derived.Deep.QuietTactic
import Derived.BigQuiet
import Derived.Deep.DeepCutAuto
import Derived.Lib.Hide
import Derived.IntWalk
import Derived.Test.YtgoapmjcfdbjpaaMt2
set_option linter.unusedVariables false
set_option linter.unusedSimpArgs false
namespace Go.Proofs.Ytgoapmjcfdbjpaa
open Go.RowKit
def QAt {α : Type} (enc : α → Value) (e : TypeId) (w : World) (B : Nat) (v : Value) (l : List α) : Prop :=
  (v = .slice none 0 0 ∧ l = []) ∨
  ∃ b o c cur, v = .slice (some ⟨b, o, none⟩) l.length c ∧ B ≤ b ∧ w.heap[b]? = some (.cells cur e (0, 0)) ∧ o + c ≤ cur.size ∧ l.length ≤ c ∧ c ≤ maxLen ∧ ∀ (j : Nat) x, l[j]? = some x → cur[o + j]? = some (enc x)
section
variable {α : Type} {enc : α → Value} {e : TypeId} {w w' : World} {B : Nat} {v : Value} {l : List α}
theorem QAt.nil (enc : α → Value) (e : TypeId) (w : World) (B : Nat) : QAt enc e w B (.slice none 0 0) [] := .inl ⟨rfl, rfl⟩
theorem QAt.keep (h : QAt enc e w B v l) (hk : ∀ b, v.ownBlock = some b → w'.heap[b]? = w.heap[b]?) : QAt enc e w' B v l := by
  rcases h with h | ⟨b, o, c, cur, rfl, hB, hh, r⟩
  · exact .inl h
  · exact .inr ⟨b, o, c, cur, rfl, hB, (hk b rfl).trans hh, r⟩
theorem QAt.at (h : QAt enc e w B v l) {b : Nat} (hb : v.ownBlock = some b) : B ≤ b ∧ b < w.heap.size ∧ ∃ cur, w.heap[b]? = some (.cells cur e (0, 0)) := by
  rcases h with ⟨rfl, _⟩ | ⟨b', o, c, cur, rfl, hB, hh, r⟩
  · cases hb
  · simp [Value.ownBlock] at hb
    subst hb
    exact ⟨hB, (Array.getElem?_eq_some_iff.1 hh).1, cur, hh⟩
theorem QAt.below (h : QAt enc e w B v l) (hb : Below w.heap.size w w') : QAt enc e w' B v l := h.keep fun _ hq => hb.block _ (h.at hq).2.1
theorem QAt.len (h : QAt enc e w B v l) : ∃ a c, v = .slice a l.length c ∧ l.length ≤ c ∧ c ≤ maxLen := by
  rcases h with ⟨rfl, rfl⟩ | ⟨b, o, c, cur, rfl, _, _, _, h1, h2, _⟩
  · exact ⟨_, _, rfl, Nat.le_refl _, Nat.zero_le _⟩
  · exact ⟨_, _, rfl, h1, h2⟩
theorem QAt.one {b : Nat} {x : α} (hb : w.heap[b]? = some (.cells #[enc x] e (0, 0))) (hB : B ≤ b) : QAt enc e w B (.slice (some ⟨b, 0, none⟩) 1 1) [x] := by
  refine .inr ⟨b, 0, 1, _, rfl, hB, hb, by simp, by simp, by unfold maxLen; omega, fun j y hy => ?_⟩
  match j, hy with
  | 0, hy => simp at hy; subst hy; rfl
  | j + 1, hy => simp at hy
theorem QAt.head {x : α} {r : List α} (h : QAt enc e w B v (x :: r)) : ∃ b o c, v = .slice (some ⟨b, o, none⟩) (r.length + 1) c ∧ w.cell? ⟨b, o, none⟩ = some (enc x) ∧ r.length + 1 ≤ c ∧ c ≤ maxLen ∧
    QAt enc e w B (.slice (if c = 1 then some ⟨b, o, none⟩ else some ⟨b, o + 1, none⟩) r.length (c - 1)) r := by
  rcases h with ⟨_, h⟩ | ⟨b, o, c, cur, rfl, hB, hh, hs, hl, hm, hc⟩
  · cases h
  · have h0 := hc 0 x rfl
    simp only [List.length_cons] at hl
    refine ⟨b, o, c, rfl, by rw [cell_of_row w b o cur e (0, 0) hh]; exact h0, hl, hm, ?_⟩
    by_cases hc1 : c = 1
    · rw [if_pos hc1]
      have : r = [] := List.eq_nil_of_length_eq_zero (by omega)
      subst this
      exact .inr ⟨b, o, c - 1, cur, by simp, hB, hh, by omega, by simp, by omega, fun j y hy => by simp at hy⟩
    · rw [if_neg hc1]
      exact .inr ⟨b, o + 1, c - 1, cur, rfl, hB, hh, by omega, by omega, by omega, fun j y hy => by
        have := hc (j + 1) y (by simpa using hy)
        rwa [show o + (j + 1) = o + 1 + j by omega] at this⟩
theorem run_append_q {P : Program} {t ty : TypeId} {i : TypeInfo} {z : Value} {bytes : Nat} (ht : P.underlying t = some (.slice e)) (hi : P.info? e = some i) (hz : i.zero = some z) (hsize : i.size = 1) (hby : i.bytes = bytes) (hzs : z.cells.size = 1)
    (h1 : ∀ x : α, (enc x).oneCell' = true) (h : QAt enc e w B v l) {x : α} {X : Value} {q : Nat} (hX : X = .slice (some ⟨q, 0, none⟩) 1 1) (hq : w.heap[q]? = some (.cells #[enc x] e (0, 0))) (hL : l.length ≤ 1048576) (hb48 : bytes ≤ 64) (hB : B ≤ w.heap.size) :
    ∃ v' w', (Builtin.append_ #[t, t] ty #[v, X]).run P w = .ok v' w' ∧ QAt enc e w' B v' (l ++ [x]) ∧ w.grownBy w' v.ownBlock ∧ (v'.ownBlock = v.ownBlock ∨ v'.ownBlock = some w.heap.size) := by
  subst hX
  have hnews : ∀ (j : Nat) (u : Value), [enc x][j]? = some u → w.cell? ((⟨q, 0, none⟩ : Addr).add j) = some u := fun j u hu => by
    match j, hu with
    | 0, hu =>
      simp at hu
      subst hu
      rw [add_plain', cell_of_row w q _ _ e (0, 0) hq]
      rfl
    | j + 1, hu => simp at hu
  have own : ∀ {v'' : Value} {w'' : World}, w''.ownsRow w.heap.size e 1 v'' (l.length + 1) (l.map enc ++ [enc x]) → QAt enc e w'' B v'' (l ++ [x]) ∧ v''.ownBlock = v''.ownBlock := fun {v'' w''} ho => by
    refine ⟨?_, rfl⟩
    rcases ho.2 with ⟨_, h0⟩ | ⟨g, cap, cur, rfl, hg, hh, hn, hm, hs, ht⟩
    · omega
    · refine .inr ⟨g, 0, cap, cur, by simp, by omega, hh, by omega, by simpa using hn, hm, fun j y hy => ?_⟩
      have hj : j < l.length + 1 := by have := (List.getElem?_eq_some_iff.1 hy).1; simpa using this
      have h2 : (cur.toList.take ((l.length + 1) * 1))[j]? = (l.map enc ++ [enc x])[j]? := by rw [ht]
      rw [List.getElem?_take_of_lt (by omega)] at h2
      have h3 : (l.map enc ++ [enc x])[j]? = some (enc y) := by
        have : l.map enc ++ [enc x] = (l ++ [x]).map enc := by simp
        rw [this, List.getElem?_map, hy]; rfl
      rw [h3] at h2
      simpa using h2
  rcases h with ⟨rfl, rfl⟩ | ⟨b, o, c, cur, rfl, hBb, hh, hs, hl, hm, hc⟩
  · obtain ⟨v', w', hr, r1, r2, _, r4⟩ := run_append_own_at (P := P) w w.heap.size t ty e i z 1 bytes ht hi hz hsize hby hzs (by omega) (.slice none 0 0) 0 [] (World.ownsRow_nil _ _ _ _) ⟨q, 0, none⟩ 1 1 [enc x] rfl hnews (by simpa using h1 x) (by unfold maxLen; omega) (by omega) (Nat.le_refl _)
    exact ⟨v', w', hr, (own (by simpa using r1)).1, r2, r4⟩
  · by_cases hroom : l.length + 1 ≤ c
    · have hcell : ∀ j, j < [enc x].length → (w.cell? ⟨b, o + l.length * i.size + j, none⟩).isSome = true := fun j hj => by
        simp only [List.length_cons, List.length_nil] at hj
        rw [cell_of_row w b _ cur e (0, 0) hh, hsize, Array.getElem?_eq_getElem (by omega)]; rfl
      have hfree : ∀ j, j < [enc x].length → w.frozen? ⟨b, o + l.length * i.size + j, none⟩ = false := fun j hj => free_block hh _
      have hr := run_append_room_cells (P := P) w t ty e i ht hi b o l.length c ⟨q, 0, none⟩ 1 1 [enc x] (by rw [hsize]; rfl) hnews (by simpa using h1 x) hroom hcell hfree
      rw [hsize, Nat.mul_one] at hr
      obtain ⟨cur', g1, g2, g3, g4, g5⟩ := setCells_rowS b e [enc x] (o + l.length) cur w hh (by simp; omega)
      refine ⟨_, _, hr, .inr ⟨b, o, c, cur', by simp, hBb, g1, by omega, by simpa using hroom, hm, fun j y hy => ?_⟩, ⟨g5.os, g5.tape, g5.output, by rw [g5.size]; exact Nat.le_refl _, fun k _ hne => g5.other k fun e => hne (by simp [Value.ownBlock, e])⟩, .inl rfl⟩
      by_cases hj : j < l.length
      · rw [List.getElem?_append_left hj] at hy
        rw [g3 _ (by omega)]
        exact hc j y hy
      · have hj2 : j < l.length + 1 := by have := (List.getElem?_eq_some_iff.1 hy).1; simpa using this
        obtain rfl : j = l.length := by omega
        rw [List.getElem?_append_right (Nat.le_refl _)] at hy
        simp at hy
        subst hy
        have := g4 0 (enc x) rfl
        simpa using this
    · obtain ⟨v', w', hr, r1, r2⟩ := run_append_arg_grows (P := P) w t ty e i z 1 bytes ht hi hz hsize hby hzs (by omega) ⟨b, o, none⟩ l.length c (l.map enc) (by simp) (fun j u hu => by
          rw [List.getElem?_map] at hu
          cases hx : l[j]? with
          | none => rw [hx] at hu; cases hu
          | some y =>
            rw [hx] at hu
            simp at hu
            subst hu
            rw [add_plain', cell_of_row w b _ cur e (0, 0) hh]
            exact hc j y hx) ⟨q, 0, none⟩ 1 1 [enc x] rfl hnews (by omega) (by unfold maxLen; omega) (by have : (l.length + 1) * bytes ≤ 1048577 * 64 := Nat.mul_le_mul (by omega) hb48; omega)
      refine ⟨v', w', hr, (own r1).1, ⟨r2.os, r2.tape, r2.output, r2.size, fun k hk _ => r2.block k hk (by simp)⟩, ?_⟩
      rcases r1.2 with ⟨_, h0⟩ | ⟨g, cap, cur', rfl, hg, hh', _⟩
      · omega
      · right
        have hrun := run_append_grow (P := P) w t ty e i z ht hi hz ⟨b, o, none⟩ l.length c (l.map enc) (by rw [hsize]; simp) (fun j u hu => by
          rw [List.getElem?_map] at hu
          cases hx : l[j]? with
          | none => rw [hx] at hu; cases hu
          | some y =>
            rw [hx] at hu
            simp at hu
            subst hu
            rw [add_plain', cell_of_row w b _ cur e (0, 0) hh]
            exact hc j y hx) ⟨q, 0, none⟩ 1 1 [enc x] (by rw [hsize]; rfl) hnews (by omega) (by omega) (growslice_fits (by omega) (by rw [hby]; have : (l.length + 1) * bytes ≤ 1048577 * 64 := Nat.mul_le_mul (by omega) hb48; omega))
        rw [hrun] at hr
        simp only [Result.ok.injEq, Value.slice.injEq, Option.some.injEq, Addr.mk.injEq] at hr
        simp [Value.ownBlock, ← hr.1.1.1]
end
section
variable {P : Program} {α : Type} {enc : α → Value} {e : TypeId} {w : World} {B : Nat} {v : Value} {l : List α} {ops : Array Oper} {rest : List Oper} {o : Oper} {a : Act} {Q : Exit → Act → World → Prop}
theorem wpList_append_q (hgd : o.guard = none) (s x : Operand) (t : TypeId) (ho : o.op = .call { callee := .builtin .append, args := #[s, x], argTypes := #[t, t] })
    {i : TypeInfo} {z : Value} {bytes : Nat} (ht : P.underlying t = some (.slice e)) (hi : P.info? e = some i) (hz : i.zero = some z) (hsize : i.size = 1) (hby : i.bytes = bytes) (hzs : z.cells.size = 1)
    (h1 : ∀ x : α, (enc x).oneCell' = true) (hs : a.eval s = v) (h : QAt enc e w B v l) (y : α) (q : Nat) (hx : a.eval x = .slice (some ⟨q, 0, none⟩) 1 1) (hq : w.heap[q]? = some (.cells #[enc y] e (0, 0))) (hL : l.length ≤ 1048576) (hb48 : bytes ≤ 64) (hB : B ≤ w.heap.size)
    (hK : ∀ v' w', QAt enc e w' B v' (l ++ [y]) → w.grownBy w' v.ownBlock → (v'.ownBlock = v.ownBlock ∨ v'.ownBlock = some w.heap.size) → wpList P ops Q rest (a.put o.dst v') w') : wpList P ops Q (o :: rest) a w := by
  refine wpList_plain hgd fun K hK' => ?_
  obtain ⟨v', w', hr, h2, h3, h4⟩ := run_append_q (P := P) (ty := o.type) ht hi hz hsize hby hzs h1 h (x := y) rfl hq hL hb48 hB
  unfold Oper.wp execOp
  simp only [ho, resolve, invoke, builtin, Sem.run_bind, Sem.run_pure, Result.andThen_ok, List.map_toArray, List.map_cons, List.map_nil, hs, hx, hr]
  exact hK' _ _ (hK v' w' h2 h3 h4)
end
end Go.Proofs.Ytgoapmjcfdbjpaa
namespace Go.Proofs.Ytgoapmjcfdbjpaa
open Go.RowKit Go.MapKept Go.ChangeMaps
theorem one_enc (x : ByteArray) : (Value.string x).oneCell' = true := rfl
set_option maxRecDepth 100000 in
set_option maxHeartbeats 6400000 in
theorem graphUnder_any {lo tb ob n : Nat} {T f : KB → Option Value} {l : List GCard} (uid : ByteArray) (w : World) (hG : GraphAt w lo tb ob n T f l) (hgd : GoodL l) (hok : OkCards l) (hu : uid.size ≤ 1048576) :
    Calls Try.prog 29 #[.agg #[.map (some tb), .map (some ob)], .string uid] w fun e w' => ∃ (v' : Value) (ss : List ByteArray), e = .returned v' ∧ OwnAt RString 1 w' w.heap.size 9 v' ss ∧ ss.Nodup ∧ (∀ s, s ∈ ss ↔ Rf.Comes (cds l) uid s) ∧ Below w.heap.size w w' := by
  have HG := Lib.hid hG
  have Hgd := Lib.hid hgd
  have hmm := @run_makeMap Try.prog
  have hl := hgd.len
  have Hun := Lib.hid hgd.nodup
  have Hs : Hid (∀ s ∈ Rf.uids (cds l), s.size ≤ 1048576) := Lib.hid fun s hs => by
    rw [cds_uids] at hs
    obtain ⟨x, hx, rfl⟩ := List.mem_map.1 hs
    exact (hok.2 x hx).1
  obtain ⟨nl, hnl⟩ : ∃ n, l.length = n := ⟨_, rfl⟩
  rw [hnl] at hl
  have Hnl := Lib.hid hnl
  have hwg : tb < w.heap.size := hG.there.lt
  clear hG hgd hok hnl
  go_enter Try.func29, Try.ntmps29
  go_upto_region 3 with fail
  obtain ⟨gg, hgg⟩ : ∃ b, b = w.heap.size := ⟨_, rfl⟩
  obtain ⟨sm, hsm⟩ : ∃ b, b = w.heap.size + 1 := ⟨_, rfl⟩
  obtain ⟨q0, hq0⟩ : ∃ b, b = w.heap.size + 1 + 1 := ⟨_, rfl⟩
  obtain ⟨wa, hwa⟩ : ∃ x, x = w.alloc (.cells #[.map (some tb), .map (some ob)] 56) := ⟨_, rfl⟩
  obtain ⟨wb, hwb⟩ : ∃ x, x = wa.alloc (.map #[] 0) := ⟨_, rfl⟩
  obtain ⟨wc, hwc⟩ : ∃ x, x = wb.alloc (.cells #[.string uid] 9) := ⟨_, rfl⟩
  have sa : wa.heap.size = w.heap.size + 1 := by rw [hwa, World.size_alloc]
  have sb : wb.heap.size = w.heap.size + 1 + 1 := by rw [hwb, World.size_alloc, sa]
  have ba : Below w.heap.size w wa := by rw [hwa]; exact (Below.refl _ w).alloc (Nat.le_refl _) _
  have bb : Below wa.heap.size wa wb := by rw [hwb]; exact (Below.refl _ wa).alloc (Nat.le_refl _) _
  have bc : Below wb.heap.size wb wc := by rw [hwc]; exact (Below.refl _ wb).alloc (Nat.le_refl _) _
  have bac : Below wa.heap.size wa wc := bb.trans (bc.mono (by omega))
  have hGa : wa.heap[gg]? = some (.cells #[.map (some tb), .map (some ob)] 56 (0, 0)) := by rw [hwa, hgg]; exact heap_alloc_new w _
  have hMb : MapS Try.prog 9 wb sm 0 fun _ => none := by rw [hwb, hsm, ← sa]; exact mapS_made _ _ _
  have hQc : wc.heap[q0]? = some (.cells #[.string uid] 9 (0, 0)) := by rw [hwc, hq0, ← sb]; exact heap_alloc_new wb _
  have BG0 := Lib.hid (below_block bac hGa)
  have HM0 := Lib.hid (hMb.belowW bc)
  have HQ0 : Hid (QAt Value.string 9 wc w.heap.size (.slice (some ⟨q0, 0, none⟩) 1 1) ((uid :: []).drop 0)) := Lib.hid (QAt.one hQc (by omega))
  have HB0 : Hid (Below w.heap.size w wc) := Lib.hid (ba.trans (bac.mono (by omega)))
  have HS0 : Hid (SeenM (fun _ => none) []) := Lib.hid fun s => by simp
  have HU0 := Lib.hid (Rf.uinv_zero (cds l) uid)
  have Hle : Hid (w.heap.size ≤ gg ∧ w.heap.size ≤ sm ∧ gg ≠ sm) := Lib.hid (by omega)
  clear ba bb bc bac hGa hMb hQc hmm
  rw [← hwa, ← hwb]
  try rw [← hq0]
  try rw [← hsm]
  try rw [← hgg]
  rw [← hwc]
  clear hwa hwb hwc sa sb hgg hsm hq0
  go_loopg [6] (nl + 1) (fun kk u6 wr => ∃ (k m : Nat) (sn : List ByteArray) (F : KB → Option Value), k + kk = nl + 1 ∧ sn.length = m ∧ Hid (Rf.UInv (cds l) uid sn k 0) ∧ Hid (QAt Value.string 9 wr w.heap.size u6 ((uid :: sn).drop k)) ∧ Hid (MapS Try.prog 9 wr sm m F) ∧ Hid (SeenM F sn) ∧ Hid (wr.heap[gg]? = some (.cells #[.map (some tb), .map (some ob)] 56 (0, 0))) ∧ Hid (Below w.heap.size w wr))
  case atStart => exact ⟨0, 0, [], _, by omega, rfl, HU0, HQ0, HM0, HS0, BG0, HB0⟩
  case round =>
    clear HM0 HQ0 HU0 HS0 BG0 HB0 wa wb wc
    obtain ⟨k, m, sn, F, hkk, hm, HU, HQ, HM, HS, BG, HB⟩ := hrel
    have hml : m ≤ nl := by have := HU.out.len; rw [cds_len, Hnl.out] at this; omega
    have Hm := Lib.hid hm
    by_cases hkl : k < m + 1
    · obtain ⟨hd, r, hdr⟩ : ∃ hd r, (uid :: sn).drop k = hd :: r := by
        cases h9 : (uid :: sn).drop k with
        | nil => have := congrArg List.length h9; rw [List.length_drop, List.length_cons, hm] at this; simp at this; omega
        | cons a b => exact ⟨a, b, rfl⟩
      obtain ⟨kg, rfl⟩ : ∃ kg, gk = kg + 1 := ⟨gk - 1, by omega⟩
      have hget : (uid :: sn)[k]? = some hd := by
        have h9 : ((uid :: sn).drop k)[0]? = some hd := by rw [hdr]; rfl
        rw [List.getElem?_drop] at h9
        simpa using h9
      have hrl : r.length + 1 = m + 1 - k := by have := congrArg List.length hdr; rw [List.length_drop, List.length_cons, hm, List.length_cons] at this; omega
      have hQ' := HQ.out
      rw [hdr] at hQ'
      obtain ⟨qb, qo, qc, rfl, c0, hqc, hqm, -⟩ := hQ'.head
      obtain ⟨nn, hnn⟩ : ∃ nn, r.length + 1 = nn := ⟨_, rfl⟩
      rw [hnn] at HQ hQ' hqc ⊢
      have q0 : (0 : Int) < (nn : Int) := by omega
      have hds : hd.size ≤ 1048576 := by
        cases k with
        | zero => simp at hget; rw [← hget]; exact hu
        | succ k => exact Hs.out hd ((HU.out.comes hd (List.mem_of_getElem? (by simpa using hget))).uid)
      have hOw := (HG.out.below HB.out).owns
      have hlk : ∀ z, (Instr.lookup 54 (.map (some ob)) (.string hd) false).run Try.prog (wr.drewN z) = .ok (valO f hd) (wr.drewN z) := fun z => (hOw.below (below_drewN (Below.refl wr.heap.size wr) z)).look hd (by unfold maxLen; omega)
      have hat := hOw.at hd
      obtain ⟨va, vc, hva, -, -⟩ := hat.row.len
      obtain ⟨vn, hvn⟩ : ∃ vn, (ownsB l hd).length = vn := ⟨_, rfl⟩
      rw [hvn] at hva
      rw [hva] at hlk
      have HSt0 : Hid (StrAt w (.slice va vn vc) (ownsB l hd)) := Lib.hid (by rw [← hva]; exact (HG.out.owns.at hd).row.strs)
      have Hvn := Lib.hid hvn
      have Hget := Lib.hid hget
      have Hdr := Lib.hid hdr
      have cg := fun z => cell_block BG.out z
      have hvl : vn ≤ nl := by rw [← hvn, ← Hnl.out]; exact ownsB_len l hd
      clear hdr hget hat hva hvn hOw hQ' hm
      go_upto_region 4 with fail
      go_quiet (fail)
      have hbq : Below wr.heap.size wr (wr.drewN nq) := below_drewN (Below.refl _ _) nq
      obtain ⟨w3, hw3⟩ : ∃ w3, wr.drewN nq = w3 := ⟨_, rfl⟩
      rw [hw3] at hbq ⊢
      have HQ3 := Lib.hid (HQ.out.below hbq)
      have HM3 := Lib.hid (HM.out.belowW hbq)
      have BG3 := Lib.hid (below_block hbq BG.out)
      have HB3 := Lib.hid (HB.out.trans (hbq.mono HB.out.size))
      clear cg c0 hlk hw3 hbq HQ HM BG HB
      go_wp2_with fail
      have hdec : decide (0 < nn) = true := decide_eq_true (by omega)
      try rw [hdec]
      clear hdec
      go_loopg [6, 24] vn (fun k2 u6 u24 wr2 => ∃ (j m2 : Nat) (sn2 : List ByteArray) (F2 : KB → Option Value), j + k2 = vn ∧ u24 = .int .i64 (j : Int) ∧ sn2.length = m2 ∧ Hid ((uid :: sn2)[k]? = some hd) ∧ Hid (Rf.UInv (cds l) uid sn2 k j) ∧ Hid (QAt Value.string 9 wr2 w.heap.size u6 ((uid :: sn2).drop k)) ∧ Hid (MapS Try.prog 9 wr2 sm m2 F2) ∧ Hid (SeenM F2 sn2) ∧ Hid (wr2.heap[gg]? = some (.cells #[.map (some tb), .map (some ob)] 56 (0, 0))) ∧ Hid (Below w.heap.size w wr2))
      case atStart => exact ⟨0, m, sn, F, by omega, rfl, Hm.out, Hget, HU, HQ3, HM3, HS, BG3, HB3⟩
      case round =>
        clear HU HQ3 HM3 HS BG3 HB3 Hm Hget Hdr hkl hrl
        obtain ⟨j, m2, sn2, F2, hjk, rfl, hm2, Hget, HU, HQ, HM, HS, BG, HB⟩ := hrel
        have hml2 : m2 ≤ nl := by have := HU.out.len; rw [cds_len, Hnl.out] at this; omega
        have hk2l : k < m2 + 1 := by have := (List.getElem?_eq_some_iff.1 Hget.out).1; rw [List.length_cons, hm2] at this; exact this
        cases gk with
        | zero =>
          obtain rfl : vn = j := by omega
          obtain ⟨r2, hdr2⟩ : ∃ r2, (uid :: sn2).drop k = hd :: r2 := ⟨_, Rf.drop_succ Hget.out⟩
          have hQ' := HQ.out
          rw [hdr2] at hQ'
          obtain ⟨qb2, qo2, qc2, rfl, -, hqc2, hqm2, hQt⟩ := hQ'.head
          have hr2 : r2 = (uid :: sn2).drop (k + 1) := by
            have := Rf.drop_succ Hget.out
            rw [hdr2] at this
            injection this
          rw [hr2] at hQt
          obtain ⟨rn, hrn⟩ : ∃ rn, r2.length = rn := ⟨_, rfl⟩
          rw [← hr2, hrn] at hQt
          rw [hr2] at hQt
          have HQt := Lib.hid hQt
          have HU' := Lib.hid (HU.out.next Hget.out (j := vn) (by show (Rf.ownsL (cds l) hd).length ≤ vn; exact Nat.le_of_eq Hvn.out))
          rw [hrn] at hqc2 ⊢
          have p1 : (1 : Int) ≤ ((rn + 1 : Nat) : Int) := by omega
          have p2 : (1 : Int) ≤ (rn : Int) + 1 := by omega
          clear hQ' hQt HQ HU hdr2 hr2
          by_cases hc1 : qc2 = 1
          · subst hc1
            obtain rfl : rn = 0 := by omega
            have HQu := HQt
            rw [if_pos rfl] at HQu
            clear HQt
            go_wp2_with fail
            go_roundg kg
            case measure => omega
            case rel => exact ⟨k + 1, m2, sn2, F2, by omega, hm2, HU', HQu, HM, HS, BG, HB⟩
          · have HQu := HQt
            rw [if_neg hc1] at HQu
            have hc0 : ¬ (qc2 - 1 = 0) := by omega
            clear HQt
            go_wp2_with fail
            go_roundg kg
            case measure => omega
            case rel => exact ⟨k + 1, m2, sn2, F2, by omega, hm2, HU', HQu, HM, HS, BG, HB⟩
        | succ k2 =>
          have hjl : j < vn := by omega
          obtain ⟨u, hju⟩ : ∃ u, (ownsB l hd)[j]? = some u := ⟨(ownsB l hd)[j]'(by rw [Hvn.out]; exact hjl), List.getElem?_eq_getElem _⟩
          obtain ⟨b9, o9, c9, hv9, _, _, _, hcy⟩ := (HSt0.out.below HB.out).form (by rw [Hvn.out]; omega)
          injection hv9 with u1 u2 u3
          subst u1
          clear u2 u3
          have e0 := hcy j u hju
          have q3 : (0 : Int) ≤ (j : Int) := by omega
          have q4 : (j : Int) < (vn : Int) := by omega
          have hus : u.size ≤ 1048576 := Hs.out u (Rf.owns_uids (List.mem_of_getElem? hju))
          have hus9 : u.size ≤ maxLen := by unfold maxLen; omega
          obtain ⟨bin, Hbin⟩ : ∃ b, Hid (decide (u ∈ sn2) = b) := ⟨_, Lib.hid rfl⟩
          have hlk := (MapS.look HM.out Try.underlying9 Try.underlying37 (Try.zeroIntR wr) u hus9).1
          obtain ⟨va2, hva2⟩ : ∃ x, (F2 u.data.toList).getD (.int .i64 0) = x := ⟨_, rfl⟩
          rw [HS.out u, Hbin.out, hva2] at hlk
          have Hju := Lib.hid hju
          clear hva2 hcy hju
          cases bin with
          | true =>
            have HU' := Lib.hid (HU.out.seen Hget.out Hju.out (of_decide_eq_true Hbin.out))
            clear HU
            go_wp2_with fail
            clear hlk e0
            go_roundg k2
            case measure => omega
            case rel => exact ⟨j + 1, m2, sn2, F2, by omega, by go_num, hm2, Hget, HU', HQ, HM, HS, BG, HB⟩
          | false =>
            have hni : u ∉ sn2 := of_decide_eq_false Hbin.out
            have HU' := Lib.hid (HU.out.push Hget.out Hju.out hni)
            have hms9 : m2 < maxLen := by unfold maxLen; omega
            have hgg2 : gg ≠ sm := Hle.out.2.2
            have HS' := Lib.hid (HS.out.add u (.int .i64 1))
            have HQ' : Hid (QAt Value.string 9 wr w.heap.size u6 ((uid :: sn2).drop k)) := HQ
            have Hget' : Hid ((uid :: (sn2 ++ [u]))[k]? = some hd) := Lib.hid (Rf.get_app (l := uid :: sn2) Hget.out)
            have Hdrop : Hid ((uid :: sn2).drop k ++ [u] = (uid :: (sn2 ++ [u])).drop k) := Lib.hid (by
              show _ = ((uid :: sn2) ++ [u]).drop k
              rw [List.drop_append_of_le_length (by rw [List.length_cons, hm2]; omega)])
            have hlen9 : ((uid :: sn2).drop k).length ≤ 1048576 := by rw [List.length_drop, List.length_cons, hm2]; omega
            obtain ⟨a6, c6, hu6, -, -⟩ := HQ.out.len
            obtain ⟨n6, hn6⟩ : ∃ x, ((uid :: sn2).drop k).length = x := ⟨_, rfl⟩
            rw [hn6] at hu6
            subst hu6
            clear HU hni hn6
            go_upto_region 10 with (at_mapUpdate; refine wpList_store_mapS _ (by rfl) _ _ _ 37 (by rfl) 9 3 Try.underlying9 Try.underlying37 sm m2 F2 (by rfl) HM.out hms9 u hus9 (by rfl) (.int .i64 1) (by rfl) ?_; intro w3 hm3 ht3)
            have HM3 := Lib.hid hm3
            have hsz3 : wr.heap.size ≤ w3.heap.size := ht3.grown.size
            have HQ3 : Hid (QAt Value.string 9 w3 w.heap.size (.slice a6 n6 c6) ((uid :: sn2).drop k)) := Lib.hid (HQ.out.keep fun q hq => turned_block ht3 fun e => by
              obtain ⟨_, _, cur, h9⟩ := HQ.out.at hq
              exact HM.out.ne h9 e.symm)
            have BG3 := Lib.hid ((turned_block ht3 hgg2).trans BG.out)
            have HB3 : Hid (Below w.heap.size w w3) := Lib.hid (HB.out.grown ht3.grown HB.out.size fun q hq => by cases hq; exact Hle.out.2.1)
            clear hm3 ht3 hlk e0 HQ HQ' HM BG HB
            obtain ⟨w4, hw4⟩ : ∃ w4, w4 = w3.alloc (.cells #[.string u] 9) := ⟨_, rfl⟩
            have hb4 : Below w3.heap.size w3 w4 := by rw [hw4]; exact (Below.refl _ w3).alloc (Nat.le_refl _) _
            obtain ⟨q9, hq9⟩ : ∃ q, q = w3.heap.size := ⟨_, rfl⟩
            have hq4 : w4.heap[q9]? = some (.cells #[.string u] 9 (0, 0)) := by rw [hw4, hq9]; exact heap_alloc_new w3 _
            have HQ4 := Lib.hid (HQ3.out.below hb4)
            have HM4 := Lib.hid (HM3.out.belowW hb4)
            have BG4 := Lib.hid (below_block hb4 BG3.out)
            have HB4 := Lib.hid (HB3.out.trans (hb4.mono HB3.out.size))
            have hwl : w.heap.size ≤ w4.heap.size := HB4.out.size
            obtain ⟨i0, hi0, hz0, hz1, hz2⟩ := info_parts Try.infoStr
            clear HQ3 HM3 BG3 HB3 hb4 hsz3
            go_upto_region 11 with (at_builtin; rw [← hw4]; try rw [← hq9]; clear hw4 hq9; refine wpList_append_q (enc := Value.string) (by rfl) _ _ _ (by rfl) Try.underlying23 hi0 hz0 hz1 hz2 rfl one_enc (by rfl) HQ4.out u q9 (by rfl) hq4 hlen9 (by omega) hwl ?_; intro v5 w5 hQ5 hg5 hat5)
            have hne5 : ∀ q, (Value.slice a6 n6 c6).ownBlock = some q → w.heap.size ≤ q ∧ q ≠ sm ∧ q ≠ gg := fun q hq => by
              obtain ⟨h1, _, cur, h9⟩ := HQ4.out.at hq
              refine ⟨h1, fun e => HM4.out.ne h9 e.symm, fun e => ?_⟩
              rw [e, BG4.out] at h9; cases h9
            have HM5 := Lib.hid (HM4.out.kept hg5 fun e => (hne5 sm e.symm).2.1 rfl)
            have BG5 := Lib.hid ((hg5.block gg (Array.getElem?_eq_some_iff.1 BG4.out).1 fun e => (hne5 gg e.symm).2.2 rfl).trans BG4.out)
            have HB5 : Hid (Below w.heap.size w w5) := Lib.hid (HB4.out.grown hg5 hwl fun q hq => (hne5 q hq).1)
            rw [Hdrop.out] at hQ5
            have HQ5 := Lib.hid hQ5
            clear hQ5 hg5 hat5 hne5 HM4 BG4 HB4 HQ4
            go_wp2_with fail
            go_roundg k2
            case measure => omega
            case rel => exact ⟨j + 1, m2 + 1, sn2 ++ [u], _, by omega, by go_num, by rw [List.length_append, hm2]; rfl, Hget', HU', HQ5, HM5, HS', BG5, HB5⟩
    · have hnil : (uid :: sn).drop k = [] := List.drop_eq_nil_of_le (by rw [List.length_cons, hm]; omega)
      have hQ' := HQ.out
      rw [hnil] at hQ'
      obtain ⟨a6, c6, rfl, -, -⟩ := hQ'.len
      have Hall : Hid (∀ s, s ∈ sn ↔ Rf.Comes (cds l) uid s) := Lib.hid (HU.out.all (by rw [hm]; omega))
      have HKy := Lib.hid (keys_any sm wr)
      obtain ⟨w3, hw3⟩ : ∃ w3, w3 = wr.alloc (.cells #[.map (some sm)] 37) := ⟨_, rfl⟩
      obtain ⟨gk9, hgk9⟩ : ∃ q, q = wr.heap.size := ⟨_, rfl⟩
      have hk3 : w3.heap[gk9]? = some (.cells #[.map (some sm)] 37 (0, 0)) := by rw [hw3, hgk9]; exact heap_alloc_new wr _
      have hb3 : Below wr.heap.size wr w3 := by rw [hw3]; exact (Below.refl _ wr).alloc (Nat.le_refl _) _
      have HSo := Lib.hid (sortedKeys_any gk9 w3 (HM.out.belowW hb3) (by omega) hk3)
      have HB3 := Lib.hid (HB.out.trans (hb3.mono HB.out.size))
      have hs3 := HB3.out.size
      clear hnil hQ' HQ HU hk3 hb3
      go_wp2_with fail
      refine HKy.out.mono ?_
      rintro e w9 ⟨rfl, hw9⟩
      rw [← hw3] at hw9
      subst hw9
      rw [← hgk9]
      clear HKy hw3 hgk9
      go_wp2_with fail
      refine HSo.out.mono ?_
      rintro e w9 ⟨v9, ss, rfl, h1, h2, h3, h4⟩
      have Hfin : Hid (OwnAt RString 1 w9 w.heap.size 9 v9 ss ∧ ss.Nodup ∧ (∀ s, s ∈ ss ↔ Rf.Comes (cds l) uid s) ∧ Below w.heap.size w w9) := Lib.hid ⟨h1.mono hs3, h2, fun s => by rw [h3, HS.out s, ← Hall.out]; simp, HB3.out.trans (h4.mono hs3)⟩
      clear HSo h1 h2 h3 h4
      go_wp2_with fail
      go_ret
      exact ⟨v9, ss, rfl, Hfin.out⟩
end Go.Proofs.Ytgoapmjcfdbjpaa
namespace Go.Proofs.Ytgoapmjcfdbjpaa
open Go.RowKit Go.MapKept Go.ChangeMaps
def sortS (l : List ByteArray) : List ByteArray := (sortedL (l.map (·.data.toList))).map mkB
def csOf (l : List ByteArray) : List ByteArray := (Lib.compact ((sortS l).map (·.data.toList))).map mkB
theorem mkB_inj {a b : List UInt8} (h : mkB a = mkB b) : a = b := by
  have := congrArg (fun z : ByteArray => z.data.toList) h
  simpa [mkB] using this
theorem mkB_self (s : ByteArray) : mkB s.data.toList = s := by unfold mkB; simp
theorem nodup_mkB {l : List (List UInt8)} (h : l.Nodup) : (l.map mkB).Nodup := by
  rw [List.nodup_iff_pairwise_ne, List.pairwise_map]
  exact (List.nodup_iff_pairwise_ne.1 h).imp fun hne e => hne (mkB_inj e)
theorem sortS_data (l : List ByteArray) : (sortS l).map (·.data.toList) = sortedL (l.map (·.data.toList)) := by
  unfold sortS
  rw [List.map_map]
  have : ((fun x : ByteArray => x.data.toList) ∘ mkB) = id := funext fun x => by simp [mkB]
  rw [this, List.map_id]
theorem csOf_mem (l : List ByteArray) (s : ByteArray) : s ∈ csOf l ↔ s ∈ l := by
  unfold csOf
  rw [List.mem_map]
  have hc := (compact_rising _ (by rw [sortS_data]; exact sorted_pair _ : ((sortS l).map (·.data.toList)).Pairwise fun x y => leL x y = true)).2
  constructor
  · rintro ⟨x, hx, rfl⟩
    rw [hc, sortS_data, sorted_mem] at hx
    obtain ⟨y, hy, rfl⟩ := List.mem_map.1 hx
    rw [mkB_self]; exact hy
  · intro h
    exact ⟨s.data.toList, (hc _).2 (by rw [sortS_data, sorted_mem]; exact List.mem_map_of_mem h), mkB_self s⟩
theorem csOf_nodup (l : List ByteArray) : (csOf l).Nodup := by
  refine nodup_mkB ?_
  have hc := (compact_rising _ (by rw [sortS_data]; exact sorted_pair _ : ((sortS l).map (·.data.toList)).Pairwise fun x y => leL x y = true)).1
  rw [List.nodup_iff_pairwise_ne]
  refine hc.imp fun {a b} h e => ?_
  subst e
  have h2 := bl_asymm h
  rw [h] at h2
  cases h2
theorem sortS_len (l : List ByteArray) : (sortS l).length = l.length := by unfold sortS; rw [List.length_map, sorted_len, List.length_map]
theorem csOf_len (l : List ByteArray) : (csOf l).length ≤ l.length := Rf.nodup_len (csOf_nodup l) fun s hs => (csOf_mem l s).1 hs
theorem get_notin {l : List ByteArray} (hn : l.Nodup) {j : Nat} {s : ByteArray} (hs : l[j]? = some s) : s ∉ l.take j := by
  intro h
  have h1 : l = l.take j ++ (s :: l.drop (j + 1)) := by rw [← Rf.drop_succ hs, List.take_append_drop]
  rw [h1] at hn
  exact (List.nodup_append.1 hn).2.2 s h s (List.mem_cons_self ..) rfl
def WaitF (F : KB → Option Value) (W : ByteArray → Nat) : Prop := ∀ s : ByteArray, (F s.data.toList).getD (.int .i64 0) = .int .i64 (W s : Int)
theorem waitF_zero : WaitF (fun _ => none) fun _ => 0 := fun _ => rfl
theorem WaitF.put {F : KB → Option Value} {W : ByteArray → Nat} (h : WaitF F W) (s : ByteArray) (n : Nat) : WaitF (updF F s.data.toList (.int .i64 (n : Int))) (Rf.upd W s n) := fun z => by
  unfold updF
  by_cases e : z = s
  · subst e; rw [if_pos rfl, Rf.upd_same]; rfl
  · rw [if_neg (fun e' => e (kb_eq e')), Rf.upd_other _ _ e]; exact h z
def Owing (l : List GCard) (cs : List ByteArray) (j c : Nat) : Prop := Rf.Cnt (fun o => o ∈ cs.take j ∧ o ∈ Rf.uids (cds l)) c
theorem Owing.no {l : List GCard} {cs : List ByteArray} {j c : Nat} (h : Owing l cs j c) {o : ByteArray} (ho : cs[j]? = some o) (hin : o ∉ Rf.uids (cds l)) : Owing l cs (j + 1) c := by
  refine Rf.Cnt.congr h fun z => ?_
  rw [Rf.take_succ ho]
  constructor
  · rintro ⟨a, b⟩; exact ⟨List.mem_append_left _ a, b⟩
  · rintro ⟨a, b⟩
    rcases List.mem_append.1 a with a | a
    · exact ⟨a, b⟩
    · simp only [List.mem_singleton] at a; subst a; exact (hin b).elim
theorem Owing.le {l : List GCard} {cs : List ByteArray} {j c : Nat} (h : Owing l cs j c) : c ≤ cs.length := Rf.Cnt.le h fun _ ho => List.mem_of_mem_take ho.1
theorem Owing.all {l : List GCard} {x : GCard} {j c : Nat} (h : Owing l (csOf x.owners) j c) (hj : (csOf x.owners).length ≤ j) : Rf.Cnt (fun o => o ∈ (cdOf x).own ∧ o ∈ Rf.uids (cds l)) c := by
  refine Rf.Cnt.congr h fun z => ?_
  rw [List.take_of_length_le hj, csOf_mem]
  exact Iff.rfl
theorem grown_row {wd w1 w2 : World} {m : Nat} {row : Option Nat} (h : wd.grownBy w1 (some m)) (hg : w1.grownBy w2 row) (hr : ∀ q, row = some q → wd.heap.size ≤ q) : wd.grownBy w2 (some m) :=
  ⟨hg.os.trans h.os, hg.tape.trans h.tape, hg.output.trans h.output, Nat.le_trans h.size hg.size, fun k hk hne => (hg.block k (Nat.lt_of_lt_of_le hk h.size) fun e => by have := hr k e.symm; omega).trans (h.block k hk hne)⟩
theorem grown_below {wd w1 w2 : World} {m : Nat} (h : wd.grownBy w1 (some m)) (hb : Below w1.heap.size w1 w2) : wd.grownBy w2 (some m) := grown_row h (below_grown hb none) fun q e => by cases e
theorem grown_self (w : World) (row : Option Nat) : w.grownBy w row := ⟨rfl, rfl, rfl, Nat.le_refl _, fun _ _ _ => rfl⟩
theorem GraphAt.but {w w' : World} {lo tb ob n m : Nat} {T f : KB → Option Value} {l : List GCard} (h : GraphAt w lo tb ob n T f l) (hg : w.grownBy w' (some m)) (hm : ∃ es clock, w.heap[m]? = some (.map es clock)) (h1 : tb ≠ m) (h2 : ob ≠ m) : GraphAt w' lo tb ob n T f l := by
  refine ⟨h.there.block (hg.block tb h.there.lt fun e => h1 (by injection e)), h.seen, h.owns.kept (hg.block ob h.owns.map.lt fun e => h2 (by injection e)) fun k v q hk hq => hg.block q (h.owns.lt hk hq).2.1 fun e => ?_, h.ne, h.tlo⟩
  obtain ⟨s, rfl⟩ := kb_form k
  obtain ⟨_, _, cur, h9⟩ := (h.owns.row s v hk).at hq
  obtain ⟨es, clock, h8⟩ := hm
  injection e with e
  rw [e, h8] at h9; cases h9
theorem QAt.but {w w' : World} {B m : Nat} {e : TypeId} {v : Value} {l : List ByteArray} (h : QAt Value.string e w B v l) (hg : w.grownBy w' (some m)) (hm : ∃ es clock, w.heap[m]? = some (.map es clock)) : QAt Value.string e w' B v l :=
  h.keep fun q hq => hg.block q (h.at hq).2.1 fun e => by
    obtain ⟨_, _, cur, h9⟩ := h.at hq
    obtain ⟨es, clock, h8⟩ := hm
    injection e with e
    rw [e, h8] at h9; cases h9
theorem own_but {w w' : World} {B m : Nat} {v : Value} {l : List ByteArray} (h : OwnAt RString 1 w B 9 v l) (hg : w.grownBy w' (some m)) (hm : ∃ es clock, w.heap[m]? = some (.map es clock)) : OwnAt RString 1 w' B 9 v l :=
  own_keepB h fun q hq => hg.block q (h.at hq).2.1 fun e => by
    obtain ⟨_, _, cur, h9⟩ := h.at hq
    obtain ⟨es, clock, h8⟩ := hm
    injection e with e
    rw [e, h8] at h9; cases h9
theorem box_but {w w' : World} {m b : Nat} {cs : Array Value} {t : TypeId} {fr : Nat × Nat} (h : w.heap[b]? = some (.cells cs t fr)) (hg : w.grownBy w' (some m)) (hne : b ≠ m) : w'.heap[b]? = some (.cells cs t fr) :=
  (hg.block b (Array.getElem?_eq_some_iff.1 h).1 fun e => hne (by injection e)).trans h
theorem strAt_but {w w' : World} {m : Nat} {v : Value} {l : List ByteArray} (h : StrAt w v l) (hg : w.grownBy w' (some m)) (hm : ∃ es clock, w.heap[m]? = some (.map es clock)) : StrAt w' v l :=
  h.keep fun p u hp => (World.cell?_of_block (hg.block p.block (World.block_lt_of_cell? w _ hp) fun e => by
    obtain ⟨es, clock, h8⟩ := hm
    injection e with e
    unfold World.cell? at hp
    rw [e, h8] at hp
    simp at hp)).trans hp
end Go.Proofs.Ytgoapmjcfdbjpaa
namespace Go.Proofs.Ytgoapmjcfdbjpaa
open Go.RowKit Go.MapKept Go.ChangeMaps
def LeftF (F : KB → Option Value) (L : ByteArray → Option Nat) : Prop := ∀ s : ByteArray, F s.data.toList = (L s).map fun n => Value.int .i64 (n : Int)
theorem LeftF.put {F : KB → Option Value} {L : ByteArray → Option Nat} (h : LeftF F L) (s : ByteArray) (n : Nat) : LeftF (updF F s.data.toList (.int .i64 (n : Int))) (Rf.setO L s n) := fun z => by
  unfold updF Rf.setO
  by_cases e : z = s
  · subst e; rw [if_pos rfl, if_pos rfl]; rfl
  · rw [if_neg (fun e' => e (kb_eq e')), if_neg e]; exact h z
theorem LeftF.del {F : KB → Option Value} {L : ByteArray → Option Nat} (h : LeftF F L) (s : ByteArray) : LeftF (delF F s.data.toList) (Rf.delO L s) := fun z => by
  unfold delF Rf.delO
  by_cases e : z = s
  · subst e; rw [if_pos rfl, if_pos rfl]; rfl
  · rw [if_neg (fun e' => e (kb_eq e')), if_neg e]; exact h z
theorem LeftF.some {F : KB → Option Value} {L : ByteArray → Option Nat} (h : LeftF F L) {s : ByteArray} {v : Value} (hv : F s.data.toList = some v) : ∃ n, L s = some n ∧ v = .int .i64 (n : Int) := by
  have h1 := h s
  rw [hv] at h1
  cases hL : L s with
  | none => rw [hL] at h1; cases h1
  | some n => rw [hL] at h1; exact ⟨n, rfl, by simpa using h1⟩
def Lst (l : List GCard) (i : Nat) : ByteArray → Option Nat := fun s => if s ∈ (l.take i).map (·.uid) then some (ownsB l s).length else none
theorem lst_zero (l : List GCard) : LeftF (fun _ => none) (Lst l 0) := fun s => by unfold Lst; simp
theorem lst_more {l : List GCard} {i : Nat} {x : GCard} (hx : l[i]? = some x) : Rf.setO (Lst l i) x.uid (ownsB l x.uid).length = Lst l (i + 1) := funext fun s => by
  unfold Rf.setO Lst
  rw [Rf.take_succ hx, List.map_append]
  by_cases e : s = x.uid
  · subst e; rw [if_pos rfl, if_pos (by simp)]
  · rw [if_neg e]
    by_cases h : s ∈ (l.take i).map (·.uid)
    · rw [if_pos h, if_pos (List.mem_append_left _ h)]
    · rw [if_neg h, if_neg]
      intro h'
      rcases List.mem_append.1 h' with h' | h'
      · exact h h'
      · exact e (by simpa using h')
theorem lst_inv {l : List GCard} (hgd : GoodL l) {i : Nat} (hi : l.length ≤ i) : Rf.OInv (cds l) (Lst l i) [] (fun _ _ => False) := by
  refine Rf.oinv_zero hgd.nodup fun u => ?_
  unfold Lst
  rw [List.take_of_length_le hi, cds_uids]
  by_cases h : u ∈ l.map (·.uid)
  · rw [if_pos h, if_pos h]; rfl
  · rw [if_neg h, if_neg h]
def ownC (l : List GCard) (s : ByteArray) : List ByteArray := ((l.find? fun x => decide (x.uid = s)).map fun x => csOf x.owners).getD []
theorem find_no {l : List GCard} {s : ByteArray} (h : s ∉ l.map (·.uid)) : l.find? (fun x => decide (x.uid = s)) = none := by
  rw [List.find?_eq_none]
  intro x hx h'
  exact h (List.mem_map.2 ⟨x, hx, of_decide_eq_true h'⟩)
theorem ownC_more {l : List GCard} (hn : (l.map (·.uid)).Nodup) {i : Nat} {x : GCard} (hx : l[i]? = some x) (s : ByteArray) : (if s = x.uid then csOf x.owners else ownC (l.take i) s) = ownC (l.take (i + 1)) s := by
  unfold ownC
  rw [Rf.take_succ hx, List.find?_append]
  by_cases e : s = x.uid
  · subst e
    have hno : x.uid ∉ (l.take i).map (·.uid) := fun h => by
      obtain ⟨y, hy, he⟩ := List.mem_map.1 h
      exact (Rf.uid_apart (l := cds l) (by rw [cds_uids]; exact hn) (cds_get hx)).1 (cdOf y) (by unfold cds; rw [← List.map_take]; exact List.mem_map_of_mem hy) he
    rw [if_pos rfl, find_no hno]
    simp
  · rw [if_neg e]
    have : [x].find? (fun y => decide (y.uid = s)) = none := find_no (by simpa using e)
    rw [this, Option.or_none]
theorem ownC_mem {l : List GCard} {s : ByteArray} (hs : s ∈ l.map (·.uid)) : ∃ x ∈ l, x.uid = s ∧ ownC l s = csOf x.owners := by
  unfold ownC
  cases hf : l.find? (fun x => decide (x.uid = s)) with
  | none =>
    obtain ⟨x, hx, he⟩ := List.mem_map.1 hs
    exact absurd (decide_eq_true he) (List.find?_eq_none.1 hf x hx)
  | some x => exact ⟨x, List.mem_of_find?_eq_some hf, of_decide_eq_true (by have := List.find?_some hf; exact this), rfl⟩
theorem ownC_owns {l : List GCard} (hn : (l.map (·.uid)).Nodup) {a : ByteArray} (ha : a ∈ l.map (·.uid)) (o : ByteArray) : o ∈ ownC l a ↔ a ∈ Rf.ownsL (cds l) o := by
  obtain ⟨x, hx, rfl, he⟩ := ownC_mem ha
  rw [he, csOf_mem, Rf.mem_owns]
  constructor
  · intro h
    exact ⟨cdOf x, List.mem_map_of_mem hx, h, rfl⟩
  · rintro ⟨y, hy, ho, hu⟩
    obtain ⟨z, hz, rfl⟩ := List.mem_map.1 hy
    have : cdOf z = cdOf x := Rf.uid_one (l := cds l) (by rw [cds_uids]; exact hn) (List.mem_map_of_mem hz) (List.mem_map_of_mem hx) hu
    rw [this] at ho
    exact ho
theorem ownC_nodup (l : List GCard) (s : ByteArray) : (ownC l s).Nodup := by
  unfold ownC
  cases l.find? (fun x => decide (x.uid = s)) with
  | none => exact List.nodup_nil
  | some x => exact csOf_nodup _
theorem ownC_len {l : List GCard} (h : ∀ x ∈ l, x.owners.length ≤ 4) (s : ByteArray) : (ownC l s).length ≤ 4 := by
  unfold ownC
  cases hf : l.find? (fun x => decide (x.uid = s)) with
  | none => simp
  | some x => exact Nat.le_trans (csOf_len _) (h x (List.mem_of_find?_eq_some hf))
theorem OwnsF.set {w w1 w' : World} {lo b n : Nat} {f : KB → Option Value} {g : ByteArray → List ByteArray} {s : ByteArray} {m : List ByteArray} {v' : Value} (h : OwnsF w lo b n f g) (hb : Below w.heap.size w w1) (hv : OwnAt RString 1 w1 lo 9 v' m) (hn : ∀ q, v'.ownBlock = some q → w.heap.size ≤ q)
    (hm : MapS Try.prog 9 w' b (n + 1) (updF f s.data.toList v')) (ht : w1.mapTurned w' b) : OwnsF w' lo b (n + 1) (updF f s.data.toList v') fun z => if z = s then m else g z := by
  have hold : ∀ k v q, f k = some v → v.ownBlock = some q → v'.ownBlock ≠ some q := fun k v q hk hq hq' => by
    have := hn q hq'
    have := (h.lt hk hq).2.1
    omega
  refine ⟨hm, fun z v hz => ?_, fun z hz => ?_, fun k k' v v2 q hne hk hk' hq => ?_, h.lo⟩
  · unfold updF at hz
    by_cases e : z = s
    · subst e
      rw [if_pos rfl] at hz ⊢
      cases hz
      exact own_turned hv ht
    · rw [if_neg (fun e' => e (kb_eq e'))] at hz
      rw [if_neg e]
      exact own_turned (own_keepB (h.row z v hz) fun q hq => hb.block q (h.lt hz hq).2.1) ht
  · unfold updF at hz
    by_cases e : z = s
    · subst e; rw [if_pos rfl] at hz; cases hz
    · rw [if_neg (fun e' => e (kb_eq e'))] at hz
      rw [if_neg e]
      exact h.no z hz
  · unfold updF at hk hk'
    by_cases e : k = s.data.toList
    · rw [if_pos e] at hk
      cases hk
      rw [if_neg (fun e2 => hne (e.trans e2.symm))] at hk'
      exact fun hq' => hold k' v2 q hk' hq' hq
    · rw [if_neg e] at hk
      by_cases e' : k' = s.data.toList
      · rw [if_pos e'] at hk'
        cases hk'
        exact hold k v q hk hq
      · rw [if_neg e'] at hk'
        exact h.apart k k' v v2 q hne hk hk' hq
theorem OwnsF.but {w w' : World} {lo b n m : Nat} {f : KB → Option Value} {g : ByteArray → List ByteArray} (h : OwnsF w lo b n f g) (hg : w.grownBy w' (some m)) (hm : ∃ es clock, w.heap[m]? = some (.map es clock)) (h2 : b ≠ m) : OwnsF w' lo b n f g :=
  h.kept (hg.block b h.map.lt fun e => h2 (by injection e)) fun k v q hk hq => hg.block q (h.lt hk hq).2.1 fun e => by
    obtain ⟨s, rfl⟩ := kb_form k
    obtain ⟨_, _, cur, h9⟩ := (h.row s v hk).at hq
    obtain ⟨es, clock, h8⟩ := hm
    injection e with e
    rw [e, h8] at h9; cases h9
def EOut (out : List ByteArray) (a : ByteArray) (cs : List ByteArray) (j : Nat) : ByteArray → ByteArray → Prop := fun u v => v ∈ out ∨ (v = a ∧ u ∈ cs.take j)
theorem eout_zero {l : List GCard} {L : ByteArray → Option Nat} {out : List ByteArray} {a : ByteArray} (h : Rf.OInv (cds l) L out (fun _ v => v ∈ out)) (ha : L a = some 0) (cs : List ByteArray) : Rf.OInv (cds l) (Rf.delO L a) (out ++ [a]) (EOut out a cs 0) :=
  (h.take ha).congr (fun u v _ _ => by unfold EOut; simp) fun u v hv => by
    rcases hv with hv | ⟨_, hv⟩
    · exact List.mem_append_left _ hv
    · simp at hv
theorem eout_no {l : List GCard} {L : ByteArray → Option Nat} {out cs : List ByteArray} {a o : ByteArray} {j : Nat} (h : Rf.OInv (cds l) L (out ++ [a]) (EOut out a cs j)) (ho : cs[j]? = some o) (hL : L o = none) : Rf.OInv (cds l) L (out ++ [a]) (EOut out a cs (j + 1)) := by
  refine h.congr (fun u v hu _ => ?_) fun u v hv => ?_
  · unfold EOut
    rw [Rf.take_succ ho]
    constructor
    · rintro (b | ⟨b, c⟩)
      · exact .inl b
      · exact .inr ⟨b, List.mem_append_left _ c⟩
    · rintro (b | ⟨b, c⟩)
      · exact .inl b
      · rcases List.mem_append.1 c with c | c
        · exact .inr ⟨b, c⟩
        · simp only [List.mem_singleton] at c
          subst c
          rw [hL] at hu; cases hu
  · rcases hv with hv | ⟨rfl, _⟩
    · exact List.mem_append_left _ hv
    · simp
theorem eout_yes {l : List GCard} (hgd : GoodL l) {L : ByteArray → Option Nat} {out : List ByteArray} {a o : ByteArray} {j n : Nat} (h : Rf.OInv (cds l) L (out ++ [a]) (EOut out a (ownC l a) j)) (ho : (ownC l a)[j]? = some o) (hL : L o = some n) :
    1 ≤ n ∧ Rf.OInv (cds l) (Rf.setO L o (n - 1)) (out ++ [a]) (EOut out a (ownC l a) (j + 1)) := by
  have ha : a ∈ l.map (·.uid) := by rw [← cds_uids]; exact h.sub a (by simp)
  have hao : a ∈ Rf.ownsL (cds l) o := (ownC_owns hgd.uids ha o).1 (List.mem_of_getElem? ho)
  have hno : a ∉ out := fun h' => (List.nodup_append.1 h.nodup).2.2 a h' a (by simp) rfl
  obtain ⟨h1, h2⟩ := h.tell hL (by simp) hao (by
    unfold EOut
    rintro (h' | ⟨_, h'⟩)
    · exact hno h'
    · exact get_notin (ownC_nodup l a) ho h')
  refine ⟨h1, h2.congr (fun u v _ _ => ?_) fun u v hv => ?_⟩
  · unfold EOut
    rw [Rf.take_succ ho]
    constructor
    · rintro ((b | ⟨b, c⟩) | ⟨b, c⟩)
      · exact .inl b
      · exact .inr ⟨b, List.mem_append_left _ c⟩
      · exact .inr ⟨c, by rw [b]; simp⟩
    · rintro (b | ⟨b, c⟩)
      · exact .inl (.inl b)
      · rcases List.mem_append.1 c with c | c
        · exact .inl (.inr ⟨b, c⟩)
        · exact .inr ⟨by simpa using c, b⟩
  · rcases hv with hv | ⟨rfl, _⟩
    · exact List.mem_append_left _ hv
    · simp
theorem eout_end {l : List GCard} (hgd : GoodL l) {L : ByteArray → Option Nat} {out : List ByteArray} {a : ByteArray} {j : Nat} (h : Rf.OInv (cds l) L (out ++ [a]) (EOut out a (ownC l a) j)) (hj : (ownC l a).length ≤ j) : Rf.OInv (cds l) L (out ++ [a]) (fun _ v => v ∈ out ++ [a]) := by
  have ha : a ∈ l.map (·.uid) := by rw [← cds_uids]; exact h.sub a (by simp)
  refine h.congr (fun u v _ hv => ?_) fun u v hv => hv
  unfold EOut
  rw [List.take_of_length_le hj, List.mem_append, List.mem_singleton]
  constructor
  · rintro (b | ⟨b, _⟩)
    · exact .inl b
    · exact .inr b
  · rintro (b | b)
    · exact .inl b
    · subst b
      exact .inr ⟨rfl, (ownC_owns hgd.uids ha u).2 hv⟩
def LeastAt (L : ByteArray → Option Nat) (left : KB → Bool) (lst : ByteArray) (isb : Bool) : Prop := (isb = true → L lst = some 0) ∧ (isb = false → ∀ s : ByteArray, left s.data.toList = false → L s ≠ some 0)
theorem LeastAt.start {F : KB → Option Value} {L : ByteArray → Option Nat} (h : LeftF F L) (z : ByteArray) : LeastAt L (fun k => (F k).isSome) z false := ⟨fun h => (by cases h), fun _ s hs hL => by
  have h9 : (F s.data.toList).isSome = false := hs
  rw [h s, hL] at h9
  cases h9⟩
theorem LeastAt.found {L : ByteArray → Option Nat} {left : KB → Bool} {s : ByteArray} (h : L s = some 0) : LeastAt L left s true := ⟨fun _ => h, fun h => by cases h⟩
theorem LeastAt.keep {L : ByteArray → Option Nat} {left left' : KB → Bool} {s : ByteArray} (h : LeastAt L left s true) : LeastAt L left' s true := ⟨h.1, fun h => by cases h⟩
theorem LeastAt.pass {L : ByteArray → Option Nat} {left : KB → Bool} {z s : ByteArray} {b : Bool} {n : Nat} (h : LeastAt L left z b) (hn : L s = some n) (hz : n ≠ 0) : LeastAt L (fun k => left k && !decide (k = s.data.toList)) z b := ⟨h.1, fun hb s' hs' hL => by
  have hs9 : (left s'.data.toList && !decide (s'.data.toList = s.data.toList)) = false := hs'
  by_cases e : s' = s
  · subst e; rw [hn] at hL; injection hL with hL; exact hz hL
  · rw [decide_eq_false (fun e' => e (kb_eq e'))] at hs9
    exact h.2 hb s' (by simpa using hs9) hL⟩
theorem oinv_more {l : List GCard} {L : ByteArray → Option Nat} {out : List ByteArray} {E : ByteArray → ByteArray → Prop} (h : Rf.OInv (cds l) L out E) {s : ByteArray} (hs : (L s).isSome = true) : out.length < l.length := by
  obtain ⟨h1, h2⟩ := (h.left s).1 hs
  have := Rf.nodup_len (l := out ++ [s]) (ks := Rf.uids (cds l)) (List.nodup_append.2 ⟨h.nodup, by simp, fun a ha b hb e => by simp only [List.mem_singleton] at hb; subst hb; subst e; exact h2 ha⟩) fun u hu => by
    rcases List.mem_append.1 hu with hu | hu
    · exact h.sub u hu
    · simp only [List.mem_singleton] at hu; subst hu; exact h1
  rw [List.length_append, cds_uids, List.length_map] at this
  simp at this
  omega
theorem oinv_le {l : List GCard} {L : ByteArray → Option Nat} {out : List ByteArray} {E : ByteArray → ByteArray → Prop} (h : Rf.OInv (cds l) L out E) {s : ByteArray} {n : Nat} (hs : L s = some n) : n ≤ l.length := by
  have := (h.cnt s n hs).le (m := Rf.ownsL (cds l) s) fun v hv => hv.1
  have h2 := ownsB_len l s
  exact Nat.le_trans this h2
end Go.Proofs.Ytgoapmjcfdbjpaa
namespace Go.Proofs.Ytgoapmjcfdbjpaa
open Go.RowKit Go.MapKept Go.ChangeMaps
set_option maxRecDepth 100000 in
set_option maxHeartbeats 12800000 in
theorem refsOrder_any (v : Value) (l : List GCard) (w : World) (h : RowAt CardR 2 w v l) (hok : OkCards l) :
    Calls Try.prog 15 #[v] w fun e w' => ∃ (v' : Value) (row : List ByteArray) (E : Int), e = .returned (.tuple #[v', .int .i64 E]) ∧ OwnAt RString 1 w' w.heap.size 9 v' row ∧ (refsE l ≠ 0 → row = []) ∧ (refsE l = 0 → (E = 1 ∧ row = []) ∨ (E = 0 ∧ Rf.IsRow (cds l) row)) ∧ Below w.heap.size w w' := by
  obtain ⟨a1, c1, rfl, -, -⟩ := h.len
  have HRow := Lib.hid h
  have Hok := Lib.hid hok
  have HCk := Lib.hid (refsCheck_any _ l w h hok)
  obtain ⟨c, Hc⟩ : ∃ c, Hid (refsE l = c) := ⟨_, Lib.hid rfl⟩
  rw [Hc.out] at HCk ⊢
  obtain ⟨nl, hnl⟩ : ∃ n, l.length = n := ⟨_, rfl⟩
  rw [hnl] at HCk HRow ⊢
  have Hnl := Lib.hid hnl
  clear h hok hnl
  go_enter Try.func15, Try.ntmps15
  go_wp2_with fail
  refine HCk.out.mono ?_
  rintro e wa ⟨rfl, hba⟩
  have HBa := Lib.hid hba
  clear HCk hba
  by_cases hc0 : c = 0
  · subst hc0
    have hgd : GoodL l := refsE_zero.1 Hc.out
    have Hgd := Lib.hid hgd
    have HOf := Lib.hid (refsOf_any (.slice a1 nl c1) l wa (HRow.out.below stays_card HBa.out) Hok.out hgd)
    have hl := hgd.len
    have Hs := Lib.hid Hok.out.2
    have Huz : Hid (∀ s ∈ Rf.uids (cds l), s.size ≤ 1048576) := Lib.hid fun s hs => by
      rw [cds_uids] at hs
      obtain ⟨x, hx, rfl⟩ := List.mem_map.1 hs
      exact (Hok.out.2 x hx).1
    rw [Hnl.out] at hl
    have hmm := @run_makeMap Try.prog
    clear hgd
    go_wp2_with fail
    refine HOf.out.mono ?_
    rintro e wb ⟨tb, ob, n, T, f, rfl, hG, hn3, hbb⟩
    have HG0 := Lib.hid hG
    have HBb := Lib.hid (HBa.out.trans (hbb.mono HBa.out.size))
    clear HOf hG hbb HBa
    obtain ⟨gg, hgg⟩ : ∃ b, b = wb.heap.size := ⟨_, rfl⟩
    obtain ⟨lm, hlm⟩ : ∃ b, b = wb.heap.size + 1 := ⟨_, rfl⟩
    obtain ⟨wc, hwc⟩ : ∃ x, x = wb.alloc (.cells #[.map (some tb), .map (some ob)] 56) := ⟨_, rfl⟩
    obtain ⟨wd, hwd⟩ : ∃ x, x = wc.alloc (.map #[] 0) := ⟨_, rfl⟩
    have sc0 : wc.heap.size = wb.heap.size + 1 := by rw [hwc, World.size_alloc]
    have bc : Below wb.heap.size wb wc := by rw [hwc]; exact (Below.refl _ wb).alloc (Nat.le_refl _) _
    have bd : Below wc.heap.size wc wd := by rw [hwd]; exact (Below.refl _ wc).alloc (Nat.le_refl _) _
    have bbd : Below wb.heap.size wb wd := bc.trans (bd.mono (by omega))
    have hGc : wc.heap[gg]? = some (.cells #[.map (some tb), .map (some ob)] 56 (0, 0)) := by rw [hwc, hgg]; exact heap_alloc_new wb _
    have hMd : MapS Try.prog 9 wd lm 0 fun _ => none := by rw [hwd, hlm, ← sc0]; exact mapS_made _ _ _
    have sz0 := HBb.out.size
    have HG := Lib.hid (HG0.out.below bbd)
    have BG0 := Lib.hid (below_block bd hGc)
    have HM0 := Lib.hid hMd
    have HBwd := Lib.hid (HBb.out.trans (bbd.mono HBb.out.size))
    have hle : w.heap.size ≤ gg ∧ w.heap.size ≤ lm ∧ gg ≠ lm ∧ tb ≠ lm ∧ ob ≠ lm ∧ tb ≠ gg ∧ ob ≠ gg := by
      have h1 := HG0.out.there.lt
      have h2 := HG0.out.owns.map.lt
      omega
    have Hle := Lib.hid hle
    have HL0 : Hid (LeftF (fun _ => none) (Lst l 0)) := Lib.hid (lst_zero l)
    have Hmm : Hid (∃ es clock, wd.heap[lm]? = some (.map es clock)) := Lib.hid HM0.out.isMap
    have HK0 : Hid (wd.grownBy wd (some lm)) := Lib.hid (grown_self wd _)
    go_upto_region 6 with fail
    rw [← hwc]
    try rw [← hlm]
    try rw [← hgg]
    rw [← hwd]
    clear hwc hwd bc bd bbd hGc hMd hgg hlm sc0 HG0 HBb hle
    have hmm2 := Lib.hid hmm
    clear hmm
    go_wp2_with fail
    go_loopg [31] nl (fun k u31 wr => ∃ (i : Nat) (F : KB → Option Value), i + k = nl ∧ u31 = .int .i64 (i : Int) ∧ Hid (MapS Try.prog 9 wr lm i F) ∧ Hid (LeftF F (Lst l i)) ∧ Hid (wd.grownBy wr (some lm)))
    case atStart => exact ⟨0, _, by omega, rfl, HM0, HL0, HK0⟩
    case round =>
      clear HM0 HL0 HK0
      obtain ⟨i, F, hik, rfl, HM, HL, HK⟩ := hrel
      have HB : Hid (Below w.heap.size w wr) := Lib.hid (HBwd.out.grown HK.out HBwd.out.size fun q hq => by cases hq; exact Hle.out.2.1)
      have BG := Lib.hid (box_but BG0.out HK.out Hle.out.2.2.1)
      cases gk with
      | zero =>
        obtain rfl : nl = i := by omega
        have hmm := hmm2.out
        clear BG HB
        obtain ⟨om, hom⟩ : ∃ b, b = wr.heap.size := ⟨_, rfl⟩
        obtain ⟨we, hwe⟩ : ∃ z, z = wr.alloc (.map #[] 0) := ⟨_, rfl⟩
        have hbe : Below wr.heap.size wr we := by rw [hwe]; exact (Below.refl _ wr).alloc (Nat.le_refl _) _
        have HKe := Lib.hid (grown_below HK.out hbe)
        have HMe := Lib.hid (HM.out.belowW hbe)
        have hlmo : lm ≠ om := by have := HM.out.lt; omega
        have hwdr := HK.out.size
        have HO0 : Hid (OwnsF we om om 0 (fun _ => none) (ownC (l.take 0))) := Lib.hid (by
          have h9 := owns_made wr om (by omega)
          rw [← hwe, ← hom] at h9
          exact h9.congr fun s => by simp [ownC])
        have Hom : Hid (∃ es clock, we.heap[om]? = some (.map es clock)) := Lib.hid HO0.out.map.isMap
        have HK20 : Hid (we.grownBy we (some om)) := Lib.hid (grown_self we _)
        have HBe : Hid (Below w.heap.size w we) := Lib.hid (HBwd.out.grown HKe.out HBwd.out.size fun q hq => by cases hq; exact Hle.out.2.1)
        have hwom : w.heap.size ≤ om := by have := HBwd.out.size; omega
        go_upto_region 12 with fail
        rw [← hwe]
        try rw [← hom]
        clear hmm hwe hbe HM HK hwdr hom
        go_wp2_with fail
        go_loopg [48] nl (fun k u48 wr2 => ∃ (i : Nat) (f2 : KB → Option Value), i + k = nl ∧ u48 = .int .i64 (i : Int) ∧ Hid (OwnsF wr2 om om i f2 (ownC (l.take i))) ∧ Hid (we.grownBy wr2 (some om)))
        case atStart => exact ⟨0, _, by omega, rfl, HO0, HK20⟩
        case round =>
          clear HO0 HK20
          obtain ⟨i, f2, hik, rfl, HO, HK⟩ := hrel
          have HB : Hid (Below w.heap.size w wr) := Lib.hid (HBe.out.grown HK.out HBe.out.size fun q hq => by cases hq; exact hwom)
          cases gk with
          | zero =>
            obtain rfl : nl = i := by omega
            have hnl9 : l.take nl = l := List.take_of_length_le (by rw [Hnl.out]; exact Nat.le_refl _)
            rw [hnl9] at HO
            obtain ⟨wf, hwf⟩ : ∃ z, z = wr := ⟨_, rfl⟩
            have HMf : Hid (MapS Try.prog 9 wr lm nl F) := Lib.hid (HMe.out.kept HK.out fun e => hlmo (by injection e))
            have Hmf : Hid (∃ es clock, wr.heap[lm]? = some (.map es clock)) := Lib.hid HMf.out.isMap
            have HIf : Hid (Rf.OInv (cds l) (Lst l nl) ([] : List ByteArray) (fun _ v => v ∈ ([] : List ByteArray))) := Lib.hid ((lst_inv Hgd.out (i := nl) (by rw [Hnl.out]; exact Nat.le_refl _)).congr (fun u v _ _ => by simp) fun u v h => by cases h)
            have HRo : Hid (OwnAt RString 1 wr wr.heap.size 9 (.slice none 0 0) []) := Lib.hid (OwnAt.nil _)
            have HKf : Hid (wr.grownBy wr (some lm)) := Lib.hid (grown_self wr _)
            have HLf := HL
            have HOf := HO
            have HBf := HB
            rw [← hwf] at HMf Hmf HRo HKf HOf HBf ⊢
            have hlmf : w.heap.size ≤ lm := Hle.out.2.1
            clear HO HB HK HL HMe hwf
            go_wp2_with fail
            go_loopg [12] nl (fun kk u12 wr3 => ∃ (out : List ByteArray) (m : Nat) (F : KB → Option Value) (L : ByteArray → Option Nat), out.length + kk = nl ∧ Hid (Rf.OInv (cds l) L out (fun _ v => v ∈ out)) ∧ Hid (OwnAt RString 1 wr3 wf.heap.size 9 u12 out) ∧ Hid (MapS Try.prog 9 wr3 lm m F) ∧ Hid (LeftF F L) ∧ m ≤ 100 + 4 * out.length ∧ Hid (wf.grownBy wr3 (some lm)))
            case atStart => exact ⟨[], nl, F, _, by simp, HIf, HRo, HMf, HLf, by simp; omega, HKf⟩
            case round =>
              clear HIf HRo HMf HLf HKf
              obtain ⟨out, m, F, L, hokk, HI, HO, HM, HL, hm4, HK⟩ := hrel
              have hql := HI.out.len
              rw [cds_len, Hnl.out] at hql
              have hwfr := HK.out.size
              obtain ⟨on, hon⟩ : ∃ z, out.length = z := ⟨_, rfl⟩
              rw [hon] at hokk hql hm4
              have Hon := Lib.hid hon
              obtain ⟨a8, c8, hu8, -, -⟩ := HO.out.row.len
              rw [hon] at hu8
              subst hu8
              clear hon
              have HB : Hid (Below w.heap.size w wr) := Lib.hid (HBf.out.grown HK.out HBf.out.size fun q hq => by cases hq; exact hlmf)
              obtain ⟨ks, hk1, hk2, -, hk4⟩ := MapS.keys HM.out Try.underlying9
              have hlen := fun ty => hk4 37 3 ty Try.underlying37
              cases ks with
              | nil =>
                have hnone : ∀ u, L u = none := fun u => by
                  cases hu : L u with
                  | none => rfl
                  | some n =>
                    have h9 := HL.out u
                    rw [hu] at h9
                    have h8 := (hk2 u.data.toList).2 (by rw [h9]; rfl)
                    cases h8
                have HRw := Lib.hid (HI.out.all hnone)
                have hwl := HBf.out.size
                clear hk1 hk2 hk4 hnone HI
                go_wp2_with fail
                go_ret2
                exact ⟨_, out, 0, rfl, HO.out.mono hwl, .inr ⟨rfl, HRw.out⟩, HB.out⟩
              | cons k0 kr =>
                have hmore : on < nl := by
                  have h9 := (hk2 k0).1 (List.mem_cons_self ..)
                  obtain ⟨s0, rfl⟩ := kb_form k0
                  rw [HL.out s0] at h9
                  have h8 := oinv_more HI.out (s := s0) (by cases hL : L s0 with | none => rw [hL] at h9; cases h9 | some n => rfl)
                  rw [Hon.out, Hnl.out] at h8
                  exact h8
                obtain ⟨kg, rfl⟩ : ∃ kg, gk = kg + 1 := ⟨gk - 1, by omega⟩
                obtain ⟨kn, hkn⟩ : ∃ z, (k0 :: kr).length = z := ⟨_, rfl⟩
                rw [hkn] at hlen
                have hkp : (0 : Int) < (kn : Int) := by rw [← hkn]; simp
                clear hk1 hk2 hk4 hkn
                go_upto_region 19 with fail
                clear hlen
                have hdec : decide (0 < kn) = true := decide_eq_true (by omega)
                have hdec2 : decide ((0 : Int) < (kn : Int)) = true := decide_eq_true hkp
                try rw [hdec2]
                try rw [hdec]
                clear hdec hdec2
                go_wp2_with (at_range; refine wpList_range_mapS _ (by rfl) _ 37 (by rfl) 9 3 Try.underlying9 Try.underlying37 lm m F (by rfl) HM.out ?_; intro w2 cnt hrg hgr hsz)
                try go_frame
                obtain ⟨r, hr⟩ : ∃ r, wr.heap.size = r := ⟨_, rfl⟩
                rw [hr] at hrg ⊢
                have hb2 : Below wr.heap.size wr w2 := ⟨hgr.os, hgr.tape, hgr.output, hgr.size, fun k hk => hgr.block k hk (by simp)⟩
                have HR2 := Lib.hid hrg
                have HO2 := Lib.hid (HO.out.below stays_string hb2)
                have HK2 := Lib.hid (grown_below HK.out hb2)
                have hrwf : wf.heap.size ≤ r := by omega
                have HC0 := Lib.hid (LeastAt.start HL.out ⟨#[]⟩)
                have hz0 : (⟨#[]⟩ : ByteArray).size ≤ 1048576 := by decide
                clear hrg hgr hsz hb2 hr HO HK HB
                go_loopg [13, 14] cnt (fun k u13 u14 wr4 => ∃ (left : KB → Bool) (lst : ByteArray) (isb : Bool), u13 = .string lst ∧ u14 = .bool isb ∧ Hid (RangeS Try.prog 9 wr4 lm r m F left k) ∧ Hid (LeastAt L left lst isb) ∧ lst.size ≤ 1048576 ∧ Hid (OwnAt RString 1 wr4 wf.heap.size 9 (.slice a8 on c8) out) ∧ Hid (wf.grownBy wr4 (some lm)))
                case atStart => exact ⟨_, ⟨#[]⟩, false, rfl, rfl, HR2, HC0, hz0, HO2, HK2⟩
                case round =>
                  clear HC0 HR2 HO2 HK2 hz0 HM
                  obtain ⟨left, lst, isb, rfl, rfl, HR, HC, hlst, HO, HK⟩ := hrel
                  have hrlt := HR.out.lt
                  go_wp2_with (at_next; refine wpList_next_rangeS _ (by rfl) _ (by rfl) 9 Try.underlying9 lm r m F left gk (by rfl) HR.out ?_ ?_)
                  · intro hl0
                    have HM := Lib.hid HR.out.map
                    have HB : Hid (Below w.heap.size w wr) := Lib.hid (HBf.out.grown HK.out HBf.out.size fun q hq => by cases hq; exact hlmf)
                    cases isb with
                    | false =>
                      clear hl0 hrlt HR HC HO
                      go_wp2_with fail
                      go_ret2
                      exact ⟨_, [], 1, rfl, OwnAt.nil _, .inl ⟨rfl, rfl⟩, HB.out⟩
                    | true =>
                      have hL0 : L lst = some 0 := HC.out.1 rfl
                      have HI' := Lib.hid (eout_zero HI.out hL0 (ownC l lst))
                      have hal : lst ∈ l.map (·.uid) := by
                        have h9 := HI'.out.sub lst (by simp)
                        rwa [cds_uids] at h9
                      have HL' := Lib.hid (HL.out.del lst)
                      have hwfr2 := HK.out.size
                      have hl9 : lst.size ≤ maxLen := by unfold maxLen; omega
                      obtain ⟨i0, hi0, hz0, hz1, hz2⟩ := info_parts Try.infoStr
                      obtain ⟨w5, hw5⟩ : ∃ z, z = wr.alloc (.cells #[.string lst] 9) := ⟨_, rfl⟩
                      have hb5 : Below wr.heap.size wr w5 := by rw [hw5]; exact (Below.refl _ wr).alloc (Nat.le_refl _) _
                      obtain ⟨q9, hq9⟩ : ∃ q, q = wr.heap.size := ⟨_, rfl⟩
                      have hq5 : w5.heap[q9]? = some (.cells #[.string lst] 9 (0, 0)) := by rw [hw5, hq9]; exact heap_alloc_new wr _
                      have HO5 := Lib.hid (HO.out.below stays_string hb5)
                      have HM5 := Lib.hid (HM.out.belowW hb5)
                      have HK5 := Lib.hid (grown_below HK.out hb5)
                      have hwl5 : wf.heap.size ≤ w5.heap.size := HK5.out.size
                      clear hl0 hrlt HR HC HO HM HK HB hb5 hL0
                      go_upto_region 28 with (at_builtin; rw [← hw5]; try rw [← hq9]; clear hw5 hq9; refine wpList_append_ownAt (R := RString) (k := 1) (e := 9) (B := wf.heap.size) (l := out) (m := [lst]) _ (by rfl) _ _ _ (by rfl) i0 _ 16 Try.underlying23 hi0 hz0 hz1 hz2 rfl (by omega) flat_string one_string _ (by rfl) HO5.out _ (by rfl) (RowAt.one hq5 rfl rfl) (by rw [Hon.out]; unfold maxLen; simp; omega) (by rw [Hon.out]; simp; omega) hwl5 ?_; intro v8 w6 hO6 hg6 hlo6 hat6)
                      have hne6 : ∀ q, (Value.slice a8 on c8).ownBlock = some q → wf.heap.size ≤ q ∧ q ≠ lm := fun q hq => by
                        obtain ⟨h1, _, cur, h9⟩ := HO5.out.at hq
                        exact ⟨h1, fun e => HM5.out.ne h9 e.symm⟩
                      have HM6 := Lib.hid (HM5.out.kept hg6 fun e => (hne6 lm e.symm).2 rfl)
                      have HK6 := Lib.hid (grown_row HK5.out hg6 fun q hq => (hne6 q hq).1)
                      have HO6 := Lib.hid hO6
                      clear hO6 hg6 hlo6 hat6 hne6 HM5 HK5 HO5 hq5
                      obtain ⟨w7, hdel, hm7, ht7⟩ := HM6.out.drop Try.underlying9 Try.underlying37 lst hl9 0
                      go_upto_region 29 with fail
                      clear hdel
                      have HM7 := Lib.hid hm7
                      have HK7 := Lib.hid (grown_trans HK6.out ht7.grown)
                      have HO7 : Hid (OwnAt RString 1 w7 wf.heap.size 9 v8 (out ++ [lst])) := Lib.hid (own_but HO6.out ht7.grown HM6.out.isMap)
                      have hOw := HOf.out.but HK7.out Hmf.out (fun e => hlmo e.symm)
                      have hlk := hOw.look lst hl9
                      obtain ⟨va, vc, hva, -, -⟩ := (hOw.at lst).row.len
                      obtain ⟨vn, hvn⟩ : ∃ vn, (ownC l lst).length = vn := ⟨_, rfl⟩
                      rw [hvn] at hva
                      rw [hva] at hlk
                      have HSt0 : Hid (StrAt wf (.slice va vn vc) (ownC l lst)) := Lib.hid (by rw [← hva]; exact (HOf.out.at lst).row.strs)
                      have hvl : vn ≤ 4 := by rw [← hvn]; exact ownC_len (fun x hx => (Hgd.out.good x hx).2.1) lst
                      have Hvn := Lib.hid hvn
                      have Hsz : Hid (∀ s ∈ ownC l lst, s.size ≤ 1048576) := Lib.hid fun s hs => by
                        obtain ⟨x, hx, _, he⟩ := ownC_mem hal
                        rw [he, csOf_mem] at hs
                        exact (Hs.out x hx).2.2 s hs
                      clear hm7 ht7 hOw hva hvn HM6 HK6 HO6 HL HI hal
                      go_wp2_with fail
                      clear hlk
                      go_loopg [95] vn (fun k2 u95 wr5 => ∃ (j m2 : Nat) (F2 : KB → Option Value) (L2 : ByteArray → Option Nat), j + k2 = vn ∧ u95 = .int .i64 (j : Int) ∧ Hid (Rf.OInv (cds l) L2 (out ++ [lst]) (EOut out lst (ownC l lst) j)) ∧ Hid (OwnAt RString 1 wr5 wf.heap.size 9 v8 (out ++ [lst])) ∧ Hid (MapS Try.prog 9 wr5 lm m2 F2) ∧ Hid (LeftF F2 L2) ∧ m2 ≤ 100 + 4 * on + j ∧ Hid (wf.grownBy wr5 (some lm)))
                      case atStart => exact ⟨0, m, _, _, by omega, rfl, HI', HO7, HM7, HL', by omega, HK7⟩
                      case round =>
                        clear HI' HO7 HM7 HL' HK7 hwfr hwfr2
                        obtain ⟨j, m2, F2, L2, hjk, rfl, HI, HO, HM, HL, hm2, HK⟩ := hrel
                        cases gk with
                        | zero =>
                          obtain rfl : vn = j := by omega
                          have HIe := Lib.hid (eout_end Hgd.out HI.out (by rw [Hvn.out]; exact Nat.le_refl _))
                          clear HI
                          go_wp2_with fail
                          go_roundg kg
                          case measure => omega
                          case rel => exact ⟨out ++ [lst], m2, F2, L2, by rw [List.length_append, Hon.out]; simp; omega, HIe, HO, HM, HL, by rw [List.length_append, Hon.out]; simp; omega, HK⟩
                        | succ k2 =>
                          have hjl : j < vn := by omega
                          obtain ⟨u, hju⟩ : ∃ u, (ownC l lst)[j]? = some u := ⟨(ownC l lst)[j]'(by rw [Hvn.out]; exact hjl), List.getElem?_eq_getElem _⟩
                          obtain ⟨b9, o9, c9, hv9, _, _, _, hcy⟩ := (strAt_but HSt0.out HK.out Hmf.out).form (by rw [Hvn.out]; omega)
                          injection hv9 with u1 u2 u3
                          subst u1
                          clear u2 u3
                          have e0 := hcy j u hju
                          have q3 : (0 : Int) ≤ (j : Int) := by omega
                          have q4 : (j : Int) < (vn : Int) := by omega
                          have hus : u.size ≤ 1048576 := Hsz.out u (List.mem_of_getElem? hju)
                          have hus9 : u.size ≤ maxLen := by unfold maxLen; omega
                          obtain ⟨hlk, hlk2⟩ := (MapS.look HM.out Try.underlying9 Try.underlying37 (Try.zeroIntR wr) u hus9)
                          rw [HL.out u] at hlk hlk2
                          cases hLu : L2 u with
                          | none =>
                            have HIn := Lib.hid (eout_no HI.out hju hLu)
                            rw [hLu] at hlk
                            have hlk' : (Instr.lookup 37 (.map (some lm)) (.string u) true).run Try.prog wr = .ok (.tuple #[.int .i64 0, .bool false]) wr := hlk
                            clear hlk hlk2 hcy hju hLu HI
                            go_wp2_with fail
                            clear hlk' e0
                            go_roundg k2
                            case measure => omega
                            case rel => exact ⟨j + 1, m2, F2, L2, by omega, by go_num, HIn, HO, HM, HL, by omega, HK⟩
                          | some n =>
                            obtain ⟨hn1, hIy⟩ := eout_yes Hgd.out HI.out hju hLu
                            have hnl2 := oinv_le HI.out hLu
                            rw [Hnl.out] at hnl2
                            have HIy := Lib.hid hIy
                            rw [hLu] at hlk hlk2
                            have hlk' : (Instr.lookup 37 (.map (some lm)) (.string u) true).run Try.prog wr = .ok (.tuple #[.int .i64 (n : Int), .bool true]) wr := hlk
                            have hlk2' : (Instr.lookup 37 (.map (some lm)) (.string u) false).run Try.prog wr = .ok (.int .i64 (n : Int)) wr := hlk2
                            have hms9 : m2 < maxLen := by unfold maxLen; omega
                            have hLp := HL.out.put u (n - 1)
                            have hcast : ((n - 1 : Nat) : Int) = (n : Int) - 1 := by omega
                            rw [hcast] at hLp
                            have HLp := Lib.hid hLp
                            clear hlk hlk2 hcy hju hLu HI hIy hLp hcast
                            go_upto_region 35 with (at_mapUpdate; refine wpList_store_mapS _ (by rfl) _ _ _ 37 (by rfl) 9 3 Try.underlying9 Try.underlying37 lm m2 F2 (by rfl) HM.out hms9 u hus9 (by rfl) (.int .i64 ((n : Int) - 1)) (by rfl) ?_; intro w8 hm8 ht8)
                            have HM8 := Lib.hid hm8
                            have HK8 := Lib.hid (grown_trans HK.out ht8.grown)
                            have HO8 : Hid (OwnAt RString 1 w8 wf.heap.size 9 v8 (out ++ [lst])) := Lib.hid (own_but HO.out ht8.grown HM.out.isMap)
                            clear hm8 ht8 hlk' hlk2' e0 HO HM HK HL
                            go_wp2_with fail
                            go_roundg k2
                            case measure => omega
                            case rel => exact ⟨j + 1, m2 + 1, _, _, by omega, by go_num, HIy, HO8, HM8, HLp, by omega, HK8⟩
                  · intro s v w3 cnt3 hs hlk hv hrg3 hlt hgr3 hsz3 hen
                    obtain ⟨n, hLn, rfl⟩ := HL.out.some hv
                    have hss : s.size ≤ 1048576 := by
                      have h9 := ((HI.out.left s).1 (by rw [hLn]; rfl)).1
                      exact Huz.out s h9
                    have HR3 := Lib.hid hrg3
                    have HO3 : Hid (OwnAt RString 1 w3 wf.heap.size 9 (.slice a8 on c8) out) := Lib.hid (own_keepB HO.out fun q hq => hgr3.block q (HO.out.at hq).2.1 fun e => by
                      obtain ⟨D9, L9, h91, _⟩ := HR.out
                      obtain ⟨o9, ho9, hw9⟩ := h91.iter_walk
                      obtain ⟨_, _, cur, h9⟩ := HO.out.at hq
                      injection e with e
                      rw [e, ho9] at h9
                      cases h9
                      simp [Obj.isWalk] at hw9)
                    have HK3 := Lib.hid (grown_row HK.out hgr3 fun q hq => by cases hq; exact hrwf)
                    have HLn := Lib.hid hLn
                    clear hrg3 hgr3 hsz3 hlk hv hrlt HO HK HR hs
                    by_cases hz : n = 0
                    · subst hz
                      have HCy : Hid (LeastAt L (fun k => left k && !decide (k = s.data.toList)) s true) := Lib.hid (LeastAt.found HLn.out)
                      cases isb with
                      | false =>
                        clear HC
                        go_wp2_with fail
                        clear hen
                        go_roundg cnt3
                        case measure => exact hlt
                        case rel => exact ⟨_, s, true, rfl, rfl, HR3, HCy, hss, HO3, HK3⟩
                      | true =>
                        have HCk : Hid (LeastAt L (fun k => left k && !decide (k = s.data.toList)) lst true) := Lib.hid HC.out.keep
                        clear HC
                        go_wp2_with fail
                        all_goals
                          clear hen
                          go_roundg cnt3
                        all_goals first
                          | exact hlt
                          | exact ⟨_, s, true, rfl, rfl, HR3, HCy, hss, HO3, HK3⟩
                          | exact ⟨_, lst, true, rfl, rfl, HR3, HCk, hlst, HO3, HK3⟩
                    · have tz : ¬ ((n : Int) = 0) := by omega
                      have tz2 : ((n : Int) == 0) = false := by simpa using hz
                      have HCk := Lib.hid (HC.out.pass HLn.out hz)
                      clear HC
                      go_wp2_with fail
                      clear hen
                      go_roundg cnt3
                      case measure => exact hlt
                      case rel => exact ⟨_, lst, isb, rfl, rfl, HR3, HCk, hlst, HO3, HK3⟩
          | succ k =>
          have hil : i < nl := by omega
          obtain ⟨x, hxi⟩ : ∃ x, l[i]? = some x := ⟨l[i]'(by rw [Hnl.out]; exact hil), List.getElem?_eq_getElem _⟩
          obtain ⟨bb, o, c', hv, _, _, hbs, hcell⟩ := HRow.out.form (by rw [Hnl.out]; omega) (by omega)
          injection hv with u1 u2 u3
          subst u1
          clear u2 u3
          obtain ⟨ds, _, hcc, v1, rfl, hst⟩ := hcell i x hxi
          obtain ⟨sa, sc, rfl, -, -⟩ := hst.row.len
          obtain ⟨sn, hsn⟩ : ∃ sn, x.owners.length = sn := ⟨_, rfl⟩
          rw [hsn] at hcc hst
          obtain ⟨hmu, hmo, hms⟩ := Hs.out x (List.mem_of_getElem? hxi)
          have e0 : wr.cell? ⟨bb, o + i * 2, none⟩ = some (.string x.uid) := (HB.out.cell (p := ⟨bb, _, none⟩) hbs).trans (by simpa using hcc 0 _ rfl)
          have e1 : wr.cell? ⟨bb, o + i * 2 + 1, none⟩ = some (.slice sa sn sc) := (HB.out.cell (p := ⟨bb, _, none⟩) hbs).trans (hcc 1 _ rfl)
          have q1 : (0 : Int) ≤ (i : Int) := by omega
          have q2 : (i : Int) < (nl : Int) := by omega
          obtain ⟨w2, hw2⟩ : ∃ w2, w2 = wr.alloc (.cells #[.string x.uid, .slice sa sn sc] 31) := ⟨_, rfl⟩
          obtain ⟨gx, hgx⟩ : ∃ gx, gx = wr.heap.size := ⟨_, rfl⟩
          have b2 : w2.heap[gx]? = some (.cells #[.string x.uid, .slice sa sn sc] 31 (0, 0)) := by rw [hw2, hgx]; exact heap_alloc_new wr _
          have hb2 : Below wr.heap.size wr w2 := by rw [hw2]; exact (Below.refl _ wr).alloc (Nat.le_refl _) _
          have HB2 := Lib.hid (HB.out.trans (hb2.mono HB.out.size))
          have Hxi := Lib.hid hxi
          have BX := Lib.hid b2
          have hsm : sn ≤ 4 := by rw [← hsn]; exact (Hgd.out.good x (List.mem_of_getElem? hxi)).2.1
          have Hsn := Lib.hid hsn
          have Hms := Lib.hid hms
          have Hu9 : Hid (x.uid.size ≤ maxLen) := Lib.hid (by unfold maxLen; omega)
          have HSt := Lib.hid (hst.below HB2.out)
          have HO2 := Lib.hid (HO.out.below hb2)
          have HK2 := Lib.hid (grown_below HK.out hb2)
          have Hb2 := Lib.hid hb2
          have hgxo : gx ≠ om := fun e => HO2.out.map.ne b2 e.symm
          have hgxl : gx < w2.heap.size := (Array.getElem?_eq_some_iff.1 b2).1
          have hs2 := hb2.size
          have hns9 : i < maxLen := by unfold maxLen; omega
          clear hcc hcell hxi hst hb2 b2 hsn hbs hmo hms hmu HB HK
          go_upto_region 15 with fail
          rw [← hw2]
          try rw [← hgx]
          clear hw2 hgx e0 e1
          refine wp_region_relX 8 (fun w' => Below w2.heap.size w2 w') (fun ii wa wb => if ii = 7 then Below w2.heap.size wa wb else Below wa.heap.size wa wb) (fun jj U w' => match jj with
            | 0 => U 0 = .map (some om)
            | 1 => U 1 = .pointer (some ⟨gx, 0, none⟩)
            | 2 => U 2 = .string x.uid
            | 3 => U 3 = .pointer (some ⟨gx, 1, none⟩)
            | 4 => U 4 = .slice sa sn sc
            | 5 => ∃ q, U 5 = .func (.func 36) #[] #[.pointer (some ⟨q, 0, none⟩)] ∧ w2.heap.size ≤ q ∧ w'.heap[q]? = some (.cells #[.slice sa sn sc] 23 (0, 0))
            | 6 => OwnAt RString 1 w' w2.heap.size 9 (U 6) (sortS x.owners)
            | 7 => OwnAt RString 1 w' w2.heap.size 9 (U 7) (csOf x.owners)
            | _ => True)
            (fun | 2 => [1] | 4 => [3] | 5 => [4] | 6 => [5] | 7 => [6] | _ => [])
            (fun | 5 => [7] | 6 => [7] | _ => []) (by kernel_rfl) (by kernel_rfl) (Below.refl _ _).drew ?_ ?_ ⟨?_, ?_, ?_, ?_, ?_, ?_, ?_, ?_, trivial⟩ ?_
          · intro ii wa wb hk hi
            by_cases h7 : ii = 7
            · rw [if_pos h7] at hk; exact hi.trans hk
            · rw [if_neg h7] at hk; exact hi.trans (hk.mono hi.size)
          · intro ii jj U wa wb hji hkl hk hi h
            by_cases h7 : ii = 7
            · subst h7
              match jj, hji, hkl, h with
              | 0, _, _, h => exact h
              | 1, _, _, h => exact h
              | 2, _, _, h => exact h
              | 3, _, _, h => exact h
              | 4, _, _, h => exact h
              | 5, _, hkl, h => exact absurd (by simp) hkl
              | 6, _, hkl, h => exact absurd (by simp) hkl
              | 7, hji, _, h => exact absurd rfl hji
              | _ + 8, _, _, _ => trivial
            · rw [if_neg h7] at hk
              match jj, h with
              | 0, h => exact h
              | 1, h => exact h
              | 2, h => exact h
              | 3, h => exact h
              | 4, h => exact h
              | 5, h => obtain ⟨q, h1, h2, h3⟩ := h; exact ⟨q, h1, h2, below_block hk h3⟩
              | 6, h => exact h.below stays_string hk
              | 7, h => exact h.below stays_string hk
              | _ + 8, _ => trivial
          · intro x' w' hb hd
            refine owesK_here (.map (some om)) (by rfl) ?_ rfl (else_of (by decide) (Below.refl _ _))
            clear hd
            simp only [putAll, List.take_succ_cons, List.take_zero]
            go_simp
          · intro x' w' hb hd
            refine owesK_here (.pointer (some ⟨gx, 0, none⟩)) (by rfl) ?_ rfl (else_of (by decide) (Below.refl _ _))
            clear hd
            simp only [putAll, List.take_succ_cons, List.take_zero]
            go_simp
          · intro x' w' hb hd
            have k1 : x' 1 = .pointer (some ⟨gx, 0, none⟩) := hd 1 (by simp)
            have h9 : w'.heap[gx]? = some (.cells #[.string x.uid, .slice sa sn sc] 31 (0, 0)) := below_block hb BX.out
            have c9 := fun z => cell_block h9 z
            refine owesK_here (.string x.uid) (by rfl) ?_ rfl (else_of (by decide) (Below.refl _ _))
            clear hd
            simp only [putAll, List.take_succ_cons, List.take_zero]
            go_simp
          · intro x' w' hb hd
            refine owesK_here (.pointer (some ⟨gx, 1, none⟩)) (by rfl) ?_ rfl (else_of (by decide) (Below.refl _ _))
            clear hd
            simp only [putAll, List.take_succ_cons, List.take_zero]
            go_simp
          · intro x' w' hb hd
            have k3 : x' 3 = .pointer (some ⟨gx, 1, none⟩) := hd 3 (by simp)
            have h9 : w'.heap[gx]? = some (.cells #[.string x.uid, .slice sa sn sc] 31 (0, 0)) := below_block hb BX.out
            have c9 := fun z => cell_block h9 z
            refine owesK_here (.slice sa sn sc) (by rfl) ?_ rfl (else_of (by decide) (Below.refl _ _))
            clear hd
            simp only [putAll, List.take_succ_cons, List.take_zero]
            go_simp
          · intro x' w' hb hd
            have k4 : x' 4 = .slice sa sn sc := hd 4 (by simp)
            have hsz := hb.size
            refine owesK_call 25 #[.slice sa sn sc] (by rfl) ?_ ((values_any (.slice sa sn sc) sa sn sc rfl w').mono ?_)
            · clear hd
              simp only [putAll, List.take_succ_cons, List.take_zero]
              go_simp
            · rintro _ w9 ⟨rfl, rfl⟩
              exact ⟨_, rfl, ⟨w'.heap.size, rfl, hsz, heap_alloc_new w' _⟩, else_of (by decide) ((Below.refl _ w').alloc (Nat.le_refl _) _)⟩
          · intro x' w' hb hd
            obtain ⟨q, k5, hq1, hq2⟩ : ∃ q, x' 5 = .func (.func 36) #[] #[.pointer (some ⟨q, 0, none⟩)] ∧ w2.heap.size ≤ q ∧ w'.heap[q]? = some (.cells #[.slice sa sn sc] 23 (0, 0)) := hd 5 (by simp)
            have hsz := hb.size
            refine owesK_call 24 #[.func (.func 36) #[] #[.pointer (some ⟨q, 0, none⟩)]] (by rfl) ?_ ((sortedVals_any (.slice sa sn sc) x.owners q w' (HSt.out.below hb) hq2 (by rw [Hsn.out]; omega)).mono ?_)
            · clear hd
              simp only [putAll, List.take_succ_cons, List.take_zero]
              go_simp
            · rintro _ w9 ⟨v9, rfl, h1, h2⟩
              exact ⟨v9, rfl, h1.mono hsz, else_of (by decide) h2⟩
          · intro x' w' hb hd
            have k6 : OwnAt RString 1 w' w2.heap.size 9 (x' 6) (sortS x.owners) := hd 6 (by simp)
            obtain ⟨v6, hv6⟩ : ∃ v6, x' 6 = v6 := ⟨_, rfl⟩
            rw [hv6] at k6
            refine owesK_call 23 #[v6] (by rfl) ?_ ((compactStr_any v6 (sortS x.owners) w2.heap.size w' k6 (by rw [sortS_len, Hsn.out]; omega)).mono ?_)
            · clear hd
              simp only [putAll, List.take_succ_cons, List.take_zero]
              rw [hv6]
              go_simp
            · rintro _ w9 ⟨v9, rfl, h1, h2⟩
              exact ⟨v9, rfl, h1, then_of (by decide) h2⟩
          · intro x' w' hb hR
            have k0 : x' 0 = .map (some om) := hR 0 (by omega) rfl
            have k2' : x' 2 = .string x.uid := hR 2 (by omega) rfl
            have k7 : OwnAt RString 1 w' w2.heap.size 9 (x' 7) (csOf x.owners) := hR 7 (by omega) rfl
            obtain ⟨v9, hv9⟩ : ∃ v9, x' 7 = v9 := ⟨_, rfl⟩
            rw [hv9] at k7
            have HM9 := Lib.hid (HO2.out.map.belowW hb)
            have Hb9 := Lib.hid hb
            have K7 := Lib.hid k7
            clear hR hb k7
            simp only [putAll, List.take_succ_cons, List.take_zero, List.drop_succ_cons, List.drop_zero]
            rw [k0, k2', hv9]
            clear k0 k2' hv9
            try simp only [Act.put, List.setIfInBounds_toArray, List.set_cons_zero, List.set_cons_succ]
            go_upto_region 16 with (at_mapUpdate; refine wpList_store_mapS _ (by rfl) _ _ _ 54 (by rfl) 9 23 Try.underlying9 Try.underlying54 om i f2 (by rfl) HM9.out hns9 x.uid Hu9.out (by rfl) v9 (by rfl) ?_; intro w4 hm4 ht4)
            have hoL := HO2.out.map.lt
            have HO4 : Hid (OwnsF w4 om om (i + 1) (updF f2 x.uid.data.toList v9) (ownC (l.take (i + 1)))) := Lib.hid ((HO2.out.set (s := x.uid) (m := csOf x.owners) Hb9.out (K7.out.mono (by omega)) (fun q hq => (K7.out.at hq).1) hm4 ht4).congr fun s => ownC_more Hgd.out.uids Hxi.out s)
            have HK4 := Lib.hid (grown_trans (grown_below HK2.out Hb9.out) ht4.grown)
            clear hm4 ht4 HO2 HK2
            go_wp2_with fail
            go_roundg k
            case measure => omega
            case rel => exact ⟨i + 1, _, by omega, by go_num, HO4, HK4⟩
      | succ k =>
        have hil : i < nl := by omega
        obtain ⟨x, hxi⟩ : ∃ x, l[i]? = some x := ⟨l[i]'(by rw [Hnl.out]; exact hil), List.getElem?_eq_getElem _⟩
        obtain ⟨bb, o, c', hv, _, _, hbs, hcell⟩ := HRow.out.form (by rw [Hnl.out]; omega) (by omega)
        injection hv with u1 u2 u3
        subst u1
        clear u2 u3
        obtain ⟨ds, _, hcc, v1, rfl, hst⟩ := hcell i x hxi
        obtain ⟨sa, sc, rfl, -, -⟩ := hst.row.len
        obtain ⟨sn, hsn⟩ : ∃ sn, x.owners.length = sn := ⟨_, rfl⟩
        rw [hsn] at hcc hst
        obtain ⟨hmu, hmo, hms⟩ := Hs.out x (List.mem_of_getElem? hxi)
        have e0 : wr.cell? ⟨bb, o + i * 2, none⟩ = some (.string x.uid) := (HB.out.cell (p := ⟨bb, _, none⟩) hbs).trans (by simpa using hcc 0 _ rfl)
        have e1 : wr.cell? ⟨bb, o + i * 2 + 1, none⟩ = some (.slice sa sn sc) := (HB.out.cell (p := ⟨bb, _, none⟩) hbs).trans (hcc 1 _ rfl)
        have q1 : (0 : Int) ≤ (i : Int) := by omega
        have q2 : (i : Int) < (nl : Int) := by omega
        obtain ⟨w2, hw2⟩ : ∃ w2, w2 = wr.alloc (.cells #[.string x.uid, .slice sa sn sc] 31) := ⟨_, rfl⟩
        obtain ⟨gx, hgx⟩ : ∃ gx, gx = wr.heap.size := ⟨_, rfl⟩
        have b2 : w2.heap[gx]? = some (.cells #[.string x.uid, .slice sa sn sc] 31 (0, 0)) := by rw [hw2, hgx]; exact heap_alloc_new wr _
        have hb2 : Below wr.heap.size wr w2 := by rw [hw2]; exact (Below.refl _ wr).alloc (Nat.le_refl _) _
        have HB2 := Lib.hid (HB.out.trans (hb2.mono HB.out.size))
        have Hxi := Lib.hid hxi
        have BX := Lib.hid b2
        have hsm : sn ≤ 4 := by rw [← hsn]; exact (Hgd.out.good x (List.mem_of_getElem? hxi)).2.1
        have Hsn := Lib.hid hsn
        have Hms := Lib.hid hms
        have Hu9 : Hid (x.uid.size ≤ maxLen) := Lib.hid (by unfold maxLen; omega)
        have HM2 := Lib.hid (HM.out.belowW hb2)
        have HK2 := Lib.hid (grown_below HK.out hb2)
        have BG2 := Lib.hid (below_block hb2 BG.out)
        have hgxm : gx ≠ lm := fun e => HM2.out.ne b2 e.symm
        have hGr := (HG.out.but HK2.out Hmm.out Hle.out.2.2.2.1 Hle.out.2.2.2.2.1)
        have hlk := hGr.owns.look x.uid Hu9.out
        obtain ⟨va, vc, hva, -, -⟩ := (hGr.owns.at x.uid).row.len
        obtain ⟨vn, hvn⟩ : ∃ vn, (ownsB l x.uid).length = vn := ⟨_, rfl⟩
        rw [hvn] at hva
        rw [hva] at hlk
        have HL' : Hid (LeftF (updF F x.uid.data.toList (.int .i64 (vn : Int))) (Lst l (i + 1))) := Lib.hid (by
          rw [← lst_more hxi, ← hvn]
          exact HL.out.put x.uid _)
        have cc := fun z => cell_block b2 z
        have cg := fun z => cell_block BG2.out z
        have hns9 : i < maxLen := by unfold maxLen; omega
        clear hcc hcell hxi hst hb2 b2 hsn hbs hmo hms hmu HB HM HK BG hGr hva hvn HL
        go_upto_region 9 with fail
        rw [← hw2]
        try rw [← hgx]
        clear hw2 hgx e0 e1
        go_upto_region 10 with (at_mapUpdate; refine wpList_store_mapS _ (by rfl) _ _ _ 37 (by rfl) 9 3 Try.underlying9 Try.underlying37 lm i F (by rfl) HM2.out hns9 x.uid Hu9.out (by rfl) (.int .i64 (vn : Int)) (by rfl) ?_; intro w3 hm3 ht3)
        have HM3 := Lib.hid hm3
        have HK3 := Lib.hid (grown_trans HK2.out ht3.grown)
        clear cc cg hlk hm3 ht3 HM2 HK2 BG2
        go_wp2_with fail
        go_roundg k
        case measure => omega
        case rel => exact ⟨i + 1, _, by omega, by go_num, HM3, HL', HK3⟩
  · have qc : (c != 0) = true := by simp [hc0]
    have Hc0 := Lib.hid hc0
    clear hc0
    go_wp2_with fail
    go_ret2
    exact ⟨_, [], c, rfl, OwnAt.nil _, fun _ => rfl, fun e => (Hc0.out e).elim, HBa.out⟩
end Go.Proofs.Ytgoapmjcfdbjpaa
namespace Go.Proofs.Ytgoapmjcfdbjpaa
open Go.RowKit Go.MapKept Go.ChangeMaps
namespace Rf
variable {α : Type} [DecidableEq α]
def place (row : List α) (s : α) : Nat := row.idxOf s
theorem IsRow.before {l : List (C α)} {out : List α} (h : IsRow l out) {a u : α} (ha : a ∈ out) (hc : Comes l a u) : u ∈ out ∧ place out u < place out a := h.comes ha hc
def doneW (row : List α) (i : Nat) (s : α) : Nat := if s ∈ row.take i then row.idxOf s + 1 else 0
theorem doneW_zero (row : List α) : doneW row 0 = fun _ => 0 := funext fun s => by simp [doneW]
theorem idx_at {row : List α} (hn : row.Nodup) {i : Nat} {s : α} (hs : row[i]? = some s) : row.idxOf s = i := by
  obtain ⟨hi, he⟩ := List.getElem?_eq_some_iff.1 hs
  have h1 := List.idxOf_lt_length_of_mem (List.mem_of_getElem? hs)
  have h2 : row[row.idxOf s] = s := List.getElem_idxOf h1
  have hp := List.pairwise_iff_getElem.1 (List.nodup_iff_pairwise_ne.1 hn)
  rcases Nat.lt_trichotomy (row.idxOf s) i with h | h | h
  · exact absurd (h2.trans he.symm) (hp _ _ h1 hi h)
  · exact h
  · exact absurd (he.trans h2.symm) (hp _ _ hi h1 h)
theorem doneW_more {row : List α} (hn : row.Nodup) {i : Nat} {s : α} (hs : row[i]? = some s) : upd (doneW row i) s (i + 1) = doneW row (i + 1) := funext fun z => by
  unfold upd doneW
  rw [take_succ hs]
  by_cases e : z = s
  · subst e; rw [if_pos rfl, if_pos (by simp), idx_at hn hs]
  · rw [if_neg e]
    by_cases h : z ∈ row.take i
    · rw [if_pos h, if_pos (List.mem_append_left _ h)]
    · rw [if_neg h, if_neg]
      intro h'
      rcases List.mem_append.1 h' with h' | h'
      · exact h h'
      · exact e (by simpa using h')
theorem doneW_all (row : List α) {s : α} (hs : s ∈ row) : doneW row row.length s = place row s + 1 := by
  unfold doneW place
  rw [List.take_of_length_le (Nat.le_refl _), if_pos hs]
end Rf
theorem nodup_data {l : List ByteArray} (h : l.Nodup) : (l.map (·.data.toList)).Nodup := by
  rw [List.nodup_iff_pairwise_ne, List.pairwise_map]
  exact (List.nodup_iff_pairwise_ne.1 h).imp fun hne e => hne (kb_eq e)
theorem keys_len {F : KB → Option Value} {row : List ByteArray} (h : SeenM F row) (hn : row.Nodup) {ks : List KB} (hk : ks.Nodup) (hks : ∀ k, k ∈ ks ↔ (F k).isSome = true) : ks.length = row.length := by
  have hp : ks.Perm (row.map (·.data.toList)) := (List.perm_ext_iff_of_nodup hk (nodup_data hn)).2 fun k => by
    obtain ⟨s, rfl⟩ := kb_form k
    rw [hks, h s, decide_eq_true_iff, List.mem_map]
    exact ⟨fun hs => ⟨s, hs, rfl⟩, fun ⟨z, hz, he⟩ => kb_eq he ▸ hz⟩
  have := hp.length_eq
  rwa [List.length_map] at this
end Go.Proofs.Ytgoapmjcfdbjpaa
namespace Go.Proofs.Ytgoapmjcfdbjpaa
open Go.RowKit Go.MapKept Go.ChangeMaps
end Go.Proofs.Ytgoapmjcfdbjpaa
namespace Go.Proofs.Ytgoapmjcfdbjpaa
open Go.RowKit
def restOf (a b : Int) : Int := if a.tmod b < 0 then a.tmod b + b else a.tmod b
theorem restOf_in {a b : Int} (hb : 0 < b) : 0 ≤ restOf a b ∧ restOf a b < b := by
  have h1 := Int.tmod_lt_of_pos a hb
  have h2 : -b < a.tmod b := by
    have := Int.lt_tmod_of_pos a hb
    omega
  unfold restOf
  split <;> omega
theorem rest_any (a b : Int) (w : World) (hb : 0 < b) (hb2 : b ≤ 1073741824) : Calls Try.prog 13 #[.int .i64 a, .int .i64 b] w fun e w' => e = .returned (.int .i64 (restOf a b)) ∧ w = w' := by
  have h1 := Int.tmod_lt_of_pos a hb
  have h2 : -b < a.tmod b := by
    have := Int.lt_tmod_of_pos a hb
    omega
  have hb0 : (b == 0) = false := by rw [beq_eq_false_iff_ne]; omega
  by_cases h : a.tmod b < 0
  · have hr : restOf a b = a.tmod b + b := by unfold restOf; rw [if_pos h]
    have Hr := Lib.hid hr
    have q1 : IntKind.i64.wrap (a.tmod b) = a.tmod b := IntWalk.i64_in _ (by omega)
    have q2 : IntKind.i64.wrap (a.tmod b + b) = a.tmod b + b := IntWalk.i64_in _ (by omega)
    clear hr
    go_enter Try.func13, Try.ntmps13
    go_wp2_with fail
    go_ret
    exact ⟨congrArg (fun x => Ending.returned (Value.int .i64 x)) Hr.out.symm, rfl⟩
  · have hr : restOf a b = a.tmod b := by unfold restOf; rw [if_neg h]
    have Hr := Lib.hid hr
    have q1 : IntKind.i64.wrap (a.tmod b) = a.tmod b := IntWalk.i64_in _ (by omega)
    clear hr
    go_enter Try.func13, Try.ntmps13
    go_wp2_with fail
    go_ret
    exact ⟨congrArg (fun x => Ending.returned (Value.int .i64 x)) Hr.out.symm, rfl⟩
end Go.Proofs.Ytgoapmjcfdbjpaa
namespace Go.Proofs.Ytgoapmjcfdbjpaa
open Go.RowKit Go.MapKept Go.ChangeMaps
set_option maxRecDepth 100000 in
set_option maxHeartbeats 3200000 in
theorem refsUnder_any (v : Value) (l : List GCard) (uid : ByteArray) (w : World) (h : RowAt CardR 2 w v l) (hok : OkCards l) (hgd : GoodL l) (hin : uid ∈ l.map (·.uid)) :
    Calls Try.prog 14 #[v, .string uid] w fun e w' => ∃ (v' : Value) (ss : List ByteArray), e = .returned (.tuple #[v', .int .i64 0]) ∧ OwnAt RString 1 w' w.heap.size 9 v' ss ∧ ss.Nodup ∧ (∀ s, s ∈ ss ↔ Rf.Comes (cds l) uid s) ∧ Below w.heap.size w w' := by
  obtain ⟨a1, c1, rfl, -, -⟩ := h.len
  have HRow := Lib.hid h
  have Hok := Lib.hid hok
  have Hgd := Lib.hid hgd
  have Hin := Lib.hid hin
  have HCk := Lib.hid (refsCheck_any _ l w h hok)
  rw [refsE_zero.2 hgd] at HCk
  obtain ⟨nl, hnl⟩ : ∃ n, l.length = n := ⟨_, rfl⟩
  rw [hnl] at HCk HRow ⊢
  have hus : uid.size ≤ 1048576 := by
    obtain ⟨x, hx, rfl⟩ := List.mem_map.1 hin
    exact (hok.2 x hx).1
  have hus9 : uid.size ≤ maxLen := by unfold maxLen; omega
  clear h hok hnl hgd hin
  go_enter Try.func14, Try.ntmps14
  go_wp2_with fail
  refine HCk.out.mono ?_
  rintro e wa ⟨rfl, hba⟩
  have HOf := Lib.hid (refsOf_any (.slice a1 nl c1) l wa (HRow.out.below stays_card hba) Hok.out Hgd.out)
  have HBa := Lib.hid hba
  clear HCk hba
  go_wp2_with fail
  refine HOf.out.mono ?_
  rintro e wb ⟨tb, ob, n, T, f, rfl, hG, hn3, hbb⟩
  obtain ⟨wc, hwc⟩ : ∃ x, x = wb.alloc (.cells #[.map (some tb), .map (some ob)] 56) := ⟨_, rfl⟩
  obtain ⟨gg, hgg⟩ : ∃ b, b = wb.heap.size := ⟨_, rfl⟩
  have bc : Below wb.heap.size wb wc := by rw [hwc]; exact (Below.refl _ wb).alloc (Nat.le_refl _) _
  have hGc : wc.heap[gg]? = some (.cells #[.map (some tb), .map (some ob)] 56 (0, 0)) := by rw [hwc, hgg]; exact heap_alloc_new wb _
  have HBc := Lib.hid (HBa.out.trans ((hbb.mono HBa.out.size).trans (bc.mono (Nat.le_trans HBa.out.size hbb.size))))
  have HG := Lib.hid (hG.below bc)
  have HUn := Lib.hid (graphUnder_any uid wc (hG.below bc) Hgd.out Hok.out hus)
  have hlk := (MapS.look HG.out.there Try.underlying9 Try.underlying37 (Try.zeroIntR wc) uid hus9).1
  rw [HG.out.seen uid, decide_eq_true Hin.out] at hlk
  obtain ⟨va2, hva2⟩ : ∃ z, (T uid.data.toList).getD (.int .i64 0) = z := ⟨_, rfl⟩
  rw [hva2] at hlk
  have hwl := HBc.out.size
  have cg := fun z => cell_block hGc z
  have BG := Lib.hid hGc
  clear HOf hG hbb bc hva2 hGc HBa
  go_upto_region 5 with fail
  rw [← hwc]
  try rw [← hgg]
  clear hwc hgg
  go_upto_region 8 with fail
  clear cg hlk
  go_wp2_with (first | (refine wpList_load_row (by rfl) _ _ (by rfl) gg (by rfl) _ _ _ _ (by exact BG.out) Try.underlying56 rfl (by exact Try.sizeGraph) ?_) | fail)
  refine HUn.out.mono ?_
  rintro e w9 ⟨v9, ss, rfl, h1, h2, h3, h4⟩
  have Hfin : Hid (OwnAt RString 1 w9 w.heap.size 9 v9 ss ∧ ss.Nodup ∧ (∀ s, s ∈ ss ↔ Rf.Comes (cds l) uid s) ∧ Below w.heap.size w w9) := Lib.hid ⟨h1.mono hwl, h2, h3, HBc.out.trans (h4.mono hwl)⟩
  clear HUn h1 h2 h3 h4
  go_wp2_with fail
  go_ret2
  exact ⟨v9, ss, rfl, Hfin.out⟩
def noCard : GCard := ⟨⟨#[]⟩, []⟩
theorem odd_any (w : World) : Calls Try.prog 9 #[] w fun e w' => e = .returned (.bool true) ∧ Below w.heap.size w w' := by
  obtain ⟨w1, hw1⟩ : ∃ z, z = w.alloc (.cells #[.string ⟨#[]⟩, .slice none 0 0] 31) := ⟨_, rfl⟩
  obtain ⟨g, hg⟩ : ∃ z, z = w.heap.size := ⟨_, rfl⟩
  have h1 : w1.heap[g]? = some (.cells #[.string ⟨#[]⟩, .slice none 0 0] 31 (0, 0)) := by rw [hw1, hg]; exact heap_alloc_new w _
  have hb : Below w.heap.size w w1 := by rw [hw1]; exact (Below.refl _ w).alloc (Nat.le_refl _) _
  have HB := Lib.hid hb
  have hrow : RowAt CardR 2 w1 (.slice (some ⟨g, 0, none⟩) 1 1) [noCard] := RowAt.one h1 rfl ⟨_, rfl, StrAt.nil _⟩
  have hok : OkCards [noCard] := ⟨by simp, fun x hx => by
    simp only [List.mem_singleton] at hx
    subst hx
    exact ⟨by decide, by simp [noCard], fun o ho => by simp [noCard] at ho⟩⟩
  have HC := Lib.hid (refsCheck_any _ _ w1 hrow hok)
  have he : refsE [noCard] = 6 := by decide +kernel
  rw [he] at HC
  have hwl := hb.size
  clear hb hrow hok he h1
  go_enter Try.func9, Try.ntmps9
  go_wp2_with fail
  rw [← hw1]
  try rw [← hg]
  refine HC.out.mono ?_
  rintro e w9 ⟨rfl, hb9⟩
  have HF := Lib.hid (HB.out.trans (hb9.mono hwl))
  clear HC hb9
  go_wp2_with fail
  go_ret
  exact ⟨rfl, HF.out⟩
end Go.Proofs.Ytgoapmjcfdbjpaa
namespace Go.Proofs.Ytgoapmjcfdbjpaa
open Go.RowKit Go.MapKept Go.ChangeMaps
theorem sum_memC {α : Type} {f : α → Nat} : ∀ {l : List α} {x : α}, x ∈ l → f x ≤ (l.map f).sum
  | y :: r, x, h => by
    rw [List.map_cons, List.sum_cons]
    rcases List.mem_cons.1 h with rfl | h
    · omega
    · have := sum_memC (f := f) h; omega
theorem okCards_bulk {l : List GCard} (h : (l.map cardB).sum ≤ 1048576) : OkCards l := by
  refine ⟨Nat.le_trans (sum_ge_length cardB (fun x => by unfold cardB; omega) l) h, fun x hx => ?_⟩
  have h1 := sum_memC (f := cardB) hx
  have h2 := total_length x.owners
  unfold cardB at h1 h
  refine ⟨by omega, by omega, fun o ho => ?_⟩
  have := total_mem ho
  omega
theorem OkCards.filter {l : List GCard} (h : OkCards l) (p : GCard → Bool) : OkCards (l.filter p) := ⟨Nat.le_trans (List.length_filter_le ..) h.1, fun x hx => h.2 x (List.mem_filter.1 hx).1⟩
end Go.Proofs.Ytgoapmjcfdbjpaa
namespace Go.Proofs.Ytgoapmjcfdbjpaa
open Go.RowKit Go.MapKept Go.ChangeMaps
theorem hasB_of {l : List ByteArray} {x : ByteArray} (h : x ∈ l) : Lib.containsS l x = true := (Lib.containsS_iff _ _).2 h
theorem str_cellR {w w' : World} {a : Option Addr} {n c : Nat} {l : List ByteArray} (h : StrAt w (.slice a n c) l) (hn : l.length = n) (hb : Below w.heap.size w w') {j : Nat} {y : ByteArray} (hy : l[j]? = some y) : ∃ b o, a = some ⟨b, o, none⟩ ∧ w'.cell? ⟨b, o + j, none⟩ = some (.string y) := by
  have hj : j < l.length := (List.getElem?_eq_some_iff.1 hy).1
  obtain ⟨b9, o9, c9, hv9, _, _, _, hcy⟩ := (h.below hb).form (by omega)
  injection hv9 with u1 u2 u3
  exact ⟨b9, o9, u1, hcy j y hy⟩
end Go.Proofs.Ytgoapmjcfdbjpaa
namespace Go.Proofs.Ytgoapmjcfdbjpaa
open Go.RowKit Go.MapKept Go.ChangeMaps
theorem card_uid {w w' : World} {a : Option Addr} {n c : Nat} {l : List GCard} (h : RowAt CardR 2 w (.slice a n c) l) (hn : l.length = n) (hb : Below w.heap.size w w') {j : Nat} {x : GCard} (hx : l[j]? = some x) : ∃ b o, a = some ⟨b, o, none⟩ ∧ w'.cell? ⟨b, o + j * 2, none⟩ = some (.string x.uid) := by
  have hj : j < l.length := (List.getElem?_eq_some_iff.1 hx).1
  obtain ⟨bb, o, c', hv, _, _, hbs, hcell⟩ := h.form (by omega) (by omega)
  injection hv with u1 u2 u3
  obtain ⟨ds, _, hcc, v1, rfl, hst⟩ := hcell j x hx
  exact ⟨bb, o, u1, (hb.cell (p := ⟨bb, _, none⟩) hbs).trans (by simpa using hcc 0 _ rfl)⟩
set_option maxRecDepth 100000 in
set_option maxHeartbeats 12800000 in
theorem refsRow_walk (v : Value) (l : List GCard) (a1 a2 : Int) (w : World) (h : RowAt CardR 2 w v l) (_h1 : (Lit.int .i64 a1).wf = true) (_h2 : (Lit.int .i64 a2).wf = true) (hbulk : (l.map cardB).sum + 1 ≤ 1048576) :
    Calls Try.prog 5 #[v, .int .i64 a1, .int .i64 a2] w fun e w' => e = .returned (.bool true) ∧ Below w.heap.size w w' := by
  have hok := okCards_bulk (l := l) (by omega)
  obtain ⟨al, cl, rfl, -, -⟩ := h.len
  have HOr := Lib.hid (refsOrder_any _ l w h hok)
  have HRow := Lib.hid h
  have Hok := Lib.hid hok
  have Hs := Lib.hid hok.2
  obtain ⟨c, Hc⟩ : ∃ c, Hid (refsE l = c) := ⟨_, Lib.hid rfl⟩
  rw [Hc.out] at HOr
  obtain ⟨nl, hnl⟩ : ∃ n, l.length = n := ⟨_, rfl⟩
  have hl0 := hok.1
  rw [hnl] at HOr HRow hl0 ⊢
  have Hnl := Lib.hid hnl
  clear h hok hnl hbulk _h1 _h2
  go_enter Try.func5, Try.ntmps5
  go_wp2_with fail
  refine HOr.out.mono ?_
  rintro e wa ⟨vr, row, E, rfl, hro, hre, hrg, hba⟩
  have HRo := Lib.hid hro
  have HRe := Lib.hid hre
  have HRg := Lib.hid hrg
  have HBa := Lib.hid hba
  have HOd := Lib.hid (odd_any wa)
  obtain ⟨ar, cr, hvr, -, -⟩ := hro.row.len
  obtain ⟨rn, hrn⟩ : ∃ n, row.length = n := ⟨_, rfl⟩
  rw [hrn] at hvr
  subst hvr
  have Hrn := Lib.hid hrn
  clear HOr hro hre hrg hba hrn
  go_wp2_with fail
  refine HOd.out.mono ?_
  rintro e wb ⟨rfl, hbb⟩
  have HBb := Lib.hid (HBa.out.trans (hbb.mono HBa.out.size))
  have HRb := Lib.hid (HRo.out.below stays_string hbb)
  have HCk := Lib.hid (refsCheck_any (.slice al nl cl) l wb (HRow.out.below stays_card HBb.out) Hok.out)
  rw [Hc.out] at HCk
  clear HOd hbb HRo
  go_wp2_with fail
  refine HCk.out.mono ?_
  rintro e wc ⟨rfl, hbc⟩
  have HBc := Lib.hid (HBb.out.trans (hbc.mono HBb.out.size))
  have HRc := Lib.hid (HRb.out.below stays_string hbc)
  clear HCk hbc HRb
  by_cases hc0 : c = 0
  · subst hc0
    have hgd : GoodL l := refsE_zero.1 Hc.out
    have Hgd := Lib.hid hgd
    have hrow := HRg.out rfl
    have Hrow := Lib.hid hrow
    clear hgd hrow HRg HRe
    by_cases hn0 : nl = 0
    · have hg0 : rn = 0 := by
        rcases Hrow.out with ⟨_, h9⟩ | ⟨_, h9⟩
        · rw [← Hrn.out, h9]; rfl
        · have h8 := h9.len Hgd.out.nodup
          rw [cds_len, Hrn.out, Hnl.out] at h8
          omega
      subst hn0
      subst hg0
      go_wp2_with fail
      go_ret
      exact ⟨by first | rfl | simp, HBc.out⟩
    · have t0 : ¬ ((nl : Int) = 0) := by omega
      have t1 : ((nl : Int) == 0) = false := by simpa using hn0
      have hr1 := restOf_in (a := a1) (b := (nl : Int)) (by omega)
      have hr2 := restOf_in (a := a2) (b := (nl : Int)) (by omega)
      obtain ⟨i, hi⟩ : ∃ i : Nat, restOf a1 (nl : Int) = (i : Int) := ⟨(restOf a1 (nl : Int)).toNat, by omega⟩
      obtain ⟨j, hj⟩ : ∃ j : Nat, restOf a2 (nl : Int) = (j : Int) := ⟨(restOf a2 (nl : Int)).toNat, by omega⟩
      have hil : i < nl := by omega
      have hjl : j < nl := by omega
      have HRe1 := Lib.hid (rest_any a1 (nl : Int) wc (by omega) (by omega))
      have HRe2 := Lib.hid (rest_any a2 (nl : Int) wc (by omega) (by omega))
      rw [hi] at HRe1
      rw [hj] at HRe2
      obtain ⟨x, hxi⟩ : ∃ x, l[i]? = some x := ⟨l[i]'(by rw [Hnl.out]; exact hil), List.getElem?_eq_getElem _⟩
      obtain ⟨y, hyj⟩ : ∃ y, l[j]? = some y := ⟨l[j]'(by rw [Hnl.out]; exact hjl), List.getElem?_eq_getElem _⟩
      obtain ⟨bb, o, hal, e0⟩ := card_uid HRow.out Hnl.out HBc.out hxi
      obtain ⟨bb2, o2, hal2, e1⟩ := card_uid HRow.out Hnl.out HBc.out hyj
      rw [hal] at hal2
      injection hal2 with hal3
      injection hal3 with k1 k2 k3
      subst k1
      subst k2
      subst hal
      have q1 : (0 : Int) ≤ (i : Int) := by omega
      have q2 : (i : Int) < (nl : Int) := by omega
      have q3 : (0 : Int) ≤ (j : Int) := by omega
      have q4 : (j : Int) < (nl : Int) := by omega
      obtain ⟨ka, hka⟩ : ∃ z, x.uid = z := ⟨_, rfl⟩
      obtain ⟨kb', hkb⟩ : ∃ z, y.uid = z := ⟨_, rfl⟩
      rw [hka] at e0
      rw [hkb] at e1
      have hain : ka ∈ l.map (·.uid) := by rw [← hka]; exact List.mem_map_of_mem (List.mem_of_getElem? hxi)
      have hbin : kb' ∈ l.map (·.uid) := by rw [← hkb]; exact List.mem_map_of_mem (List.mem_of_getElem? hyj)
      have HU1 := Lib.hid (refsUnder_any (.slice (some ⟨bb, o, none⟩) nl cl) l ka wc (HRow.out.below stays_card HBc.out) Hok.out Hgd.out hain)
      have hasz : ka.size ≤ 1048576 := by rw [← hka]; exact (Hs.out x (List.mem_of_getElem? hxi)).1
      have hbsz : kb'.size ≤ 1048576 := by rw [← hkb]; exact (Hs.out y (List.mem_of_getElem? hyj)).1
      have Hain := Lib.hid hain
      have Hbin := Lib.hid hbin
      clear hr1 hr2 hi hj hxi hyj hka hkb hn0 hain hbin
      go_wp2_with fail
      refine HRe1.out.mono ?_
      rintro e w9 ⟨rfl, hw9⟩
      subst hw9
      clear HRe1
      go_wp2_with fail
      refine HRe2.out.mono ?_
      rintro e w9 ⟨rfl, hw9⟩
      subst hw9
      clear HRe2
      go_wp2_with fail
      clear e0 e1
      refine HU1.out.mono ?_
      rintro e wd ⟨vx, xs, rfl, hxo, hxn, hxs, hbd⟩
      have HBd := Lib.hid (HBc.out.trans (hbd.mono HBc.out.size))
      have HRd := Lib.hid (HRc.out.below stays_string hbd)
      have HXd := Lib.hid hxo
      have Hxs := Lib.hid hxs
      obtain ⟨ax, cx, hvx, -, -⟩ := hxo.row.len
      obtain ⟨xn, hxl⟩ : ∃ n, xs.length = n := ⟨_, rfl⟩
      rw [hxl] at hvx
      subst hvx
      have hxnl : xn ≤ nl := by
        have h9 := Rf.nodup_len hxn (ks := Rf.uids (cds l)) fun s hs => ((hxs s).1 hs).uid
        rw [cds_uids, List.length_map, Hnl.out, hxl] at h9
        exact h9
      have Hxl := Lib.hid hxl
      have HU2 := Lib.hid (refsUnder_any (.slice (some ⟨bb, o, none⟩) nl cl) l kb' wd (HRow.out.below stays_card HBd.out) Hok.out Hgd.out Hbin.out)
      clear HU1 hxo hxn hxs hbd hxl HRc
      go_wp2_with fail
      refine HU2.out.mono ?_
      rintro e we ⟨vy, ys, rfl, hyo, hyn, hys, hbe⟩
      have HBe := Lib.hid (HBd.out.trans (hbe.mono HBd.out.size))
      have HRe := Lib.hid (HRd.out.below stays_string hbe).row.strs
      have HXe := Lib.hid (HXd.out.below stays_string hbe).row.strs
      have HYe := Lib.hid hyo.row.strs
      have Hys := Lib.hid hys
      obtain ⟨ay, cy, hvy, -, -⟩ := hyo.row.len
      obtain ⟨yn, hyl⟩ : ∃ n, ys.length = n := ⟨_, rfl⟩
      rw [hyl] at hvy
      subst hvy
      have hynl : yn ≤ nl := by
        have h9 := Rf.nodup_len hyn (ks := Rf.uids (cds l)) fun s hs => ((hys s).1 hs).uid
        rw [cds_uids, List.length_map, Hnl.out, hyl] at h9
        exact h9
      have Hyl := Lib.hid hyl
      have HC := Lib.hid (hasStr_any (.slice ax xn cx) xs kb' we HXe.out (by rw [Hxl.out]; omega))
      obtain ⟨cb, Hcb⟩ : ∃ cb, Hid (Lib.containsS xs kb' = cb) := ⟨_, Lib.hid rfl⟩
      rw [Hcb.out] at HC
      clear HU2 hyo hyn hys hbe hyl HXd HRd
      go_wp2_with fail
      refine HC.out.mono ?_
      rintro e w9 ⟨rfl, hw9⟩
      subst hw9
      clear HC
      go_upto_if 76 with fail
      go_cut [] (fun wx => we = wx)
      case first =>
        cases cb with
        | false =>
          go_wp2_with fail
          go_meet
          exact rfl
        | true =>
          have hcm : Hid (Rf.Comes (cds l) ka kb') := Lib.hid ((Hxs.out kb').1 ((Lib.containsS_iff _ _).1 Hcb.out))
          go_wp2_with fail
          go_loopg [79] yn (fun k u79 wr => ∃ t : Nat, t + k = yn ∧ u79 = .int .i64 (t : Int) ∧ wr = we)
          case atStart => exact ⟨0, by omega, rfl, rfl⟩
          case round =>
            obtain ⟨t, htk, rfl, rfl⟩ := hrel
            cases gk with
            | zero =>
              obtain rfl : yn = t := by omega
              go_wp2_with fail
              go_meet
              exact rfl
            | succ k =>
              have htl : t < yn := by omega
              obtain ⟨z, hz⟩ : ∃ z, ys[t]? = some z := ⟨ys[t]'(by rw [Hyl.out]; exact htl), List.getElem?_eq_getElem _⟩
              obtain ⟨b9, o9, u1, e0⟩ := str_cellR HYe.out Hyl.out (Below.refl _ wr) hz
              subst u1
              have q5 : (0 : Int) ≤ (t : Int) := by omega
              have q6 : (t : Int) < (yn : Int) := by omega
              have hin : z ∈ xs := (Hxs.out z).2 (hcm.out.trans ((Hys.out z).1 (List.mem_of_getElem? hz)))
              have HC2 := Lib.hid (hasStr_any (.slice ax xn cx) xs z wr HXe.out (by rw [Hxl.out]; omega))
              rw [hasB_of hin] at HC2
              clear hin hz
              go_wp2_with fail
              refine HC2.out.mono ?_
              rintro e w9 ⟨rfl, rfl⟩
              clear HC2
              go_wp2_with fail
              clear e0
              go_roundg k
              case measure => omega
              case rel => exact ⟨t + 1, by omega, by go_num, rfl⟩
      case rest =>
        obtain rfl := hcut
        clear HYe Hys Hyl hynl Hcb
        rcases Hrow.out with ⟨hE, hr0⟩ | ⟨hE, hIR⟩
        · subst hE
          subst hr0
          have hgn0 : rn = 0 := Hrn.out.symm
          subst hgn0
          go_wp2_with fail
          go_ret
          exact ⟨by first | rfl | simp, HBe.out⟩
        · subst hE
          have HIR := Lib.hid hIR
          have hrl : rn = nl := by
            have h8 := hIR.len Hgd.out.nodup
            rw [cds_len, Hrn.out, Hnl.out] at h8
            exact h8
          have hka : ka ∈ row := (hIR.2.1 ka).2 (by rw [cds_uids]; exact Hain.out)
          have hself : Lib.containsS xs ka = false := by
            cases hc : Lib.containsS xs ka with
            | false => rfl
            | true => exact absurd ((Hxs.out ka).1 ((Lib.containsS_iff _ _).1 hc)) (hIR.self hka)
          have HC := Lib.hid (hasStr_any (.slice ax xn cx) xs ka we HXe.out (by rw [Hxl.out]; omega))
          rw [hself] at HC
          have Hka := Lib.hid hka
          have hmm := @run_makeMap Try.prog
          subst hrl
          clear hIR hka hself Hrow
          go_wp2_with fail
          refine HC.out.mono ?_
          rintro e w9 ⟨rfl, hw9⟩
          subst hw9
          clear HC
          obtain ⟨dm, hdm⟩ : ∃ b, b = we.heap.size := ⟨_, rfl⟩
          obtain ⟨wf, hwf⟩ : ∃ z, z = we.alloc (.map #[] 0) := ⟨_, rfl⟩
          have hbf : Below we.heap.size we wf := by rw [hwf]; exact (Below.refl _ we).alloc (Nat.le_refl _) _
          have HM0 : Hid (MapS Try.prog 9 wf dm 0 fun _ => none) := Lib.hid (by rw [hwf, hdm]; exact mapS_made _ _ _)
          have HS0 : Hid (SeenM (fun _ => none) (row.take 0)) := Lib.hid fun s => by simp
          have HW0 : Hid (WaitF (fun _ => none) (Rf.doneW row 0)) := Lib.hid (by rw [Rf.doneW_zero]; exact waitF_zero)
          have HK0 : Hid (wf.grownBy wf (some dm)) := Lib.hid (grown_self wf _)
          have HRf := Lib.hid (HRe.out.below hbf)
          have HXf := Lib.hid (HXe.out.below hbf)
          have HBf := Lib.hid (HBe.out.trans (hbf.mono HBe.out.size))
          have Hmf : Hid (∃ es clock, wf.heap[dm]? = some (.map es clock)) := Lib.hid HM0.out.isMap
          have hwdm : w.heap.size ≤ dm := by have := HBe.out.size; omega
          go_upto_region 24 with fail
          rw [← hwf]
          try rw [← hdm]
          clear hwf hdm hbf hmm HRe HXe HBe
          go_wp2_with fail
          go_loopg [110] rn (fun k u110 wr => ∃ (t : Nat) (F : KB → Option Value), t + k = rn ∧ u110 = .int .i64 (t : Int) ∧ Hid (MapS Try.prog 9 wr dm t F) ∧ Hid (SeenM F (row.take t)) ∧ Hid (WaitF F (Rf.doneW row t)) ∧ Hid (wf.grownBy wr (some dm)))
          case atStart => exact ⟨0, _, by omega, rfl, HM0, HS0, HW0, HK0⟩
          case round =>
            clear HM0 HS0 HW0 HK0
            obtain ⟨t, F, htk, rfl, HM, HS, HW, HK⟩ := hrel
            cases gk with
            | zero =>
              obtain rfl : rn = t := by omega
              have htk9 : row.take rn = row := List.take_of_length_le (by rw [Hrn.out]; exact Nat.le_refl _)
              rw [htk9] at HS
              have HWa : Hid (∀ s ∈ row, (F s.data.toList).getD (.int .i64 0) = .int .i64 ((Rf.place row s + 1 : Nat) : Int)) := Lib.hid fun s hs => by
                rw [HW.out s, ← Rf.doneW_all row hs, Hrn.out]
              have HXr := Lib.hid (strAt_but HXf.out HK.out Hmf.out)
              have HBr : Hid (Below w.heap.size w wr) := Lib.hid (HBf.out.grown HK.out HBf.out.size fun q hq => by cases hq; exact hwdm)
              have hasz9 : ka.size ≤ maxLen := by unfold maxLen; omega
              have hlka := (MapS.look HM.out Try.underlying9 Try.underlying37 (Try.zeroIntR wr) ka hasz9).2
              rw [HWa.out ka Hka.out] at hlka
              obtain ⟨pa, hpa⟩ : ∃ z, Rf.place row ka = z := ⟨_, rfl⟩
              rw [hpa] at hlka
              have Hpa := Lib.hid hpa
              have Hlka := Lib.hid hlka
              obtain ⟨ks, hk1, hk2, -, hk4⟩ := MapS.keys HM.out Try.underlying9
              have hlen := fun ty => hk4 37 3 ty Try.underlying37
              rw [keys_len HS.out HIR.out.1 hk1 hk2, Hrn.out] at hlen
              have Hlen := Lib.hid hlen
              obtain ⟨wz, hwz⟩ : ∃ z, z = wr := ⟨_, rfl⟩
              rw [← hwz] at Hlka Hlen HM HXr HBr ⊢
              clear HW HK HXf hpa hlka hk1 hk2 hk4 hlen hwz
              go_wp2_with fail
              go_loopg [122] xn (fun k u122 wr5 => ∃ t : Nat, t + k = xn ∧ u122 = .int .i64 (t : Int) ∧ wr5 = wz)
              case atStart => exact ⟨0, by omega, rfl, rfl⟩
              case round =>
                obtain ⟨t, htk2, rfl, rfl⟩ := hrel
                cases gk with
                | zero =>
                  obtain rfl : xn = t := by omega
                  have hlen := Hlen.out
                  go_wp2_with fail
                  go_ret
                  exact ⟨by first | rfl | simp, HBr.out⟩
                | succ k =>
                  have htl : t < xn := by omega
                  obtain ⟨z, hz⟩ : ∃ z, xs[t]? = some z := ⟨xs[t]'(by rw [Hxl.out]; exact htl), List.getElem?_eq_getElem _⟩
                  obtain ⟨b9, o9, u1, e0⟩ := str_cellR HXr.out Hxl.out (Below.refl _ wr) hz
                  subst u1
                  have q5 : (0 : Int) ≤ (t : Int) := by omega
                  have q6 : (t : Int) < (xn : Int) := by omega
                  obtain ⟨hzr, hlt⟩ := HIR.out.before Hka.out ((Hxs.out z).1 (List.mem_of_getElem? hz))
                  have hzs : z.size ≤ 1048576 := by
                    have h9 := (HIR.out.2.1 z).1 hzr
                    rw [cds_uids] at h9
                    obtain ⟨x9, hx9, he9⟩ := List.mem_map.1 h9
                    rw [← he9]
                    exact (Hs.out x9 hx9).1
                  have hzs9 : z.size ≤ maxLen := by unfold maxLen; omega
                  have hlkz := (MapS.look HM.out Try.underlying9 Try.underlying37 (Try.zeroIntR wr) z hzs9).2
                  rw [HWa.out z hzr] at hlkz
                  obtain ⟨pz, hpz⟩ : ∃ z', Rf.place row z = z' := ⟨_, rfl⟩
                  rw [hpz] at hlkz
                  rw [hpz, Hpa.out] at hlt
                  have hlka := Hlka.out
                  have t2 : ¬ (((pz + 1 : Nat) : Int) = 0) := by omega
                  have t3 : (((pz + 1 : Nat) : Int) == 0) = false := by simpa using t2
                  have t4 : ¬ (((pa + 1 : Nat) : Int) ≤ ((pz + 1 : Nat) : Int)) := by omega
                  have t5 : ¬ ((pa : Int) + 1 ≤ (pz : Int) + 1) := by omega
                  have t6 : ¬ ((pz : Int) + 1 = 0) := by omega
                  have t7 : ((pz : Int) + 1 == 0) = false := by simpa using t6
                  clear hz hzr hpz
                  go_wp2_with fail
                  clear e0 hlka hlkz
                  go_roundg k
                  case measure => omega
                  case rel => exact ⟨t + 1, by omega, by go_num, rfl⟩
            | succ k =>
              have htl : t < rn := by omega
              obtain ⟨z, hz⟩ : ∃ z, row[t]? = some z := ⟨row[t]'(by rw [Hrn.out]; exact htl), List.getElem?_eq_getElem _⟩
              obtain ⟨b9, o9, u1, e0⟩ := str_cellR (strAt_but HRf.out HK.out Hmf.out) Hrn.out (Below.refl _ wr) hz
              subst u1
              have q5 : (0 : Int) ≤ (t : Int) := by omega
              have q6 : (t : Int) < (rn : Int) := by omega
              have hzs : z.size ≤ 1048576 := by
                have h9 := (HIR.out.2.1 z).1 (List.mem_of_getElem? hz)
                rw [cds_uids] at h9
                obtain ⟨x9, hx9, he9⟩ := List.mem_map.1 h9
                rw [← he9]
                exact (Hs.out x9 hx9).1
              have hzs9 : z.size ≤ maxLen := by unfold maxLen; omega
              have hms9 : t < maxLen := by unfold maxLen; omega
              have HS' : Hid (SeenM (updF F z.data.toList (.int .i64 ((t : Int) + 1))) (row.take (t + 1))) := Lib.hid (by rw [Rf.take_succ hz]; exact HS.out.add _ _)
              have HW' : Hid (WaitF (updF F z.data.toList (.int .i64 ((t : Int) + 1))) (Rf.doneW row (t + 1))) := Lib.hid (by
                rw [← Rf.doneW_more HIR.out.1 hz]
                exact HW.out.put z (t + 1))
              clear hz
              go_upto_region 28 with (at_mapUpdate; refine wpList_store_mapS _ (by rfl) _ _ _ 37 (by rfl) 9 3 Try.underlying9 Try.underlying37 dm t F (by rfl) HM.out hms9 z hzs9 (by rfl) (.int .i64 ((t : Int) + 1)) (by rfl) ?_; intro w8 hm8 ht8)
              have HM8 := Lib.hid hm8
              have HK8 := Lib.hid (grown_trans HK.out ht8.grown)
              clear hm8 ht8 e0 HM HK HS HW
              go_wp2_with fail
              go_roundg k
              case measure => omega
              case rel => exact ⟨t + 1, _, by omega, by go_num, HM8, HS', HW', HK8⟩
  · have qc : (c != 0) = true := by simp [hc0]
    have hg0 : row = [] := HRe.out hc0
    subst hg0
    have hgn0 : rn = 0 := Hrn.out.symm
    subst hgn0
    clear hc0
    go_wp2_with fail
    go_ret
    exact ⟨by first | rfl | simp, HBc.out⟩
end Go.Proofs.Ytgoapmjcfdbjpaa
