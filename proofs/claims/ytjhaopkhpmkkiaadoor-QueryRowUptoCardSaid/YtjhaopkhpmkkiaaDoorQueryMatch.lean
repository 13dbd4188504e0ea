/- query: all, Match; strange: their contracts. -/
import Derived.Test.YtjhaopkhpmkkiaaDoorQueryHolds
namespace Go.Proofs.YtjhaopkhpmkkiaaDoor
open Go.RowKit

set_option maxRecDepth 100000 in
set_option maxHeartbeats 3200000 in
theorem allReq_any (v vl : Value) (l : List GReq) (labels : List GLabel) (w : World) (h : RowAt ReqR 3 w v l) (hl : l.length ≤ 1048576) (hok : ∀ r ∈ l, okReq r) (hlab : RowAt LabelR 2 w vl labels) (hll : labels.length ≤ 1048576) :
    Calls Tryd.prog 30 #[v, vl] w fun e w' => e = .returned (.bool (l.all (holdsB labels))) ∧ Below w.heap.size w w' := by
  obtain ⟨a1, c1, rfl, _, _⟩ := h.len
  obtain ⟨al, cl, rfl, _, _⟩ := hlab.len
  obtain ⟨R, HR⟩ : ∃ R, Hid (l.all (holdsB labels) = R) := ⟨_, Lib.hid rfl⟩
  rw [HR.out]
  have H := Lib.hid h
  have Hlab := Lib.hid hlab
  have Hok := Lib.hid hok
  clear h hlab hok
  go_enter Tryd.func30, Tryd.ntmps30
  go_wp2_with fail
  go_loopg [9] l.length (fun k u9 wr => ∃ i : Nat, i + k = l.length ∧ u9 = .int .i64 (i : Int) ∧ Hid (∀ x ∈ l.take i, holdsB labels x = true) ∧ Hid (Below w.heap.size w wr))
  case atStart => exact ⟨0, by omega, rfl, Lib.hid (by simp), Lib.hid (Below.refl _ _)⟩
  case round =>
    obtain ⟨i, hig, rfl, Hall, Hbel⟩ := hrel
    have hsr := Hbel.out.size
    cases gk with
    | zero =>
      obtain rfl : i = l.length := by omega
      have HR5 : Hid (true = R) := Lib.hid (by
        rw [← HR.out, eq_comm, List.all_eq_true]
        intro x hx
        refine Hall.out x ?_
        rw [List.take_of_length_le (Nat.le_refl _)]; exact hx)
      go_wp2_with fail
      go_ret
      exact ⟨congrArg (fun b => Ending.returned (Value.bool b)) HR5.out, Hbel.out⟩
    | succ k =>
      have hil : i < l.length := by omega
      obtain ⟨x, hxi⟩ : ∃ x, l[i]? = some x := ⟨l[i]'(by omega), List.getElem?_eq_getElem _⟩
      obtain ⟨b, o, c', hv, _, _, hbs, hcell⟩ := H.out.form (by omega) (by omega)
      injection hv with u1 u2 u3
      subst u1
      clear u2 u3
      obtain ⟨ds, _, hcc, hR⟩ := hcell i x hxi
      have hR2 := stays_req _ _ _ _ (keeps_below Hbel.out) hR
      obtain ⟨y2, rfl, _, _⟩ := hR
      have e0 : wr.cell? ⟨b, o + i * 3, none⟩ = some (.string x.key) := (Hbel.out.cell (p := ⟨b, _, none⟩) hbs).trans (by simpa using hcc 0 _ rfl)
      have e1 : wr.cell? ⟨b, o + i * 3 + 1, none⟩ = some (.int .i64 x.kind) := (Hbel.out.cell (p := ⟨b, _, none⟩) hbs).trans (hcc 1 _ rfl)
      have e2 : wr.cell? ⟨b, o + i * 3 + 2, none⟩ = some y2 := (Hbel.out.cell (p := ⟨b, _, none⟩) hbs).trans (hcc 2 _ rfl)
      have q1 : (0 : Int) ≤ (i : Int) := by omega
      have q2 : (i : Int) < (l.length : Int) := by omega
      have HRx := Lib.hid hR2
      have Hxi := Lib.hid hxi
      obtain ⟨ao, co, rfl, _, _⟩ : ∃ ao co, y2 = .slice ao x.vals.length co ∧ True ∧ True := by
        obtain ⟨v2, h1, _, h2⟩ := hR2
        obtain ⟨ao, co, h3, _, _⟩ := h2.row.len
        injection h1 with _ h1; injection h1 with _ h1; injection h1 with h1 _
        exact ⟨ao, co, h1.trans h3, trivial, trivial⟩
      clear hcc hcell hxi hR2
      go_upto_region 4 with fail
      obtain ⟨W, hW⟩ : ∃ W, W = wr.alloc (.cells #[.string x.key, .int .i64 x.kind, .slice ao x.vals.length co] 33) := ⟨_, rfl⟩
      obtain ⟨gb, hgb⟩ : ∃ gb, gb = wr.heap.size := ⟨_, rfl⟩
      rw [← hW, ← hgb]
      have c0 : W.heap[gb]? = some (.cells #[.string x.key, .int .i64 x.kind, .slice ao x.vals.length co] 33 (0, 0)) := by rw [hW, hgb]; exact heap_alloc_new wr _
      have hb5 : Below wr.heap.size wr W := by rw [hW]; exact (Below.refl _ _).alloc (Nat.le_refl _) _
      have HW := Lib.hid (Hbel.out.trans (hb5.mono hsr))
      have HRW := Lib.hid (stays_req _ _ _ _ (keeps_below hb5) HRx.out)
      have cc := fun i => cell_block c0 i
      clear hW hgb hb5 c0 e0 e1 e2
      go_wp2_with fail
      refine (holds_any x _ _ labels W HRW.out (Hok.out x (List.mem_of_getElem? Hxi.out)) (Hlab.out.below stays_label HW.out) (by omega)).mono ?_
      rintro E w3 ⟨rfl, hb3⟩
      have Hb3 := Lib.hid (HW.out.trans (hb3.mono HW.out.size))
      obtain ⟨rE, HrE⟩ : ∃ rE, Hid (holdsB labels x = rE) := ⟨_, Lib.hid rfl⟩
      rw [HrE.out]
      clear hb3 cc
      cases rE with
      | true =>
        have Hall2 : Hid (∀ y ∈ l.take (i + 1), holdsB labels y = true) := Lib.hid fun y hy => by
          rw [List.take_add_one, Hxi.out] at hy
          rcases List.mem_append.1 hy with h | h
          · exact Hall.out y h
          · simp at h; subst h; exact HrE.out
        go_wp2_with fail
        go_roundg k
        case measure => omega
        case rel => exact ⟨i + 1, by omega, by go_num, Hall2, Hb3⟩
      | false =>
        have HR5 : Hid (false = R) := Lib.hid (by
          rw [← HR.out, eq_comm, List.all_eq_false]
          exact ⟨x, List.mem_of_getElem? Hxi.out, by rw [HrE.out]; simp⟩)
        go_wp2_with fail
        go_ret
        exact ⟨congrArg (fun b => Ending.returned (Value.bool b)) HR5.out, Hb3.out⟩
set_option maxRecDepth 100000 in
set_option maxHeartbeats 1600000 in
theorem match_any (v vl : Value) (l : List GReq) (labels : List GLabel) (m : Int) (w : World) (h : RowAt ReqR 3 w v l) (hl : l.length ≤ 1048576) (hok : ∀ r ∈ l, okReq r) (hlab : RowAt LabelR 2 w vl labels) (hll : labels.length ≤ 1048576) (hokl : ∀ x ∈ labels, okLab x) (hm : MaxOK m w) :
    Calls Tryd.prog 17 #[v, vl] w fun e w' => e = .returned (.tuple #[.bool (matchB l labels), .int .i64 (matchE l labels)]) ∧ Below w.heap.size w w' := by
  have hE : matchE l labels = if reqsE l = 0 then labelsE labels else reqsE l := rfl
  have hB : matchB l labels = (decide (matchE l labels = 0) && l.all (holdsB labels)) := rfl
  obtain ⟨ME, HME⟩ : ∃ ME, Hid (matchE l labels = ME) := ⟨_, Lib.hid rfl⟩
  obtain ⟨MB, HMB⟩ : ∃ MB, Hid (matchB l labels = MB) := ⟨_, Lib.hid rfl⟩
  rw [HME.out, HMB.out]
  rw [HME.out] at hE hB
  rw [HMB.out] at hB
  have HE := Lib.hid hE
  have HB := Lib.hid hB
  have H := Lib.hid h
  have Hlab := Lib.hid hlab
  have Hok := Lib.hid hok
  have Hokl := Lib.hid hokl
  have Hm := Lib.hid hm
  clear h hlab hok hokl hm hE hB
  go_enter Tryd.func17, Tryd.ntmps17
  go_wp2_with fail
  refine (checks_any v l m w H.out hl Hok.out Hm.out).mono ?_
  rintro E w1 ⟨rfl, hb1⟩
  have Hb1 := Lib.hid hb1
  obtain ⟨e1, He1⟩ : ∃ e1, Hid (reqsE l = e1) := ⟨_, Lib.hid rfl⟩
  rw [He1.out]
  clear hb1
  by_cases h1 : e1 = 0
  · subst h1
    have HE2 : Hid (ME = labelsE labels) := Lib.hid (by rw [HE.out, if_pos He1.out])
    go_wp2_with fail
    refine (labels_any vl labels m w1 (Hlab.out.below stays_label Hb1.out) hll Hokl.out (Hm.out.below Hb1.out)).mono ?_
    rintro E w2 ⟨rfl, hb2⟩
    have Hb2 := Lib.hid (Hb1.out.trans (hb2.mono Hb1.out.size))
    rw [← HE2.out]
    clear hb2
    by_cases h2 : ME = 0
    · subst h2
      have HB2 : Hid (l.all (holdsB labels) = MB) := Lib.hid (by rw [HB.out, decide_eq_true rfl, Bool.true_and])
      go_wp2_with fail
      refine (allReq_any v vl l labels w2 (H.out.below stays_req Hb2.out) hl Hok.out (Hlab.out.below stays_label Hb2.out) hll).mono ?_
      rintro E w3 ⟨rfl, hb3⟩
      have Hb3 := Lib.hid (Hb2.out.trans (hb3.mono Hb2.out.size))
      rw [HB2.out]
      clear hb3
      go_wp2_with fail
      go_ret2
      exact ⟨rfl, Hb3.out⟩
    · have q1 : (ME == 0) = false := by rw [beq_eq_false_iff_ne]; exact h2
      have q2 : (ME != 0) = true := by rw [bne_iff_ne]; exact h2
      have hB2 : MB = false := by rw [HB.out, decide_eq_false h2, Bool.false_and]
      subst hB2
      clear h2
      go_wp2_with fail
      go_ret2
      exact ⟨rfl, Hb2.out⟩
  · have q1 : (e1 == 0) = false := by rw [beq_eq_false_iff_ne]; exact h1
    have q2 : (e1 != 0) = true := by rw [bne_iff_ne]; exact h1
    have hE2 : ME = e1 := by rw [HE.out, He1.out, if_neg h1]
    have hB2 : MB = false := by rw [HB.out, hE2, decide_eq_false h1, Bool.false_and]
    subst hB2
    subst hE2
    clear h1
    go_wp2_with fail
    go_ret2
    exact ⟨rfl, Hb1.out⟩
set_option maxRecDepth 100000 in
theorem strange_any (m : Int) (w : World) (hm : MaxOK m w) :
    Calls Tryd.prog 9 #[] w fun e w' => e = .returned (.bool true) ∧ Below w.heap.size w w' := by
  have Hm := Lib.hid hm
  clear hm
  have hr : reqsE [⟨ByteArray.empty, 0, []⟩] = 6 := (reqsE_one _).trans reqE_empty
  go_enter Tryd.func9, Tryd.ntmps9
  go_wp2_with fail
  obtain ⟨w1, hw1⟩ : ∃ w1, w1 = w.alloc (.cells #[.string ⟨#[]⟩, .int .i64 0, .slice none 0 0] 33) := ⟨_, rfl⟩
  have b1 : w1.heap[w.heap.size]? = some (.cells #[.string ⟨#[]⟩, .int .i64 0, .slice none 0 0] 33 (0, 0)) := by rw [hw1]; exact heap_alloc_new w _
  have hb1 : Below w.heap.size w w1 := by rw [hw1]; exact (Below.refl _ _).alloc (Nat.le_refl _) _
  rw [← hw1]
  have hR : ReqR w1 [.string ⟨#[]⟩, .int .i64 0, .slice none 0 0] ⟨ByteArray.empty, 0, []⟩ := ⟨.slice none 0 0, rfl, by decide, StrAt.nil _⟩
  refine (checks_any _ [⟨ByteArray.empty, 0, []⟩] m w1 (RowAt.one b1 rfl hR) (by simp) (fun r hr => by
    rw [List.mem_singleton.1 hr]
    exact ⟨by decide, by decide, fun x hx => by cases hx⟩) (Hm.out.below hb1)).mono ?_
  rw [hr]
  rintro E w2 ⟨rfl, hb2⟩
  have Hb2 := Lib.hid (hb1.trans (hb2.mono hb1.size))
  clear hb1 hb2 hw1 b1 hR
  go_wp2_with fail
  go_ret
  exact ⟨rfl, Hb2.out⟩
end Go.Proofs.YtjhaopkhpmkkiaaDoor
