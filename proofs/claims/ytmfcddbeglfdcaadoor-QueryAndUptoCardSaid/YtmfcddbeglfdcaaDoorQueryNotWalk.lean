/- QueryNot: the law's walk. -/
import Derived.Test.YtmfcddbeglfdcaaDoorQueryMatch
namespace Go.Proofs.YtmfcddbeglfdcaaDoor
open Go.RowKit

theorem le_sum {x : Nat} : ∀ {l : List Nat}, x ∈ l → x ≤ l.sum
  | a :: r, h => by
    rw [List.sum_cons]
    rcases List.mem_cons.1 h with rfl | h
    · omega
    · have := le_sum h; omega
theorem okReq_of {r : GReq} (h : reqB r ≤ 1048576) : okReq r := by
  unfold reqB at h
  have h1 := total_length r.vals
  refine ⟨by omega, by omega, fun x hx => ?_⟩
  have := total_mem hx
  omega
theorem okLabs_of {l : List GLabel} (h : (l.map labelB).sum ≤ 1048576) : (∀ x ∈ l, okLab x) ∧ l.length ≤ 1048576 := by
  refine ⟨fun x hx => ?_, Nat.le_trans (sum_ge_length labelB (fun x => by unfold labelB; omega) l) h⟩
  have h1 : labelB x ≤ (l.map labelB).sum := le_sum (List.mem_map_of_mem hx)
  have h2 : labelB x = ((x.key.size + 1) + ((x.val.size + 1) + 0)) + 1 := rfl
  exact ⟨by omega, by omega⟩
set_option maxRecDepth 100000 in
set_option maxHeartbeats 3200000 in
theorem queryNot_walk (cs0 : Array Value) (r : GReq) (v1 : Value) (l : List GLabel) (w : World) (h0 : ReqR w cs0.toList r) (h1 : RowAt LabelR 2 w v1 l) (hbulk : reqB r + ((l.map labelB).sum + 1 + 0) ≤ 1048576) (hmax : ∃ m, MaxOK m w) :
    Calls Tryd.prog 5 #[.agg cs0, v1] w fun e w' => e = .returned (.bool true) ∧ Below w.heap.size w w' := by
  obtain ⟨m, hm⟩ := hmax
  obtain ⟨v2, hcs, hwf, hst⟩ := h0
  obtain rfl : cs0 = #[.string r.key, .int .i64 r.kind, v2] := Array.toList_inj.1 hcs
  have hokr : okReq r := okReq_of (by omega)
  obtain ⟨hokl, hll⟩ := okLabs_of (l := l) (by omega)
  have hR : ReqR w [.string r.key, .int .i64 r.kind, v2] r := ⟨v2, rfl, hwf, hst⟩
  obtain ⟨ao, c, rfl, _, _⟩ := hst.row.len
  obtain ⟨a1, c1, rfl, _, _⟩ := h1.len
  have H1 := Lib.hid h1
  have Hm := Lib.hid hm
  have Hokr := Lib.hid hokr
  have Hokl := Lib.hid hokl
  obtain ⟨kd, Hkd⟩ : ∃ kd, Hid (r.kind = kd) := ⟨_, Lib.hid rfl⟩
  have hR' : ReqR w [.string r.key, .int .i64 kd, .slice ao r.vals.length c] r := by rw [← Hkd.out]; exact hR
  have HR := Lib.hid hR'
  rw [Hkd.out] at hwf ⊢
  have hP := queryNot_plain r l
  have HP := Lib.hid hP
  clear h1 hm hR hR' hokr hokl hcs hst hbulk hP
  obtain ⟨w1, hw1⟩ : ∃ w1, w1 = w.alloc (.cells #[.string r.key, .int .i64 kd, .slice ao r.vals.length c] 33) := ⟨_, rfl⟩
  obtain ⟨g, hg⟩ : ∃ g, g = w.heap.size := ⟨_, rfl⟩
  have b1 : w1.heap[g]? = some (.cells #[.string r.key, .int .i64 kd, .slice ao r.vals.length c] 33 (0, 0)) := by rw [hw1, hg]; exact heap_alloc_new w _
  have hb1 : Below w.heap.size w w1 := by rw [hw1]; exact (Below.refl _ _).alloc (Nat.le_refl _) _
  have Hb1 := Lib.hid hb1
  have B1 := Lib.hid b1
  clear b1 hb1
  go_enter Tryd.func5, Tryd.ntmps5
  go_upto_region 1 with fail
  rw [← hw1]
  try rw [← hg]
  clear hw1 hg
  go_wp2_with fail
  refine (strange_any m w1 (Hm.out.below Hb1.out)).mono ?_
  rintro E w2 ⟨rfl, hb2⟩
  have Hb2 := Lib.hid (Hb1.out.trans (hb2.mono Hb1.out.size))
  have b2 := below_block hb2 B1.out
  have B2 := Lib.hid b2
  have cc := fun i => cell_block b2 i
  clear hb2
  go_upto_region 4 with fail
  obtain ⟨w3, hw3⟩ : ∃ w3, w3 = w2.alloc (.cells #[.string r.key, .int .i64 kd, .slice ao r.vals.length c] 33) := ⟨_, rfl⟩
  obtain ⟨g5, hg5⟩ : ∃ g5, g5 = w2.heap.size := ⟨_, rfl⟩
  have b3 : w3.heap[g5]? = some (.cells #[.string r.key, .int .i64 kd, .slice ao r.vals.length c] 33 (0, 0)) := by rw [hw3, hg5]; exact heap_alloc_new w2 _
  have hb3' : Below w2.heap.size w2 w3 := by rw [hw3]; exact (Below.refl _ _).alloc (Nat.le_refl _) _
  have hb3 : Below w.heap.size w w3 := Hb2.out.trans (hb3'.mono Hb2.out.size)
  have g3 := below_block hb3' b2
  have hne : g ≠ g5 := fun e => by
    have h1 := (Array.getElem?_eq_some_iff.1 b2).1
    omega
  have hg5w : w.heap.size ≤ g5 := by have := Hb2.out.size; omega
  rw [← hw3, ← hg5]
  clear cc hw3 hg5 hb3' b2
  have cc := fun i => cell_block g3 i
  have c5 := fun i => cell_block b3 i
  have f5 := fun i => free_block b3 i
  have B3 := Lib.hid b3
  have G3 := Lib.hid g3
  have Hb3 := Lib.hid hb3
  have Hwf := Lib.hid hwf
  have hset : ∀ k : Int, (w3.setCell ⟨g5, 1, none⟩ (.int .i64 k)).heap[g5]? = some (.cells #[.string r.key, .int .i64 k, .slice ao r.vals.length c] 33 (0, 0)) ∧ (w3.setCell ⟨g5, 1, none⟩ (.int .i64 k)).heap[g]? = some (.cells #[.string r.key, .int .i64 kd, .slice ao r.vals.length c] 33 (0, 0)) ∧ Below w.heap.size w (w3.setCell ⟨g5, 1, none⟩ (.int .i64 k)) := fun k => by
    have t := touch_setCell (i := 1) (v := .int .i64 k) B3.out
    exact ⟨t.1, (t.2.other g hne).trans G3.out, t.2.below Hb3.out hg5w⟩
  have Hset := Lib.hid hset
  clear b3 g3 hb3 hset hwf
  have way : kd = 1 ∨ (kd == 1) = false ∧ kd = 3 ∨ (kd == 1) = false ∧ (kd == 3) = false ∧ kd = 2 ∨ (kd == 1) = false ∧ (kd == 3) = false ∧ (kd == 2) = false ∧ kd = 4 ∨ (kd == 1) = false ∧ (kd == 3) = false ∧ (kd == 2) = false ∧ (kd == 4) = false ∧ oppK kd = kd := by
    simp only [beq_eq_false_iff_ne]
    by_cases h1 : kd = 1
    · exact .inl h1
    · by_cases h3 : kd = 3
      · exact .inr (.inl ⟨h1, h3⟩)
      · by_cases h2 : kd = 2
        · exact .inr (.inr (.inl ⟨h1, h3, h2⟩))
        · by_cases h4 : kd = 4
          · exact .inr (.inr (.inr (.inl ⟨h1, h3, h2, h4⟩)))
          · exact .inr (.inr (.inr (.inr ⟨h1, h3, h2, h4, by unfold oppK; rw [if_neg (by omega), if_neg (by omega)]⟩)))
  rcases way with rfl | ⟨_, rfl⟩ | ⟨_, _, rfl⟩ | ⟨_, _, _, rfl⟩ | ⟨k1, k3, k2, k4, hopp⟩
  · have HK : Hid (oppK r.kind = 2) := Lib.hid (by rw [Hkd.out]; rfl)
    have Hwf : Hid ((Lit.int .i64 2).wf = true) := Lib.hid (by decide)
    go_upto_region 11 with fail
    obtain ⟨b4, g4, hb4⟩ := Hset.out 2
    generalize w3.setCell _ _ = w4 at b4 g4 hb4 ⊢
    clear c5 f5
    have b4' := b4
    have hR4 : ReqR w4 [.string r.key, .int .i64 2, .slice ao r.vals.length c] (oppR r) := by
      obtain ⟨v2, e1, e2, e3⟩ := stays_req _ _ _ _ (keeps_below hb4) HR.out
      refine ⟨.slice ao r.vals.length c, by rw [show (oppR r).kind = 2 from HK.out]; rfl, ?_, ?_⟩
      · rw [show (oppR r).kind = 2 from HK.out]; exact Hwf.out
      · injection e1 with _ e1; injection e1 with _ e1; injection e1 with e1 _
        rw [e1]; exact e3
    have hR4r := stays_req _ _ _ _ (keeps_below hb4) HR.out
    have Hb4 := Lib.hid hb4
    have HR4 := Lib.hid hR4
    have HR4r := Lib.hid hR4r
    clear cc
    have cc := fun i => cell_block g4 i
    have c5 := fun i => cell_block b4 i
    have B4 := Lib.hid b4
    have G4 := Lib.hid g4
    clear hb4 hR4 hR4r b4' b4 g4
    go_wp2_with fail
    obtain ⟨w5, hw5⟩ : ∃ w5, w5 = w4.alloc (.cells #[.string r.key, .int .i64 1, .slice ao r.vals.length c] 33) := ⟨_, rfl⟩
    have b5 : w5.heap[w4.heap.size]? = some (.cells #[.string r.key, .int .i64 1, .slice ao r.vals.length c] 33 (0, 0)) := by rw [hw5]; exact heap_alloc_new w4 _
    have hb5' : Below w4.heap.size w4 w5 := by rw [hw5]; exact (Below.refl _ _).alloc (Nat.le_refl _) _
    have hb5 : Below w.heap.size w w5 := Hb4.out.trans (hb5'.mono Hb4.out.size)
    have d5 := below_block hb5' B4.out
    rw [← hw5]
    refine (match_any _ _ [r] l m w5 (RowAt.one b5 rfl (by exact stays_req _ _ _ _ (keeps_below hb5') HR4r.out)) (by simp) (fun x hx => by rw [List.mem_singleton.1 hx]; exact Hokr.out) (H1.out.below stays_label hb5) hll Hokl.out (Hm.out.below hb5)).mono ?_
    rintro E w6 ⟨rfl, hb6'⟩
    have Hb6 := Lib.hid (hb5.trans (hb6'.mono hb5.size))
    have d6 := below_block hb6' d5
    have HR6 := Lib.hid (stays_req _ _ _ _ (keeps_below (hb5'.trans (hb6'.mono hb5'.size))) HR4.out)
    clear cc c5 hw5 b5 hb5' hb5 d5 hb6'
    have cc := fun i => cell_block d6 i
    clear d6
    go_wp2_with fail
    obtain ⟨w7, hw7⟩ : ∃ w7, w7 = w6.alloc (.cells #[.string r.key, .int .i64 2, .slice ao r.vals.length c] 33) := ⟨_, rfl⟩
    have b7 : w7.heap[w6.heap.size]? = some (.cells #[.string r.key, .int .i64 2, .slice ao r.vals.length c] 33 (0, 0)) := by rw [hw7]; exact heap_alloc_new w6 _
    have hb7' : Below w6.heap.size w6 w7 := by rw [hw7]; exact (Below.refl _ _).alloc (Nat.le_refl _) _
    have hb7 : Below w.heap.size w w7 := Hb6.out.trans (hb7'.mono Hb6.out.size)
    rw [← hw7]
    refine (match_any _ _ [oppR r] l m w7 (RowAt.one b7 rfl (stays_req _ _ _ _ (keeps_below hb7') HR6.out)) (by simp) (fun x hx => by rw [List.mem_singleton.1 hx]; exact Hokr.out) (H1.out.below stays_label hb7) hll Hokl.out (Hm.out.below hb7)).mono ?_
    rintro E w8 ⟨rfl, hb8'⟩
    have Hb8 := Lib.hid (hb7.trans (hb8'.mono hb7.size))
    clear cc hw7 b7 hb7' hb7 hb8'
    obtain ⟨x, Hx⟩ : ∃ x, Hid (matchB [r] l = x) := ⟨_, Lib.hid rfl⟩
    obtain ⟨y, Hy⟩ : ∃ y, Hid (matchB [oppR r] l = y) := ⟨_, Lib.hid rfl⟩
    obtain ⟨e, He⟩ : ∃ e, Hid (matchE [r] l = e) := ⟨_, Lib.hid rfl⟩
    obtain ⟨f, Hf⟩ : ∃ f, Hid (matchE [oppR r] l = f) := ⟨_, Lib.hid rfl⟩
    have hp := HP.out
    rw [Hx.out, Hy.out, He.out, Hf.out] at hp
    rw [Hx.out, Hy.out, He.out, Hf.out]
    clear Hx Hy He Hf
    by_cases h0 : e ≠ 0 ∨ f ≠ 0
    · rw [if_pos h0, Bool.and_eq_true, Bool.and_eq_true, Bool.not_eq_true', Bool.not_eq_true', beq_iff_eq] at hp
      obtain ⟨rfl, rfl, rfl⟩ := hp
      have h1 : e ≠ 0 := by rcases h0 with h | h <;> exact h
      have q1 : (e == 0) = false := by rw [beq_eq_false_iff_ne]; exact h1
      have q2 : (e != 0) = true := by rw [bne_iff_ne]; exact h1
      have q3 : (e == e) = true := by simp
      clear h0 h1
      go_wp2_with fail
      go_ret
      exact ⟨by simp, Hb8.out⟩
    · have he : e = 0 := by omega
      have hf : f = 0 := by omega
      rw [if_neg h0] at hp
      subst he
      subst hf
      clear h0
      cases x <;> cases y
      all_goals first | (exact absurd hp (by decide)) | skip
      all_goals
        clear hp
        go_wp2_with fail
        go_ret
        exact ⟨rfl, Hb8.out⟩
  · have HK : Hid (oppK r.kind = 4) := Lib.hid (by rw [Hkd.out]; rfl)
    have Hwf : Hid ((Lit.int .i64 4).wf = true) := Lib.hid (by decide)
    go_upto_region 11 with fail
    obtain ⟨b4, g4, hb4⟩ := Hset.out 4
    generalize w3.setCell _ _ = w4 at b4 g4 hb4 ⊢
    clear c5 f5
    have b4' := b4
    have hR4 : ReqR w4 [.string r.key, .int .i64 4, .slice ao r.vals.length c] (oppR r) := by
      obtain ⟨v2, e1, e2, e3⟩ := stays_req _ _ _ _ (keeps_below hb4) HR.out
      refine ⟨.slice ao r.vals.length c, by rw [show (oppR r).kind = 4 from HK.out]; rfl, ?_, ?_⟩
      · rw [show (oppR r).kind = 4 from HK.out]; exact Hwf.out
      · injection e1 with _ e1; injection e1 with _ e1; injection e1 with e1 _
        rw [e1]; exact e3
    have hR4r := stays_req _ _ _ _ (keeps_below hb4) HR.out
    have Hb4 := Lib.hid hb4
    have HR4 := Lib.hid hR4
    have HR4r := Lib.hid hR4r
    clear cc
    have cc := fun i => cell_block g4 i
    have c5 := fun i => cell_block b4 i
    have B4 := Lib.hid b4
    have G4 := Lib.hid g4
    clear hb4 hR4 hR4r b4' b4 g4
    go_wp2_with fail
    obtain ⟨w5, hw5⟩ : ∃ w5, w5 = w4.alloc (.cells #[.string r.key, .int .i64 3, .slice ao r.vals.length c] 33) := ⟨_, rfl⟩
    have b5 : w5.heap[w4.heap.size]? = some (.cells #[.string r.key, .int .i64 3, .slice ao r.vals.length c] 33 (0, 0)) := by rw [hw5]; exact heap_alloc_new w4 _
    have hb5' : Below w4.heap.size w4 w5 := by rw [hw5]; exact (Below.refl _ _).alloc (Nat.le_refl _) _
    have hb5 : Below w.heap.size w w5 := Hb4.out.trans (hb5'.mono Hb4.out.size)
    have d5 := below_block hb5' B4.out
    rw [← hw5]
    refine (match_any _ _ [r] l m w5 (RowAt.one b5 rfl (by exact stays_req _ _ _ _ (keeps_below hb5') HR4r.out)) (by simp) (fun x hx => by rw [List.mem_singleton.1 hx]; exact Hokr.out) (H1.out.below stays_label hb5) hll Hokl.out (Hm.out.below hb5)).mono ?_
    rintro E w6 ⟨rfl, hb6'⟩
    have Hb6 := Lib.hid (hb5.trans (hb6'.mono hb5.size))
    have d6 := below_block hb6' d5
    have HR6 := Lib.hid (stays_req _ _ _ _ (keeps_below (hb5'.trans (hb6'.mono hb5'.size))) HR4.out)
    clear cc c5 hw5 b5 hb5' hb5 d5 hb6'
    have cc := fun i => cell_block d6 i
    clear d6
    go_wp2_with fail
    obtain ⟨w7, hw7⟩ : ∃ w7, w7 = w6.alloc (.cells #[.string r.key, .int .i64 4, .slice ao r.vals.length c] 33) := ⟨_, rfl⟩
    have b7 : w7.heap[w6.heap.size]? = some (.cells #[.string r.key, .int .i64 4, .slice ao r.vals.length c] 33 (0, 0)) := by rw [hw7]; exact heap_alloc_new w6 _
    have hb7' : Below w6.heap.size w6 w7 := by rw [hw7]; exact (Below.refl _ _).alloc (Nat.le_refl _) _
    have hb7 : Below w.heap.size w w7 := Hb6.out.trans (hb7'.mono Hb6.out.size)
    rw [← hw7]
    refine (match_any _ _ [oppR r] l m w7 (RowAt.one b7 rfl (stays_req _ _ _ _ (keeps_below hb7') HR6.out)) (by simp) (fun x hx => by rw [List.mem_singleton.1 hx]; exact Hokr.out) (H1.out.below stays_label hb7) hll Hokl.out (Hm.out.below hb7)).mono ?_
    rintro E w8 ⟨rfl, hb8'⟩
    have Hb8 := Lib.hid (hb7.trans (hb8'.mono hb7.size))
    clear cc hw7 b7 hb7' hb7 hb8'
    obtain ⟨x, Hx⟩ : ∃ x, Hid (matchB [r] l = x) := ⟨_, Lib.hid rfl⟩
    obtain ⟨y, Hy⟩ : ∃ y, Hid (matchB [oppR r] l = y) := ⟨_, Lib.hid rfl⟩
    obtain ⟨e, He⟩ : ∃ e, Hid (matchE [r] l = e) := ⟨_, Lib.hid rfl⟩
    obtain ⟨f, Hf⟩ : ∃ f, Hid (matchE [oppR r] l = f) := ⟨_, Lib.hid rfl⟩
    have hp := HP.out
    rw [Hx.out, Hy.out, He.out, Hf.out] at hp
    rw [Hx.out, Hy.out, He.out, Hf.out]
    clear Hx Hy He Hf
    by_cases h0 : e ≠ 0 ∨ f ≠ 0
    · rw [if_pos h0, Bool.and_eq_true, Bool.and_eq_true, Bool.not_eq_true', Bool.not_eq_true', beq_iff_eq] at hp
      obtain ⟨rfl, rfl, rfl⟩ := hp
      have h1 : e ≠ 0 := by rcases h0 with h | h <;> exact h
      have q1 : (e == 0) = false := by rw [beq_eq_false_iff_ne]; exact h1
      have q2 : (e != 0) = true := by rw [bne_iff_ne]; exact h1
      have q3 : (e == e) = true := by simp
      clear h0 h1
      go_wp2_with fail
      go_ret
      exact ⟨by simp, Hb8.out⟩
    · have he : e = 0 := by omega
      have hf : f = 0 := by omega
      rw [if_neg h0] at hp
      subst he
      subst hf
      clear h0
      cases x <;> cases y
      all_goals first | (exact absurd hp (by decide)) | skip
      all_goals
        clear hp
        go_wp2_with fail
        go_ret
        exact ⟨rfl, Hb8.out⟩
  · have HK : Hid (oppK r.kind = 1) := Lib.hid (by rw [Hkd.out]; rfl)
    have Hwf : Hid ((Lit.int .i64 1).wf = true) := Lib.hid (by decide)
    go_upto_region 11 with fail
    obtain ⟨b4, g4, hb4⟩ := Hset.out 1
    generalize w3.setCell _ _ = w4 at b4 g4 hb4 ⊢
    clear c5 f5
    have b4' := b4
    have hR4 : ReqR w4 [.string r.key, .int .i64 1, .slice ao r.vals.length c] (oppR r) := by
      obtain ⟨v2, e1, e2, e3⟩ := stays_req _ _ _ _ (keeps_below hb4) HR.out
      refine ⟨.slice ao r.vals.length c, by rw [show (oppR r).kind = 1 from HK.out]; rfl, ?_, ?_⟩
      · rw [show (oppR r).kind = 1 from HK.out]; exact Hwf.out
      · injection e1 with _ e1; injection e1 with _ e1; injection e1 with e1 _
        rw [e1]; exact e3
    have hR4r := stays_req _ _ _ _ (keeps_below hb4) HR.out
    have Hb4 := Lib.hid hb4
    have HR4 := Lib.hid hR4
    have HR4r := Lib.hid hR4r
    clear cc
    have cc := fun i => cell_block g4 i
    have c5 := fun i => cell_block b4 i
    have B4 := Lib.hid b4
    have G4 := Lib.hid g4
    clear hb4 hR4 hR4r b4' b4 g4
    go_wp2_with fail
    obtain ⟨w5, hw5⟩ : ∃ w5, w5 = w4.alloc (.cells #[.string r.key, .int .i64 2, .slice ao r.vals.length c] 33) := ⟨_, rfl⟩
    have b5 : w5.heap[w4.heap.size]? = some (.cells #[.string r.key, .int .i64 2, .slice ao r.vals.length c] 33 (0, 0)) := by rw [hw5]; exact heap_alloc_new w4 _
    have hb5' : Below w4.heap.size w4 w5 := by rw [hw5]; exact (Below.refl _ _).alloc (Nat.le_refl _) _
    have hb5 : Below w.heap.size w w5 := Hb4.out.trans (hb5'.mono Hb4.out.size)
    have d5 := below_block hb5' B4.out
    rw [← hw5]
    refine (match_any _ _ [r] l m w5 (RowAt.one b5 rfl (by exact stays_req _ _ _ _ (keeps_below hb5') HR4r.out)) (by simp) (fun x hx => by rw [List.mem_singleton.1 hx]; exact Hokr.out) (H1.out.below stays_label hb5) hll Hokl.out (Hm.out.below hb5)).mono ?_
    rintro E w6 ⟨rfl, hb6'⟩
    have Hb6 := Lib.hid (hb5.trans (hb6'.mono hb5.size))
    have d6 := below_block hb6' d5
    have HR6 := Lib.hid (stays_req _ _ _ _ (keeps_below (hb5'.trans (hb6'.mono hb5'.size))) HR4.out)
    clear cc c5 hw5 b5 hb5' hb5 d5 hb6'
    have cc := fun i => cell_block d6 i
    clear d6
    go_wp2_with fail
    obtain ⟨w7, hw7⟩ : ∃ w7, w7 = w6.alloc (.cells #[.string r.key, .int .i64 1, .slice ao r.vals.length c] 33) := ⟨_, rfl⟩
    have b7 : w7.heap[w6.heap.size]? = some (.cells #[.string r.key, .int .i64 1, .slice ao r.vals.length c] 33 (0, 0)) := by rw [hw7]; exact heap_alloc_new w6 _
    have hb7' : Below w6.heap.size w6 w7 := by rw [hw7]; exact (Below.refl _ _).alloc (Nat.le_refl _) _
    have hb7 : Below w.heap.size w w7 := Hb6.out.trans (hb7'.mono Hb6.out.size)
    rw [← hw7]
    refine (match_any _ _ [oppR r] l m w7 (RowAt.one b7 rfl (stays_req _ _ _ _ (keeps_below hb7') HR6.out)) (by simp) (fun x hx => by rw [List.mem_singleton.1 hx]; exact Hokr.out) (H1.out.below stays_label hb7) hll Hokl.out (Hm.out.below hb7)).mono ?_
    rintro E w8 ⟨rfl, hb8'⟩
    have Hb8 := Lib.hid (hb7.trans (hb8'.mono hb7.size))
    clear cc hw7 b7 hb7' hb7 hb8'
    obtain ⟨x, Hx⟩ : ∃ x, Hid (matchB [r] l = x) := ⟨_, Lib.hid rfl⟩
    obtain ⟨y, Hy⟩ : ∃ y, Hid (matchB [oppR r] l = y) := ⟨_, Lib.hid rfl⟩
    obtain ⟨e, He⟩ : ∃ e, Hid (matchE [r] l = e) := ⟨_, Lib.hid rfl⟩
    obtain ⟨f, Hf⟩ : ∃ f, Hid (matchE [oppR r] l = f) := ⟨_, Lib.hid rfl⟩
    have hp := HP.out
    rw [Hx.out, Hy.out, He.out, Hf.out] at hp
    rw [Hx.out, Hy.out, He.out, Hf.out]
    clear Hx Hy He Hf
    by_cases h0 : e ≠ 0 ∨ f ≠ 0
    · rw [if_pos h0, Bool.and_eq_true, Bool.and_eq_true, Bool.not_eq_true', Bool.not_eq_true', beq_iff_eq] at hp
      obtain ⟨rfl, rfl, rfl⟩ := hp
      have h1 : e ≠ 0 := by rcases h0 with h | h <;> exact h
      have q1 : (e == 0) = false := by rw [beq_eq_false_iff_ne]; exact h1
      have q2 : (e != 0) = true := by rw [bne_iff_ne]; exact h1
      have q3 : (e == e) = true := by simp
      clear h0 h1
      go_wp2_with fail
      go_ret
      exact ⟨by simp, Hb8.out⟩
    · have he : e = 0 := by omega
      have hf : f = 0 := by omega
      rw [if_neg h0] at hp
      subst he
      subst hf
      clear h0
      cases x <;> cases y
      all_goals first | (exact absurd hp (by decide)) | skip
      all_goals
        clear hp
        go_wp2_with fail
        go_ret
        exact ⟨rfl, Hb8.out⟩
  · have HK : Hid (oppK r.kind = 3) := Lib.hid (by rw [Hkd.out]; rfl)
    have Hwf : Hid ((Lit.int .i64 3).wf = true) := Lib.hid (by decide)
    go_upto_region 11 with fail
    obtain ⟨b4, g4, hb4⟩ := Hset.out 3
    generalize w3.setCell _ _ = w4 at b4 g4 hb4 ⊢
    clear c5 f5
    have b4' := b4
    have hR4 : ReqR w4 [.string r.key, .int .i64 3, .slice ao r.vals.length c] (oppR r) := by
      obtain ⟨v2, e1, e2, e3⟩ := stays_req _ _ _ _ (keeps_below hb4) HR.out
      refine ⟨.slice ao r.vals.length c, by rw [show (oppR r).kind = 3 from HK.out]; rfl, ?_, ?_⟩
      · rw [show (oppR r).kind = 3 from HK.out]; exact Hwf.out
      · injection e1 with _ e1; injection e1 with _ e1; injection e1 with e1 _
        rw [e1]; exact e3
    have hR4r := stays_req _ _ _ _ (keeps_below hb4) HR.out
    have Hb4 := Lib.hid hb4
    have HR4 := Lib.hid hR4
    have HR4r := Lib.hid hR4r
    clear cc
    have cc := fun i => cell_block g4 i
    have c5 := fun i => cell_block b4 i
    have B4 := Lib.hid b4
    have G4 := Lib.hid g4
    clear hb4 hR4 hR4r b4' b4 g4
    go_wp2_with fail
    obtain ⟨w5, hw5⟩ : ∃ w5, w5 = w4.alloc (.cells #[.string r.key, .int .i64 4, .slice ao r.vals.length c] 33) := ⟨_, rfl⟩
    have b5 : w5.heap[w4.heap.size]? = some (.cells #[.string r.key, .int .i64 4, .slice ao r.vals.length c] 33 (0, 0)) := by rw [hw5]; exact heap_alloc_new w4 _
    have hb5' : Below w4.heap.size w4 w5 := by rw [hw5]; exact (Below.refl _ _).alloc (Nat.le_refl _) _
    have hb5 : Below w.heap.size w w5 := Hb4.out.trans (hb5'.mono Hb4.out.size)
    have d5 := below_block hb5' B4.out
    rw [← hw5]
    refine (match_any _ _ [r] l m w5 (RowAt.one b5 rfl (by exact stays_req _ _ _ _ (keeps_below hb5') HR4r.out)) (by simp) (fun x hx => by rw [List.mem_singleton.1 hx]; exact Hokr.out) (H1.out.below stays_label hb5) hll Hokl.out (Hm.out.below hb5)).mono ?_
    rintro E w6 ⟨rfl, hb6'⟩
    have Hb6 := Lib.hid (hb5.trans (hb6'.mono hb5.size))
    have d6 := below_block hb6' d5
    have HR6 := Lib.hid (stays_req _ _ _ _ (keeps_below (hb5'.trans (hb6'.mono hb5'.size))) HR4.out)
    clear cc c5 hw5 b5 hb5' hb5 d5 hb6'
    have cc := fun i => cell_block d6 i
    clear d6
    go_wp2_with fail
    obtain ⟨w7, hw7⟩ : ∃ w7, w7 = w6.alloc (.cells #[.string r.key, .int .i64 3, .slice ao r.vals.length c] 33) := ⟨_, rfl⟩
    have b7 : w7.heap[w6.heap.size]? = some (.cells #[.string r.key, .int .i64 3, .slice ao r.vals.length c] 33 (0, 0)) := by rw [hw7]; exact heap_alloc_new w6 _
    have hb7' : Below w6.heap.size w6 w7 := by rw [hw7]; exact (Below.refl _ _).alloc (Nat.le_refl _) _
    have hb7 : Below w.heap.size w w7 := Hb6.out.trans (hb7'.mono Hb6.out.size)
    rw [← hw7]
    refine (match_any _ _ [oppR r] l m w7 (RowAt.one b7 rfl (stays_req _ _ _ _ (keeps_below hb7') HR6.out)) (by simp) (fun x hx => by rw [List.mem_singleton.1 hx]; exact Hokr.out) (H1.out.below stays_label hb7) hll Hokl.out (Hm.out.below hb7)).mono ?_
    rintro E w8 ⟨rfl, hb8'⟩
    have Hb8 := Lib.hid (hb7.trans (hb8'.mono hb7.size))
    clear cc hw7 b7 hb7' hb7 hb8'
    obtain ⟨x, Hx⟩ : ∃ x, Hid (matchB [r] l = x) := ⟨_, Lib.hid rfl⟩
    obtain ⟨y, Hy⟩ : ∃ y, Hid (matchB [oppR r] l = y) := ⟨_, Lib.hid rfl⟩
    obtain ⟨e, He⟩ : ∃ e, Hid (matchE [r] l = e) := ⟨_, Lib.hid rfl⟩
    obtain ⟨f, Hf⟩ : ∃ f, Hid (matchE [oppR r] l = f) := ⟨_, Lib.hid rfl⟩
    have hp := HP.out
    rw [Hx.out, Hy.out, He.out, Hf.out] at hp
    rw [Hx.out, Hy.out, He.out, Hf.out]
    clear Hx Hy He Hf
    by_cases h0 : e ≠ 0 ∨ f ≠ 0
    · rw [if_pos h0, Bool.and_eq_true, Bool.and_eq_true, Bool.not_eq_true', Bool.not_eq_true', beq_iff_eq] at hp
      obtain ⟨rfl, rfl, rfl⟩ := hp
      have h1 : e ≠ 0 := by rcases h0 with h | h <;> exact h
      have q1 : (e == 0) = false := by rw [beq_eq_false_iff_ne]; exact h1
      have q2 : (e != 0) = true := by rw [bne_iff_ne]; exact h1
      have q3 : (e == e) = true := by simp
      clear h0 h1
      go_wp2_with fail
      go_ret
      exact ⟨by simp, Hb8.out⟩
    · have he : e = 0 := by omega
      have hf : f = 0 := by omega
      rw [if_neg h0] at hp
      subst he
      subst hf
      clear h0
      cases x <;> cases y
      all_goals first | (exact absurd hp (by decide)) | skip
      all_goals
        clear hp
        go_wp2_with fail
        go_ret
        exact ⟨rfl, Hb8.out⟩
  · have HK : Hid (oppK r.kind = kd) := Lib.hid (by rw [Hkd.out]; exact hopp)
    clear hopp
    go_upto_region 11 with fail
    have b4 := B3.out
    have g4 := G3.out
    have hb4 := Hb3.out
    clear c5 f5
    have b4' := b4
    have hR4 : ReqR w3 [.string r.key, .int .i64 kd, .slice ao r.vals.length c] (oppR r) := by
      obtain ⟨v2, e1, e2, e3⟩ := stays_req _ _ _ _ (keeps_below hb4) HR.out
      refine ⟨.slice ao r.vals.length c, by rw [show (oppR r).kind = kd from HK.out]; rfl, ?_, ?_⟩
      · rw [show (oppR r).kind = kd from HK.out]; exact Hwf.out
      · injection e1 with _ e1; injection e1 with _ e1; injection e1 with e1 _
        rw [e1]; exact e3
    have hR4r := stays_req _ _ _ _ (keeps_below hb4) HR.out
    have Hb4 := Lib.hid hb4
    have HR4 := Lib.hid hR4
    have HR4r := Lib.hid hR4r
    clear cc
    have cc := fun i => cell_block g4 i
    have c5 := fun i => cell_block b4 i
    have B4 := Lib.hid b4
    have G4 := Lib.hid g4
    clear hb4 hR4 hR4r b4' b4 g4
    go_wp2_with fail
    obtain ⟨w5, hw5⟩ : ∃ w5, w5 = w3.alloc (.cells #[.string r.key, .int .i64 kd, .slice ao r.vals.length c] 33) := ⟨_, rfl⟩
    have b5 : w5.heap[w3.heap.size]? = some (.cells #[.string r.key, .int .i64 kd, .slice ao r.vals.length c] 33 (0, 0)) := by rw [hw5]; exact heap_alloc_new w3 _
    have hb5' : Below w3.heap.size w3 w5 := by rw [hw5]; exact (Below.refl _ _).alloc (Nat.le_refl _) _
    have hb5 : Below w.heap.size w w5 := Hb4.out.trans (hb5'.mono Hb4.out.size)
    have d5 := below_block hb5' B4.out
    rw [← hw5]
    refine (match_any _ _ [r] l m w5 (RowAt.one b5 rfl (by exact stays_req _ _ _ _ (keeps_below hb5') HR4r.out)) (by simp) (fun x hx => by rw [List.mem_singleton.1 hx]; exact Hokr.out) (H1.out.below stays_label hb5) hll Hokl.out (Hm.out.below hb5)).mono ?_
    rintro E w6 ⟨rfl, hb6'⟩
    have Hb6 := Lib.hid (hb5.trans (hb6'.mono hb5.size))
    have d6 := below_block hb6' d5
    have HR6 := Lib.hid (stays_req _ _ _ _ (keeps_below (hb5'.trans (hb6'.mono hb5'.size))) HR4.out)
    clear cc c5 hw5 b5 hb5' hb5 d5 hb6'
    have cc := fun i => cell_block d6 i
    clear d6
    go_wp2_with fail
    obtain ⟨w7, hw7⟩ : ∃ w7, w7 = w6.alloc (.cells #[.string r.key, .int .i64 kd, .slice ao r.vals.length c] 33) := ⟨_, rfl⟩
    have b7 : w7.heap[w6.heap.size]? = some (.cells #[.string r.key, .int .i64 kd, .slice ao r.vals.length c] 33 (0, 0)) := by rw [hw7]; exact heap_alloc_new w6 _
    have hb7' : Below w6.heap.size w6 w7 := by rw [hw7]; exact (Below.refl _ _).alloc (Nat.le_refl _) _
    have hb7 : Below w.heap.size w w7 := Hb6.out.trans (hb7'.mono Hb6.out.size)
    rw [← hw7]
    refine (match_any _ _ [oppR r] l m w7 (RowAt.one b7 rfl (stays_req _ _ _ _ (keeps_below hb7') HR6.out)) (by simp) (fun x hx => by rw [List.mem_singleton.1 hx]; exact Hokr.out) (H1.out.below stays_label hb7) hll Hokl.out (Hm.out.below hb7)).mono ?_
    rintro E w8 ⟨rfl, hb8'⟩
    have Hb8 := Lib.hid (hb7.trans (hb8'.mono hb7.size))
    clear cc hw7 b7 hb7' hb7 hb8'
    obtain ⟨x, Hx⟩ : ∃ x, Hid (matchB [r] l = x) := ⟨_, Lib.hid rfl⟩
    obtain ⟨y, Hy⟩ : ∃ y, Hid (matchB [oppR r] l = y) := ⟨_, Lib.hid rfl⟩
    obtain ⟨e, He⟩ : ∃ e, Hid (matchE [r] l = e) := ⟨_, Lib.hid rfl⟩
    obtain ⟨f, Hf⟩ : ∃ f, Hid (matchE [oppR r] l = f) := ⟨_, Lib.hid rfl⟩
    have hp := HP.out
    rw [Hx.out, Hy.out, He.out, Hf.out] at hp
    rw [Hx.out, Hy.out, He.out, Hf.out]
    clear Hx Hy He Hf
    by_cases h0 : e ≠ 0 ∨ f ≠ 0
    · rw [if_pos h0, Bool.and_eq_true, Bool.and_eq_true, Bool.not_eq_true', Bool.not_eq_true', beq_iff_eq] at hp
      obtain ⟨rfl, rfl, rfl⟩ := hp
      have h1 : e ≠ 0 := by rcases h0 with h | h <;> exact h
      have q1 : (e == 0) = false := by rw [beq_eq_false_iff_ne]; exact h1
      have q2 : (e != 0) = true := by rw [bne_iff_ne]; exact h1
      have q3 : (e == e) = true := by simp
      clear h0 h1
      go_wp2_with fail
      go_ret
      exact ⟨by simp, Hb8.out⟩
    · have he : e = 0 := by omega
      have hf : f = 0 := by omega
      rw [if_neg h0] at hp
      subst he
      subst hf
      clear h0
      cases x <;> cases y
      all_goals first | (exact absurd hp (by decide)) | skip
      all_goals
        clear hp
        go_wp2_with fail
        go_ret
        exact ⟨rfl, Hb8.out⟩
end Go.Proofs.YtmfcddbeglfdcaaDoor
