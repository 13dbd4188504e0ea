/- Texts of ours joined. -/
import Derived.Deep.LoopGhost
import Derived.Deep.DeepCutAuto
import Derived.IntWalk
import Derived.Test.YtnmhjabihfhobaaGreatDoorMt6
set_option linter.unusedVariables false
set_option linter.unusedSimpArgs false
namespace Go.Proofs.YtnmhjabihfhobaaGreatDoor
namespace Sch
open Go.RowKit
open JP (JV Bs)
set_option maxRecDepth 100000 in
theorem document_any (g : Nat) (b : Int) (d : ByteArray) (w : World) (h : IsBad g w b) (hd : d.size ≤ 1048576) : Calls Tryz.prog 118 #[.pointer (some ⟨g, 0, none⟩), .string d] w (Said g (runT b [docT d]) w) := by
  have HR := Lib.hid (read_any d w hd)
  have hdt : docT d = (decide ((JP.readL d.data.toList).2 = 0), (JP.readL d.data.toList).2) := rfl
  obtain ⟨e, he⟩ : ∃ e, (JP.readL d.data.toList).2 = e := ⟨_, rfl⟩
  rw [hdt]
  rw [he] at HR ⊢
  have H := Lib.hid h
  obtain ⟨is, his⟩ : ∃ b, (e == 0) = b := ⟨_, rfl⟩
  have hi2 : decide (e = 0) = is := by rw [← his]; rfl
  rw [hi2]
  clear hdt he hi2 h hd
  go_enter Tryz.func118, Tryz.ntmps118
  go_wp2_with fail
  refine HR.out.mono ?_
  rintro E w1 ⟨u, rfl, _, hb⟩
  have H1 := Lib.hid (need_any g b e is w1 (H.out.below hb))
  have HB := Lib.hid hb
  clear hb
  go_wp2_with fail
  refine H1.out.mono ?_
  rintro E w2 ⟨rfl, h1, h2⟩
  have K1 := Lib.hid h1
  have K2 := Lib.hid ((But.of HB.out).trans h2)
  clear h1 h2
  go_wp2_with fail
  go_end0
  exact ⟨rfl, K1.out, K2.out⟩
/-- is it a part behind this one? -/
def CapB (g5 g4 i : Nat) (sa : Option Addr) (sn sc : Nat) (w : World) : Prop := w.heap[g5]? = some (.cells #[.int .i64 (i : Int)] 3 (0, 0)) ∧ w.heap[g4]? = some (.cells #[.slice sa sn sc] 38 (0, 0))
set_option maxRecDepth 100000 in
theorem behind_any (g5 g4 i : Nat) (sa : Option Addr) (sn sc : Nat) (k : Int) (w : World) (h : CapB g5 g4 i sa sn sc w) : Calls Tryz.prog 115 #[.int .i64 k, .pointer (some ⟨g5, 0, none⟩), .pointer (some ⟨g4, 0, none⟩)] w fun e w' => e = .returned (.bool (behindB sn i k)) ∧ Below w.heap.size w w' := by
  have c5 := cell_block h.1 0
  have c4 := cell_block h.2 0
  unfold behindB
  clear h
  by_cases h1 : (i : Int) < k
  · by_cases h2 : k < (sn : Int)
    · rw [decide_eq_true h1, decide_eq_true h2]
      go_enter Tryz.func115, Tryz.ntmps115
      go_wp2_with fail
      go_ret
      exact ⟨rfl, Below.refl _ _⟩
    · rw [decide_eq_true h1, decide_eq_false h2]
      go_enter Tryz.func115, Tryz.ntmps115
      go_wp2_with fail
      go_ret
      exact ⟨rfl, Below.refl _ _⟩
  · rw [decide_eq_false h1]
    go_enter Tryz.func115, Tryz.ntmps115
    go_wp2_with fail
    go_ret
    exact ⟨rfl, Below.refl _ _⟩
/-- has another field this name? -/
def CapF (g : Nat) (f : GField) (w : World) : Prop := w.heap[g]? = some (.cells #[.string f.name, .int .i64 f.part] 89 (0, 0))
theorem capF_keep (g : Nat) (f : GField) (w w' : World) (h : CapF g f w) (hb : Below w.heap.size w w') : CapF g f w' := below_block hb h
set_option maxRecDepth 100000 in
theorem cloField_any (g : Nat) (f q : GField) (w : World) (hc : CapF g f w) : Calls Tryz.prog 117 #[.agg #[.string q.name, .int .i64 q.part], .pointer (some ⟨g, 0, none⟩)] w fun e w' => e = .returned (.bool (decide (q.name = f.name))) ∧ Below w.heap.size w w' := by
  have hb1 := (Below.refl w.heap.size w).alloc (Nat.le_refl _) (.cells #[.string q.name, .int .i64 q.part] 89)
  have c0 : (w.alloc (.cells #[.string q.name, .int .i64 q.part] 89)).cell? ⟨g, 0, none⟩ = some (.string f.name) := cell_block (below_block hb1 hc) 0
  obtain ⟨bb, hbb⟩ : ∃ b, decide (q.name = f.name) = b := ⟨_, rfl⟩
  have hq : (q.name.toList == f.name.toList) = bb := by
    rw [← hbb]
    by_cases h : q.name = f.name
    · rw [decide_eq_true h, h]; simp
    · rw [decide_eq_false h, beq_eq_false_iff_ne]; exact fun e => h (toList_inj e)
  rw [hbb]
  have HB := Lib.hid hb1
  clear hbb hc hb1
  go_enter Tryz.func117, Tryz.ntmps117
  go_wp2_with fail
  go_ret
  exact ⟨rfl, HB.out⟩
theorem row_takeS {α : Type} {R : Rd α} {k : Nat} {w : World} {ao : Option Addr} {n c : Nat} {l : List α} (h : RowAt R k w (.slice ao n c) l) {i : Nat} (hi : i ≤ l.length) : RowAt R k w (.slice ao i c) (l.take i) := by
  rcases h with ⟨h1, rfl⟩ | ⟨a, c', h1, h2, h3, h4⟩
  · cases h1
    obtain rfl : i = 0 := by simpa using hi
    exact .inl ⟨rfl, by simp⟩
  · injection h1 with u1 u2 u3
    subst u1 u3
    have hlen : (l.take i).length = i := by rw [List.length_take]; omega
    refine .inr ⟨a, c, by rw [hlen], by omega, h3, fun j x hx => ?_⟩
    have hj : j < i := by have := (List.getElem?_eq_some_iff.1 hx).1; omega
    rw [List.getElem?_take_of_lt hj] at hx
    exact h4 j x hx
theorem flat_range {α : Type} (f : Nat → List α) (i : Nat) : (List.range (i + 1)).flatMap f = (List.range i).flatMap f ++ f i := by
  rw [List.range_succ, List.flatMap_append, List.flatMap_cons, List.flatMap_nil, List.append_nil]
theorem head_run (b : Int) (p : GPart) : runT b (headTs p) = needE (needE (needE (needE (needE (needE b (decide (2 ≤ p.kind) && decide (p.kind ≤ 6)) 1) (decide (p.fields.length ≤ 8) && decide (p.need.length ≤ 8) && decide (p.enum.length ≤ 8)) 2) (decide (p.kind = 6) || (decide (p.fields.length + p.need.length = 0) && !p.extra)) 1) (decide (p.kind = 5) || decide (p.items = 0)) 1) ((!decide (p.kind = 5) && !decide (p.kind = 6)) || decide (p.enum.length = 0)) 1) ((!decide (p.kind = 6) && !decide (p.kind = 2)) || (decide (p.least = 0) && decide (p.most = 0))) 1 := rfl
set_option maxRecDepth 100000 in
set_option maxHeartbeats 12800000 in
theorem part_any {S : List GPart} {sa : Option Addr} {sn sc : Nat} {w0 : World} (hlies : Lies S (.slice sa sn sc) w0) (g i : Nat) (bad : Int) (w : World) (hi : i < S.length) (h : IsBad g w bad) (hb0 : Below w0.heap.size w0 w) (hg0 : w0.heap.size ≤ g) :
    Calls Tryz.prog 74 #[.pointer (some ⟨g, 0, none⟩), .slice sa sn sc, .int .i64 (i : Int)] w (Said g (runT bad (partTs S.length i (partAt S (i : Int)))) w) := by
  obtain ⟨b, ob, p, fa, fn, fc, na, nn, nc, ea, en, ec, hsa, hsn, hp⟩ := hlies.part hi
  have hsm := hlies.small p (List.mem_of_getElem? hp.at_)
  rw [partAt_of hp.at_]
  obtain ⟨ah, ch, hv9, hsc9, hmx⟩ := hlies.row.len
  injection hv9 with u1 u2 u3
  have hsc : S.length ≤ sc := by omega
  clear u1 u2 u3 hsc9 hmx
  -- the boxes
  obtain ⟨w1, hw1⟩ : ∃ w1, w1 = (w.alloc (.cells #[.slice sa sn sc] 38)).alloc (.cells #[.int .i64 (i : Int)] 3) := ⟨_, rfl⟩
  obtain ⟨g4, hg4⟩ : ∃ gp, gp = w.heap.size := ⟨_, rfl⟩
  obtain ⟨g5, hg5⟩ : ∃ gp, gp = w.heap.size + 1 := ⟨_, rfl⟩
  have hb1 : Below w.heap.size w w1 := by rw [hw1]; exact ((Below.refl _ w).alloc (Nat.le_refl _) _).alloc (by simp) _
  have hx4 : w1.heap[g4]? = some (.cells #[.slice sa sn sc] 38 (0, 0)) := by rw [hw1, hg4]; exact below_block ((Below.refl _ _).alloc (Nat.le_refl _) _) (heap_alloc_new w _)
  have hx5 : w1.heap[g5]? = some (.cells #[.int .i64 (i : Int)] 3 (0, 0)) := by
    have h9 := heap_alloc_new (w.alloc (.cells #[.slice sa sn sc] 38)) (.cells #[.int .i64 (i : Int)] 3)
    rw [hw1, hg5]
    simpa using h9
  have HB1 := hb0.trans (hb1.mono hb0.size)
  have hp0 : ∀ (j : Nat) (u : Value), w0.cell? ⟨b, ob + i * 9 + j, none⟩ = some u → w1.cell? ⟨b, ob + i * 9 + j, none⟩ = some u := fun j u h => (HB1.cell (p := ⟨b, _, none⟩) hp.blk).trans h
  have e0 : w1.cell? ⟨b, ob + i * 9, none⟩ = _ := hp0 0 _ hp.c0
  have e1 := hp0 1 _ hp.c1
  have e2 := hp0 2 _ hp.c2
  have e3 := hp0 3 _ hp.c3
  have e4 := hp0 4 _ hp.c4
  have e5 := hp0 5 _ hp.c5
  have e6 := hp0 6 _ hp.c6
  have e7 := hp0 7 _ hp.c7
  have e8 := hp0 8 _ hp.c8
  have q1 : (0 : Int) ≤ (i : Int) := by omega
  have q2 : (i : Int) < (sn : Int) := by omega
  obtain ⟨w2, hw2⟩ : ∃ w2, w2 = w1.alloc (.cells #[.int .i64 p.kind, .slice fa fn fc, .slice na nn nc, .bool p.extra, .int .i64 p.items, .int .i64 p.least, .int .i64 p.most, .slice ea en ec, .string p.deflt] 73) := ⟨_, rfl⟩
  obtain ⟨g6, hg6⟩ : ∃ gp, gp = w1.heap.size := ⟨_, rfl⟩
  have hb2 : Below w1.heap.size w1 w2 := by rw [hw2]; exact (Below.refl _ w1).alloc (Nat.le_refl _) _
  have hx6 : w2.heap[g6]? = some (.cells #[.int .i64 p.kind, .slice fa fn fc, .slice na nn nc, .bool p.extra, .int .i64 p.items, .int .i64 p.least, .int .i64 p.most, .slice ea en ec, .string p.deflt] 73 (0, 0)) := by rw [hw2, hg6]; exact heap_alloc_new w1 _
  have hgl := h.lt
  have n4 : g4 ≠ g := by omega
  have n5 : g5 ≠ g := by omega
  have n6 : g6 ≠ g := by have := hb1.size; omega
  have hb12 : Below w.heap.size w w2 := hb1.trans (hb2.mono hb1.size)
  have H2 := Lib.hid (h.below hb12)
  have BX := Lib.hid hx6
  have HCap : Hid (CapB g5 g4 i sa sn sc w2) := Lib.hid ⟨below_block hb2 hx5, below_block hb2 hx4⟩
  have HB2 := Lib.hid (hb0.trans (hb12.mono hb0.size))
  have HB12 := Lib.hid hb12
  have X4 := Lib.hid hx4
  have c4 := cell_block hx4 0
  have c5 := cell_block hx5 0
  have HP := Lib.hid hp
  have Hsm := Lib.hid hsm
  have Hsn := Lib.hid hsn
  have hfn : p.fields.length = fn := hp.fl
  have hnn : p.need.length = nn := hp.nl
  have hen : p.enum.length = en := hp.el
  have hfnb : fn ≤ 1048576 := by have := hsm.1; omega
  have hnnb : nn ≤ 1048576 := by have := hsm.2.1; have := total_length p.need; omega
  have henb : en ≤ 1048576 := by have := hsm.2.2.1; omega
  have hfcb : fn ≤ fc := by obtain ⟨_, _, hv, hc, _⟩ := hp.fields.len; injection hv with _ _ u3; omega
  have Hfn := Lib.hid hfn
  have Hen := Lib.hid hen
  obtain ⟨oj, hoj⟩ : ∃ b, (p.kind == 6) = b := ⟨_, rfl⟩
  obtain ⟨ls, hls⟩ : ∃ b, (p.kind == 5) = b := ⟨_, rfl⟩
  have hoj2 : decide (p.kind = 6) = oj := by rw [← hoj]; rfl
  have hls2 : decide (p.kind = 5) = ls := by rw [← hls]; rfl
  have hparts : runT bad (partTs S.length i p) = runT (runT (runT (runT (runT bad (headTs p)) ((List.range fn).flatMap (fieldTs sn i p.fields))) [(!ls || behindB sn i p.items, 7)]) (p.enum.map docT)) (if p.deflt = ByteArray.empty then [] else [docT p.deflt]) := by
    unfold partTs
    rw [runT_append, runT_append, runT_append, runT_append, hfn, hsn, hls2]
  rw [hparts, head_run, hfn, hnn, hen, hoj2, hls2]
  subst hsa
  have Hhd := Lib.hid hoj
  clear hlies hp hsm hparts hb1 hx4 hx5 HB1 hp0 hb2 hx6 hb12 h hoj2 hls2 hsn hi hb0 hgl hfn hnn hen
  obtain ⟨T1, hT1⟩ : ∃ t, (decide (2 ≤ p.kind) && decide (p.kind ≤ 6)) = t := ⟨_, rfl⟩
  obtain ⟨T2, hT2⟩ : ∃ t, (decide (fn ≤ 8) && decide (nn ≤ 8) && decide (en ≤ 8)) = t := ⟨_, rfl⟩
  obtain ⟨T3, hT3⟩ : ∃ t, (oj || (decide (fn + nn = 0) && !p.extra)) = t := ⟨_, rfl⟩
  obtain ⟨T4, hT4⟩ : ∃ t, (ls || decide (p.items = 0)) = t := ⟨_, rfl⟩
  obtain ⟨T5, hT5⟩ : ∃ t, ((!ls && !oj) || decide (en = 0)) = t := ⟨_, rfl⟩
  obtain ⟨T6, hT6⟩ : ∃ t, ((!oj && !decide (p.kind = 2)) || (decide (p.least = 0) && decide (p.most = 0))) = t := ⟨_, rfl⟩
  rw [hT1, hT2, hT3, hT4, hT5, hT6]
  obtain ⟨b1, hb1⟩ : ∃ t, needE bad T1 1 = t := ⟨_, rfl⟩
  obtain ⟨b2, hb2⟩ : ∃ t, needE b1 T2 2 = t := ⟨_, rfl⟩
  obtain ⟨b3, hb3⟩ : ∃ t, needE b2 T3 1 = t := ⟨_, rfl⟩
  obtain ⟨b4, hb4⟩ : ∃ t, needE b3 T4 1 = t := ⟨_, rfl⟩
  obtain ⟨b5, hb5⟩ : ∃ t, needE b4 T5 1 = t := ⟨_, rfl⟩
  obtain ⟨b6, hb6⟩ : ∃ t, needE b5 T6 1 = t := ⟨_, rfl⟩
  rw [hb1, hb2, hb3, hb4, hb5, hb6]
  have Hb1 := Lib.hid hb1
  have HT1 := Lib.hid hT1
  have Hb2 := Lib.hid hb2
  have HT2 := Lib.hid hT2
  have Hb3 := Lib.hid hb3
  have HT3 := Lib.hid hT3
  have Hb4 := Lib.hid hb4
  have HT4 := Lib.hid hT4
  have Hb5 := Lib.hid hb5
  have HT5 := Lib.hid hT5
  have Hb6 := Lib.hid hb6
  have HT6 := Lib.hid hT6
  clear hT1 hT2 hT3 hT4 hT5 hT6
  clear hb1 hb2 hb3 hb4 hb5 hb6
  obtain ⟨RES, hRES⟩ : ∃ r, runT (runT (runT (runT b6 ((List.range fn).flatMap (fieldTs sn i p.fields))) [(!ls || behindB sn i p.items, 7)]) (p.enum.map docT)) (if p.deflt = ByteArray.empty then [] else [docT p.deflt]) = r := ⟨_, rfl⟩
  rw [hRES]
  have HRES := Lib.hid hRES
  clear hRES
  go_enter Tryz.func74, Tryz.ntmps74
  go_upto_region 1 with fail
  rw [← hw1]
  try rw [← hg5]
  try rw [← hg4]
  clear hw1 hg4 hg5
  go_upto_region 3 with fail
  rw [← hw2]
  rw [← hg6]
  clear hw2 hg6 e0 e1 e2 e3 e4 e5 e6 e7 e8 q1 q2 c4 c5
  have cc := fun i => cell_block BX.out i
  have HK := Lib.hid (But.refl g w2)
  go_upto_region 3 with fail
  go_cut [28] (fun u28 wx => Hid (IsBad g wx b1) ∧ Hid (But g w2 wx))
  case first =>
    as_aux_lemma =>
      by_cases zA : (2 : Int) ≤ p.kind
      · have yA : decide ((2 : Int) ≤ p.kind) = true := by exact decide_eq_true (by omega)
        by_cases zB : p.kind ≤ 6
        · have yB : decide (p.kind ≤ 6) = true := by exact decide_eq_true (by omega)
          have hT : T1 = true := by rw [← HT1.out, (decide_eq_true zA), (decide_eq_true zB)]; rfl
          have Hn : Hid (∀ w9, IsBad g w9 (needE bad true 1) → IsBad g w9 b1) := Lib.hid (fun w9 h => by rw [← Hb1.out, hT]; exact h)
          clear hT zA zB
          go_wp2_with fail
          refine (need_any g _ 1 _ _ H2.out).mono ?_
          rintro E w9 ⟨rfl, h1, h2⟩
          have Hx1 := Lib.hid (Hn.out _ h1)
          have Hx2 := Lib.hid (HK.out.trans h2)
          clear h1 h2 Hn
          go_wp2_with fail
          go_meet
          exact ⟨Hx1, Hx2⟩
        · have yB : decide (p.kind ≤ 6) = false := by exact decide_eq_false (by omega)
          have hT : T1 = false := by rw [← HT1.out, (decide_eq_true zA), (decide_eq_false zB)]; rfl
          have Hn : Hid (∀ w9, IsBad g w9 (needE bad false 1) → IsBad g w9 b1) := Lib.hid (fun w9 h => by rw [← Hb1.out, hT]; exact h)
          clear hT zA zB
          go_wp2_with fail
          refine (need_any g _ 1 _ _ H2.out).mono ?_
          rintro E w9 ⟨rfl, h1, h2⟩
          have Hx1 := Lib.hid (Hn.out _ h1)
          have Hx2 := Lib.hid (HK.out.trans h2)
          clear h1 h2 Hn
          go_wp2_with fail
          go_meet
          exact ⟨Hx1, Hx2⟩
      · have yA : decide ((2 : Int) ≤ p.kind) = false := by exact decide_eq_false (by omega)
        have hT : T1 = false := by rw [← HT1.out, (decide_eq_false zA)]; rfl
        have Hn : Hid (∀ w9, IsBad g w9 (needE bad false 1) → IsBad g w9 b1) := Lib.hid (fun w9 h => by rw [← Hb1.out, hT]; exact h)
        clear hT zA
        go_wp2_with fail
        refine (need_any g _ 1 _ _ H2.out).mono ?_
        rintro E w9 ⟨rfl, h1, h2⟩
        have Hx1 := Lib.hid (Hn.out _ h1)
        have Hx2 := Lib.hid (HK.out.trans h2)
        clear h1 h2 Hn
        go_wp2_with fail
        go_meet
        exact ⟨Hx1, Hx2⟩
  case rest =>
  obtain ⟨x1, hx1⟩ : ∃ x, x = wc := ⟨_, rfl⟩
  rw [← hx1] at hcut ⊢
  clear hx1 HT1
  clear HK
  obtain ⟨H3, HK⟩ := hcut
  clear cc H2
  have cc := fun i => cell_block (HK.out.keep BX.out n6) i
  go_upto_region 4 with fail
  go_cut [46] (fun u46 wx => Hid (IsBad g wx b2) ∧ Hid (But g w2 wx))
  case first =>
    as_aux_lemma =>
      by_cases zF8 : fn ≤ 8
      · have yF8 : decide ((fn : Int) ≤ 8) = true := by exact decide_eq_true (by omega)
        by_cases zN8 : nn ≤ 8
        · have yN8 : decide ((nn : Int) ≤ 8) = true := by exact decide_eq_true (by omega)
          by_cases zE8 : en ≤ 8
          · have yE8 : decide ((en : Int) ≤ 8) = true := by exact decide_eq_true (by omega)
            have hT : T2 = true := by rw [← HT2.out, (decide_eq_true zF8), (decide_eq_true zN8), (decide_eq_true zE8)]; rfl
            have Hn : Hid (∀ w9, IsBad g w9 (needE b1 true 2) → IsBad g w9 b2) := Lib.hid (fun w9 h => by rw [← Hb2.out, hT]; exact h)
            clear hT zF8 zN8 zE8
            go_wp2_with fail
            refine (need_any g _ 2 _ _ H3.out).mono ?_
            rintro E w9 ⟨rfl, h1, h2⟩
            have Hx1 := Lib.hid (Hn.out _ h1)
            have Hx2 := Lib.hid (HK.out.trans h2)
            clear h1 h2 Hn
            go_wp2_with fail
            go_meet
            exact ⟨Hx1, Hx2⟩
          · have yE8 : decide ((en : Int) ≤ 8) = false := by exact decide_eq_false (by omega)
            have hT : T2 = false := by rw [← HT2.out, (decide_eq_true zF8), (decide_eq_true zN8), (decide_eq_false zE8)]; rfl
            have Hn : Hid (∀ w9, IsBad g w9 (needE b1 false 2) → IsBad g w9 b2) := Lib.hid (fun w9 h => by rw [← Hb2.out, hT]; exact h)
            clear hT zF8 zN8 zE8
            go_wp2_with fail
            refine (need_any g _ 2 _ _ H3.out).mono ?_
            rintro E w9 ⟨rfl, h1, h2⟩
            have Hx1 := Lib.hid (Hn.out _ h1)
            have Hx2 := Lib.hid (HK.out.trans h2)
            clear h1 h2 Hn
            go_wp2_with fail
            go_meet
            exact ⟨Hx1, Hx2⟩
        · have yN8 : decide ((nn : Int) ≤ 8) = false := by exact decide_eq_false (by omega)
          have hT : T2 = false := by rw [← HT2.out, (decide_eq_true zF8), (decide_eq_false zN8)]; rfl
          have Hn : Hid (∀ w9, IsBad g w9 (needE b1 false 2) → IsBad g w9 b2) := Lib.hid (fun w9 h => by rw [← Hb2.out, hT]; exact h)
          clear hT zF8 zN8
          go_wp2_with fail
          refine (need_any g _ 2 _ _ H3.out).mono ?_
          rintro E w9 ⟨rfl, h1, h2⟩
          have Hx1 := Lib.hid (Hn.out _ h1)
          have Hx2 := Lib.hid (HK.out.trans h2)
          clear h1 h2 Hn
          go_wp2_with fail
          go_meet
          exact ⟨Hx1, Hx2⟩
      · have yF8 : decide ((fn : Int) ≤ 8) = false := by exact decide_eq_false (by omega)
        have hT : T2 = false := by rw [← HT2.out, (decide_eq_false zF8)]; rfl
        have Hn : Hid (∀ w9, IsBad g w9 (needE b1 false 2) → IsBad g w9 b2) := Lib.hid (fun w9 h => by rw [← Hb2.out, hT]; exact h)
        clear hT zF8
        go_wp2_with fail
        refine (need_any g _ 2 _ _ H3.out).mono ?_
        rintro E w9 ⟨rfl, h1, h2⟩
        have Hx1 := Lib.hid (Hn.out _ h1)
        have Hx2 := Lib.hid (HK.out.trans h2)
        clear h1 h2 Hn
        go_wp2_with fail
        go_meet
        exact ⟨Hx1, Hx2⟩
  case rest =>
  obtain ⟨x2, hx2⟩ : ∃ x, x = wc := ⟨_, rfl⟩
  rw [← hx2] at hcut ⊢
  clear hx2 HT2
  clear HK
  obtain ⟨H4, HK⟩ := hcut
  clear cc H3
  have cc := fun i => cell_block (HK.out.keep BX.out n6) i
  go_upto_region 5 with fail
  go_quiet (fail)
  go_upto_region 6 with fail

  obtain ⟨y2, hy2⟩ : ∃ y, y = x2.drewN nq := ⟨_, rfl⟩
  rw [← hy2]
  have hbq : Below x2.heap.size x2 y2 := by rw [hy2]; exact below_drewG x2.heap.size x2 nq
  have HK2 := Lib.hid (HK.out.trans (But.of hbq))
  have H4q := Lib.hid (H4.out.below hbq)
  clear hbq hy2 H4 HK cc
  have HK := HK2
  have H4 := H4q
  clear HK2 H4q
  have cc := fun i => cell_block (HK.out.keep BX.out n6) i
  go_cut [8, 9, 70] (fun u8 u9 u70 wx => u8 = .bool oj ∧ u9 = .bool ls ∧ Hid (IsBad g wx b3) ∧ Hid (But g w2 wx))
  case first =>
    as_aux_lemma =>
      rcases Bool.eq_false_or_eq_true oj with zoj | zoj
      · have yoj := zoj
        have hT : T3 = true := by rw [← HT3.out, zoj]; rfl
        have Hn : Hid (∀ w9, IsBad g w9 (needE b2 true 1) → IsBad g w9 b3) := Lib.hid (fun w9 h => by rw [← Hb3.out, hT]; exact h)
        clear hT zoj
        go_wp2_with fail
        refine (need_any g _ 1 _ _ H4.out).mono ?_
        rintro E w9 ⟨rfl, h1, h2⟩
        have Hx1 := Lib.hid (Hn.out _ h1)
        have Hx2 := Lib.hid (HK.out.trans h2)
        clear h1 h2 Hn
        go_wp2_with fail
        go_meet
        exact ⟨by rw [yoj], rfl, Hx1, Hx2⟩
      · have yoj := zoj
        by_cases zZ : fn + nn = 0
        · have yZ : ((fn : Int) + (nn : Int) == 0) = true := by rw [beq_iff_eq]; omega
          rcases Bool.eq_false_or_eq_true p.extra with zex | zex
          · have yex := zex
            have hT : T3 = false := by rw [← HT3.out, zoj, (decide_eq_true zZ), zex]; rfl
            have Hn : Hid (∀ w9, IsBad g w9 (needE b2 false 1) → IsBad g w9 b3) := Lib.hid (fun w9 h => by rw [← Hb3.out, hT]; exact h)
            clear hT zoj zZ zex
            go_wp2_with fail
            refine (need_any g _ 1 _ _ H4.out).mono ?_
            rintro E w9 ⟨rfl, h1, h2⟩
            have Hx1 := Lib.hid (Hn.out _ h1)
            have Hx2 := Lib.hid (HK.out.trans h2)
            clear h1 h2 Hn
            go_wp2_with fail
            go_meet
            exact ⟨by rw [yoj], rfl, Hx1, Hx2⟩
          · have yex := zex
            have hT : T3 = true := by rw [← HT3.out, zoj, (decide_eq_true zZ), zex]; rfl
            have Hn : Hid (∀ w9, IsBad g w9 (needE b2 true 1) → IsBad g w9 b3) := Lib.hid (fun w9 h => by rw [← Hb3.out, hT]; exact h)
            clear hT zoj zZ zex
            go_wp2_with fail
            refine (need_any g _ 1 _ _ H4.out).mono ?_
            rintro E w9 ⟨rfl, h1, h2⟩
            have Hx1 := Lib.hid (Hn.out _ h1)
            have Hx2 := Lib.hid (HK.out.trans h2)
            clear h1 h2 Hn
            go_wp2_with fail
            go_meet
            exact ⟨by rw [yoj], rfl, Hx1, Hx2⟩
        · have yZ : ((fn : Int) + (nn : Int) == 0) = false := by rw [beq_eq_false_iff_ne]; omega
          have hT : T3 = false := by rw [← HT3.out, zoj, (decide_eq_false zZ)]; rfl
          have Hn : Hid (∀ w9, IsBad g w9 (needE b2 false 1) → IsBad g w9 b3) := Lib.hid (fun w9 h => by rw [← Hb3.out, hT]; exact h)
          clear hT zoj zZ
          go_wp2_with fail
          refine (need_any g _ 1 _ _ H4.out).mono ?_
          rintro E w9 ⟨rfl, h1, h2⟩
          have Hx1 := Lib.hid (Hn.out _ h1)
          have Hx2 := Lib.hid (HK.out.trans h2)
          clear h1 h2 Hn
          go_wp2_with fail
          go_meet
          exact ⟨by rw [yoj], rfl, Hx1, Hx2⟩
  case rest =>
  obtain ⟨x3, hx3⟩ : ∃ x, x = wc := ⟨_, rfl⟩
  rw [← hx3] at hcut ⊢
  clear hx3 HT3
  clear HK
  obtain ⟨rfl, rfl, H5, HK⟩ := hcut
  clear cc H4
  have cc := fun i => cell_block (HK.out.keep BX.out n6) i
  go_upto_region 7 with fail
  go_cut [8, 9, 78] (fun u8 u9 u78 wx => u8 = .bool oj ∧ u9 = .bool ls ∧ Hid (IsBad g wx b4) ∧ Hid (But g w2 wx))
  case first =>
    as_aux_lemma =>
      rcases Bool.eq_false_or_eq_true ls with zls | zls
      · have yls := zls
        have hT : T4 = true := by rw [← HT4.out, zls]; rfl
        have Hn : Hid (∀ w9, IsBad g w9 (needE b3 true 1) → IsBad g w9 b4) := Lib.hid (fun w9 h => by rw [← Hb4.out, hT]; exact h)
        clear hT zls
        go_wp2_with fail
        refine (need_any g _ 1 _ _ H5.out).mono ?_
        rintro E w9 ⟨rfl, h1, h2⟩
        have Hx1 := Lib.hid (Hn.out _ h1)
        have Hx2 := Lib.hid (HK.out.trans h2)
        clear h1 h2 Hn
        go_wp2_with fail
        go_meet
        exact ⟨rfl, by rw [yls], Hx1, Hx2⟩
      · have yls := zls
        by_cases zI0 : p.items = 0
        · have yI0 : (p.items == 0) = true := by rw [beq_iff_eq]; omega
          have hT : T4 = true := by rw [← HT4.out, zls, (decide_eq_true zI0)]; rfl
          have Hn : Hid (∀ w9, IsBad g w9 (needE b3 true 1) → IsBad g w9 b4) := Lib.hid (fun w9 h => by rw [← Hb4.out, hT]; exact h)
          clear hT zls zI0
          go_wp2_with fail
          refine (need_any g _ 1 _ _ H5.out).mono ?_
          rintro E w9 ⟨rfl, h1, h2⟩
          have Hx1 := Lib.hid (Hn.out _ h1)
          have Hx2 := Lib.hid (HK.out.trans h2)
          clear h1 h2 Hn
          go_wp2_with fail
          go_meet
          exact ⟨rfl, by rw [yls], Hx1, Hx2⟩
        · have yI0 : (p.items == 0) = false := by rw [beq_eq_false_iff_ne]; omega
          have hT : T4 = false := by rw [← HT4.out, zls, (decide_eq_false zI0)]; rfl
          have Hn : Hid (∀ w9, IsBad g w9 (needE b3 false 1) → IsBad g w9 b4) := Lib.hid (fun w9 h => by rw [← Hb4.out, hT]; exact h)
          clear hT zls zI0
          go_wp2_with fail
          refine (need_any g _ 1 _ _ H5.out).mono ?_
          rintro E w9 ⟨rfl, h1, h2⟩
          have Hx1 := Lib.hid (Hn.out _ h1)
          have Hx2 := Lib.hid (HK.out.trans h2)
          clear h1 h2 Hn
          go_wp2_with fail
          go_meet
          exact ⟨rfl, by rw [yls], Hx1, Hx2⟩
  case rest =>
  obtain ⟨x4, hx4⟩ : ∃ x, x = wc := ⟨_, rfl⟩
  rw [← hx4] at hcut ⊢
  clear hx4 HT4
  clear HK
  obtain ⟨rfl, rfl, H6, HK⟩ := hcut
  clear cc H5
  have cc := fun i => cell_block (HK.out.keep BX.out n6) i
  go_upto_region 8 with fail
  go_cut [8, 9, 92] (fun u8 u9 u92 wx => u8 = .bool oj ∧ u9 = .bool ls ∧ Hid (IsBad g wx b5) ∧ Hid (But g w2 wx))
  case first =>
    as_aux_lemma =>
      rcases Bool.eq_false_or_eq_true ls with zls | zls
      · have yls := zls
        by_cases zE0 : en = 0
        · have yE0 : ((en : Int) == 0) = true := by rw [beq_iff_eq]; omega
          have hT : T5 = true := by rw [← HT5.out, zls, (decide_eq_true zE0)]; rfl
          have Hn : Hid (∀ w9, IsBad g w9 (needE b4 true 1) → IsBad g w9 b5) := Lib.hid (fun w9 h => by rw [← Hb5.out, hT]; exact h)
          clear hT zls zE0
          go_wp2_with fail
          refine (need_any g _ 1 _ _ H6.out).mono ?_
          rintro E w9 ⟨rfl, h1, h2⟩
          have Hx1 := Lib.hid (Hn.out _ h1)
          have Hx2 := Lib.hid (HK.out.trans h2)
          clear h1 h2 Hn
          go_wp2_with fail
          go_meet
          exact ⟨rfl, by rw [yls], Hx1, Hx2⟩
        · have yE0 : ((en : Int) == 0) = false := by rw [beq_eq_false_iff_ne]; omega
          have hT : T5 = false := by rw [← HT5.out, zls, (decide_eq_false zE0)]; rfl
          have Hn : Hid (∀ w9, IsBad g w9 (needE b4 false 1) → IsBad g w9 b5) := Lib.hid (fun w9 h => by rw [← Hb5.out, hT]; exact h)
          clear hT zls zE0
          go_wp2_with fail
          refine (need_any g _ 1 _ _ H6.out).mono ?_
          rintro E w9 ⟨rfl, h1, h2⟩
          have Hx1 := Lib.hid (Hn.out _ h1)
          have Hx2 := Lib.hid (HK.out.trans h2)
          clear h1 h2 Hn
          go_wp2_with fail
          go_meet
          exact ⟨rfl, by rw [yls], Hx1, Hx2⟩
      · have yls := zls
        rcases Bool.eq_false_or_eq_true oj with zoj | zoj
        · have yoj := zoj
          by_cases zE0 : en = 0
          · have yE0 : ((en : Int) == 0) = true := by rw [beq_iff_eq]; omega
            have hT : T5 = true := by rw [← HT5.out, zls, zoj, (decide_eq_true zE0)]; rfl
            have Hn : Hid (∀ w9, IsBad g w9 (needE b4 true 1) → IsBad g w9 b5) := Lib.hid (fun w9 h => by rw [← Hb5.out, hT]; exact h)
            clear hT zls zoj zE0
            go_wp2_with fail
            refine (need_any g _ 1 _ _ H6.out).mono ?_
            rintro E w9 ⟨rfl, h1, h2⟩
            have Hx1 := Lib.hid (Hn.out _ h1)
            have Hx2 := Lib.hid (HK.out.trans h2)
            clear h1 h2 Hn
            go_wp2_with fail
            go_meet
            exact ⟨by rw [yoj], by rw [yls], Hx1, Hx2⟩
          · have yE0 : ((en : Int) == 0) = false := by rw [beq_eq_false_iff_ne]; omega
            have hT : T5 = false := by rw [← HT5.out, zls, zoj, (decide_eq_false zE0)]; rfl
            have Hn : Hid (∀ w9, IsBad g w9 (needE b4 false 1) → IsBad g w9 b5) := Lib.hid (fun w9 h => by rw [← Hb5.out, hT]; exact h)
            clear hT zls zoj zE0
            go_wp2_with fail
            refine (need_any g _ 1 _ _ H6.out).mono ?_
            rintro E w9 ⟨rfl, h1, h2⟩
            have Hx1 := Lib.hid (Hn.out _ h1)
            have Hx2 := Lib.hid (HK.out.trans h2)
            clear h1 h2 Hn
            go_wp2_with fail
            go_meet
            exact ⟨by rw [yoj], by rw [yls], Hx1, Hx2⟩
        · have yoj := zoj
          have hT : T5 = true := by rw [← HT5.out, zls, zoj]; rfl
          have Hn : Hid (∀ w9, IsBad g w9 (needE b4 true 1) → IsBad g w9 b5) := Lib.hid (fun w9 h => by rw [← Hb5.out, hT]; exact h)
          clear hT zls zoj
          go_wp2_with fail
          refine (need_any g _ 1 _ _ H6.out).mono ?_
          rintro E w9 ⟨rfl, h1, h2⟩
          have Hx1 := Lib.hid (Hn.out _ h1)
          have Hx2 := Lib.hid (HK.out.trans h2)
          clear h1 h2 Hn
          go_wp2_with fail
          go_meet
          exact ⟨by rw [yoj], by rw [yls], Hx1, Hx2⟩
  case rest =>
  obtain ⟨x5, hx5⟩ : ∃ x, x = wc := ⟨_, rfl⟩
  rw [← hx5] at hcut ⊢
  clear hx5 HT5
  clear HK
  obtain ⟨rfl, rfl, H7, HK⟩ := hcut
  clear cc H6
  have cc := fun i => cell_block (HK.out.keep BX.out n6) i
  go_upto_region 9 with fail
  go_cut [8, 9, 111] (fun u8 u9 u111 wx => u8 = .bool oj ∧ u9 = .bool ls ∧ Hid (IsBad g wx b6) ∧ Hid (But g w2 wx))
  case first =>
    as_aux_lemma =>
      rcases Bool.eq_false_or_eq_true oj with zoj | zoj
      · have yoj := zoj
        by_cases zL0 : p.least = 0
        · have yL0 : (p.least == 0) = true := by rw [beq_iff_eq]; omega
          by_cases zM0 : p.most = 0
          · have yM0 : (p.most == 0) = true := by rw [beq_iff_eq]; omega
            have hT : T6 = true := by rw [← HT6.out, zoj, (decide_eq_true zL0), (decide_eq_true zM0)]; rfl
            have Hn : Hid (∀ w9, IsBad g w9 (needE b5 true 1) → IsBad g w9 b6) := Lib.hid (fun w9 h => by rw [← Hb6.out, hT]; exact h)
            clear hT zoj zL0 zM0
            go_wp2_with fail
            refine (need_any g _ 1 _ _ H7.out).mono ?_
            rintro E w9 ⟨rfl, h1, h2⟩
            have Hx1 := Lib.hid (Hn.out _ h1)
            have Hx2 := Lib.hid (HK.out.trans h2)
            clear h1 h2 Hn
            go_wp2_with fail
            go_meet
            exact ⟨by rw [yoj], rfl, Hx1, Hx2⟩
          · have yM0 : (p.most == 0) = false := by rw [beq_eq_false_iff_ne]; omega
            have hT : T6 = false := by rw [← HT6.out, zoj, (decide_eq_true zL0), (decide_eq_false zM0)]; rfl
            have Hn : Hid (∀ w9, IsBad g w9 (needE b5 false 1) → IsBad g w9 b6) := Lib.hid (fun w9 h => by rw [← Hb6.out, hT]; exact h)
            clear hT zoj zL0 zM0
            go_wp2_with fail
            refine (need_any g _ 1 _ _ H7.out).mono ?_
            rintro E w9 ⟨rfl, h1, h2⟩
            have Hx1 := Lib.hid (Hn.out _ h1)
            have Hx2 := Lib.hid (HK.out.trans h2)
            clear h1 h2 Hn
            go_wp2_with fail
            go_meet
            exact ⟨by rw [yoj], rfl, Hx1, Hx2⟩
        · have yL0 : (p.least == 0) = false := by rw [beq_eq_false_iff_ne]; omega
          have hT : T6 = false := by rw [← HT6.out, zoj, (decide_eq_false zL0)]; rfl
          have Hn : Hid (∀ w9, IsBad g w9 (needE b5 false 1) → IsBad g w9 b6) := Lib.hid (fun w9 h => by rw [← Hb6.out, hT]; exact h)
          clear hT zoj zL0
          go_wp2_with fail
          refine (need_any g _ 1 _ _ H7.out).mono ?_
          rintro E w9 ⟨rfl, h1, h2⟩
          have Hx1 := Lib.hid (Hn.out _ h1)
          have Hx2 := Lib.hid (HK.out.trans h2)
          clear h1 h2 Hn
          go_wp2_with fail
          go_meet
          exact ⟨by rw [yoj], rfl, Hx1, Hx2⟩
      · have yoj := zoj
        by_cases zK2 : p.kind ≠ 2
        · have yK2 : (p.kind != 2) = true := by rw [bne_iff_ne]; exact zK2
          have hT : T6 = true := by rw [← HT6.out, zoj, (decide_eq_false (p := p.kind = 2) zK2)]; rfl
          have Hn : Hid (∀ w9, IsBad g w9 (needE b5 true 1) → IsBad g w9 b6) := Lib.hid (fun w9 h => by rw [← Hb6.out, hT]; exact h)
          clear hT zoj zK2
          go_wp2_with fail
          refine (need_any g _ 1 _ _ H7.out).mono ?_
          rintro E w9 ⟨rfl, h1, h2⟩
          have Hx1 := Lib.hid (Hn.out _ h1)
          have Hx2 := Lib.hid (HK.out.trans h2)
          clear h1 h2 Hn
          go_wp2_with fail
          go_meet
          exact ⟨by rw [yoj], rfl, Hx1, Hx2⟩
        · have yK2 : (p.kind != 2) = false := by simpa using zK2
          by_cases zL0 : p.least = 0
          · have yL0 : (p.least == 0) = true := by rw [beq_iff_eq]; omega
            by_cases zM0 : p.most = 0
            · have yM0 : (p.most == 0) = true := by rw [beq_iff_eq]; omega
              have hT : T6 = true := by rw [← HT6.out, zoj, (decide_eq_true (p := p.kind = 2) (by omega)), (decide_eq_true zL0), (decide_eq_true zM0)]; rfl
              have Hn : Hid (∀ w9, IsBad g w9 (needE b5 true 1) → IsBad g w9 b6) := Lib.hid (fun w9 h => by rw [← Hb6.out, hT]; exact h)
              clear hT zoj zK2 zL0 zM0
              go_wp2_with fail
              refine (need_any g _ 1 _ _ H7.out).mono ?_
              rintro E w9 ⟨rfl, h1, h2⟩
              have Hx1 := Lib.hid (Hn.out _ h1)
              have Hx2 := Lib.hid (HK.out.trans h2)
              clear h1 h2 Hn
              go_wp2_with fail
              go_meet
              exact ⟨by rw [yoj], rfl, Hx1, Hx2⟩
            · have yM0 : (p.most == 0) = false := by rw [beq_eq_false_iff_ne]; omega
              have hT : T6 = false := by rw [← HT6.out, zoj, (decide_eq_true (p := p.kind = 2) (by omega)), (decide_eq_true zL0), (decide_eq_false zM0)]; rfl
              have Hn : Hid (∀ w9, IsBad g w9 (needE b5 false 1) → IsBad g w9 b6) := Lib.hid (fun w9 h => by rw [← Hb6.out, hT]; exact h)
              clear hT zoj zK2 zL0 zM0
              go_wp2_with fail
              refine (need_any g _ 1 _ _ H7.out).mono ?_
              rintro E w9 ⟨rfl, h1, h2⟩
              have Hx1 := Lib.hid (Hn.out _ h1)
              have Hx2 := Lib.hid (HK.out.trans h2)
              clear h1 h2 Hn
              go_wp2_with fail
              go_meet
              exact ⟨by rw [yoj], rfl, Hx1, Hx2⟩
          · have yL0 : (p.least == 0) = false := by rw [beq_eq_false_iff_ne]; omega
            have hT : T6 = false := by rw [← HT6.out, zoj, (decide_eq_true (p := p.kind = 2) (by omega)), (decide_eq_false zL0)]; rfl
            have Hn : Hid (∀ w9, IsBad g w9 (needE b5 false 1) → IsBad g w9 b6) := Lib.hid (fun w9 h => by rw [← Hb6.out, hT]; exact h)
            clear hT zoj zK2 zL0
            go_wp2_with fail
            refine (need_any g _ 1 _ _ H7.out).mono ?_
            rintro E w9 ⟨rfl, h1, h2⟩
            have Hx1 := Lib.hid (Hn.out _ h1)
            have Hx2 := Lib.hid (HK.out.trans h2)
            clear h1 h2 Hn
            go_wp2_with fail
            go_meet
            exact ⟨by rw [yoj], rfl, Hx1, Hx2⟩
  case rest =>
  obtain ⟨x6, hx6⟩ : ∃ x, x = wc := ⟨_, rfl⟩
  rw [← hx6] at hcut ⊢
  clear hx6 HT6
  clear HK
  obtain ⟨rfl, rfl, H8, HK⟩ := hcut
  clear cc H7
  have cc := fun i => cell_block (HK.out.keep BX.out n6) i
  as_aux_lemma =>
    clear hoj hls
    obtain ⟨wa, hwa⟩ : ∃ w, w = x6 := ⟨_, rfl⟩
    rw [← hwa] at H8 HK ⊢
    clear hwa
    clear cc
    have cc := fun i => cell_block (HK.out.keep BX.out n6) i
    go_wp2_with fail
    clear cc
    go_loopg [115] fn (fun k u115 wr => ∃ j : Nat, j + k = fn ∧ u115 = .int .i64 (j : Int) ∧ Hid (IsBad g wr (runT b6 ((List.range j).flatMap (fieldTs sn i p.fields)))) ∧ Hid (But g w2 wr))
    case atStart => exact ⟨0, by omega, rfl, Lib.hid (by simpa [runT] using H8.out), HK⟩
    case round =>
      clear H8 HK
      obtain ⟨j, hjk, rfl, HI, HK⟩ := hrel
      cases gk with
      | succ k =>
        have hjl : j < fn := by omega
        obtain ⟨f, hf⟩ : ∃ f, p.fields[j]? = some f := ⟨p.fields[j]'(by rw [Hfn.out]; exact hjl), List.getElem?_eq_getElem _⟩
        obtain ⟨bk, ok, ck, hv1, _, _, hbs1, hcell1⟩ := HP.out.fields.form (by rw [Hfn.out]; omega) (by omega)
        injection hv1 with u1 u2 u3
        subst u1
        clear u2 u3
        obtain ⟨ds1, _, hcc1, hds1, _⟩ := hcell1 j f hf
        subst hds1
        have HBr := HK.out.below HB2.out HB2.out.size hg0
        have e0 : wr.cell? ⟨bk, ok + j * 2, none⟩ = some (.string f.name) := (HBr.cell (p := ⟨bk, _, none⟩) hbs1).trans (by simpa using hcc1 0 _ rfl)
        have e1 : wr.cell? ⟨bk, ok + j * 2 + 1, none⟩ = some (.int .i64 f.part) := (HBr.cell (p := ⟨bk, _, none⟩) hbs1).trans (hcc1 1 _ rfl)
        have q1 : (0 : Int) ≤ (j : Int) := by omega
        have q2 : (j : Int) < (fn : Int) := by omega
        have q3 : (j : Int) ≤ (fc : Int) := by omega
        have Hst := Lib.hid (flat_range (fieldTs sn i p.fields) j)
        have Hft : Hid (fieldTs sn i p.fields j = [(!((p.fields.take j).any fun q => decide (q.name = f.name)), 5), (behindB sn i f.part, 7)]) := Lib.hid (by unfold fieldTs; rw [hf])
        have hjf : j ≤ p.fields.length := by rw [Hfn.out]; omega
        have htk := row_takeS HP.out.fields hjf
        have Htk := Lib.hid (htk.keep stays_field (keeps_below HBr))
        clear htk hjf
        have hjt : (p.fields.take j).length = j := by rw [List.length_take, Hfn.out]; omega
        have Hjt := Lib.hid hjt
        have hwl : g < wr.heap.size := HI.out.lt
        obtain ⟨bj, hbj⟩ : ∃ b, runT b6 ((List.range j).flatMap (fieldTs sn i p.fields)) = b := ⟨_, rfl⟩
        rw [hbj] at HI
        have Hbj := Lib.hid hbj
        have h6r := HK.out.keep BX.out n6
        have h6s : g6 < wr.heap.size := blk_lt h6r
        clear hcell1 hcc1 hbs1 hf HBr hjt hbj
        have dd := fun i => cell_block h6r i
        go_upto_region 13 with fail
        obtain ⟨w5, hw5⟩ : ∃ w5, w5 = wr.alloc (.cells #[.string f.name, .int .i64 f.part] 89) := ⟨_, rfl⟩
        obtain ⟨gf, hgf⟩ : ∃ gf, gf = wr.heap.size := ⟨_, rfl⟩
        rw [← hw5, ← hgf]
        have b5 : w5.heap[gf]? = some (.cells #[.string f.name, .int .i64 f.part] 89 (0, 0)) := by rw [hw5, hgf]; exact heap_alloc_new wr _
        have hb5 : Below wr.heap.size wr w5 := by rw [hw5]; exact (Below.refl _ _).alloc (Nat.le_refl _) _
        have nf : gf ≠ g := by omega
        have I5 := Lib.hid (HI.out.below hb5)
        have K5 := Lib.hid (HK.out.trans (But.of hb5))
        have F5 := Lib.hid b5
        have Htk5 := Lib.hid (Htk.out.keep stays_field (keeps_below hb5))
        have HAn := Lib.hid (anyField_any (f := 117) (cap := .pointer (some ⟨gf, 0, none⟩)) (Cap := CapF gf f) (p := fun q => decide (q.name = f.name)) (OK := fun _ => True) (run_callFunc_body Tryz.func117 (by kernel_rfl) (by kernel_rfl)) (capF_keep gf f) (fun q w' _ _ hc => cloField_any gf f q w' hc) _ (p.fields.take j) w5 Htk5.out (by rw [Hjt.out]; omega) (fun _ _ => trivial) (show CapF gf f w5 from b5))
        obtain ⟨tw, htw⟩ : ∃ t, ((p.fields.take j).any fun q => decide (q.name = f.name)) = t := ⟨_, rfl⟩
        rw [htw] at HAn Hft
        clear dd hw5 hgf b5 hb5 e0 e1 HI HK Htk Htk5 htw h6r
        have dd := fun i => cell_block (K5.out.keep BX.out n6) i
        go_wp2_with fail
        refine HAn.out.mono ?_
        rintro E w6 ⟨rfl, hb⟩
        have I6 := Lib.hid (I5.out.below hb)
        have K6 := Lib.hid (K5.out.trans (But.of hb))
        have F6 := Lib.hid (below_block hb F5.out)
        have HN6 := Lib.hid (need_any g bj 5 (!tw) w6 I6.out)
        clear hb HAn I5 K5 F5 dd
        go_wp2_with fail
        refine HN6.out.mono ?_
        rintro E w7 ⟨rfl, h1, h2⟩
        have I7 := Lib.hid h1
        have K7 := Lib.hid (K6.out.trans h2)
        have F7 := Lib.hid (h2.keep F6.out nf)
        clear h1 h2 HN6 I6 K6 F6
        have ff := fun i => cell_block F7.out i
        have HCp : CapB g5 g4 i (some ⟨b, ob, none⟩) sn sc w7 := ⟨K7.out.keep HCap.out.1 n5, K7.out.keep HCap.out.2 n4⟩
        have HBh := Lib.hid (behind_any g5 g4 i (some ⟨b, ob, none⟩) sn sc f.part w7 HCp)
        obtain ⟨bh, hbh⟩ : ∃ t, behindB sn i f.part = t := ⟨_, rfl⟩
        rw [hbh] at HBh Hft
        clear HCp hbh
        go_wp2_with fail
        refine HBh.out.mono ?_
        rintro E w8 ⟨rfl, hb⟩
        have I8 := Lib.hid (I7.out.below hb)
        have K8 := Lib.hid (K7.out.trans (But.of hb))
        have HN8 := Lib.hid (need_any g _ 7 bh w8 I8.out)
        clear hb HBh I7 K7 F7 ff
        go_wp2_with fail
        refine HN8.out.mono ?_
        rintro E w9 ⟨rfl, h1, h2⟩
        have I9 : Hid (IsBad g w9 (runT b6 ((List.range (j + 1)).flatMap (fieldTs sn i p.fields)))) := Lib.hid (by rw [Hst.out, runT_append, Hbj.out, Hft.out]; exact h1)
        have K9 := Lib.hid (K8.out.trans h2)
        clear h1 h2 HN8 I8 K8
        go_wp2_with fail
        go_roundg k
        case measure => omega
        case rel => exact ⟨j + 1, by omega, by go_num, I9, K9⟩
      | zero =>
        have hjl : fn = j := by omega
        subst hjl
        have q9 : ¬ (fn : Int) < (fn : Int) := by omega
        obtain ⟨b7, hb7⟩ : ∃ b, runT b6 ((List.range fn).flatMap (fieldTs sn i p.fields)) = b := ⟨_, rfl⟩
        rw [hb7] at HI HRES
        have dd := fun i => cell_block (HK.out.keep BX.out n6) i
        clear hb7
        go_upto_region 16 with fail
        clear dd
        have dd := fun i => cell_block (HK.out.keep BX.out n6) i
        obtain ⟨w5, hw5⟩ : ∃ w, w = wr := ⟨_, rfl⟩
        rw [← hw5] at HI HK dd ⊢
        clear hw5 q9 hjk
        obtain ⟨b8, hb8⟩ : ∃ b, runT b7 [(!ls || behindB sn i p.items, 7)] = b := ⟨_, rfl⟩
        rw [hb8] at HRES
        have Hb8 := Lib.hid hb8
        clear hb8
        go_cut [9, 145] (fun u9 u145 wx => u9 = .bool ls ∧ Hid (IsBad g wx b8) ∧ Hid (But g w2 wx))
        case first =>
          cases ls with
          | false =>
            have HN := Lib.hid (need_any g b7 7 true w5 HI.out)
            go_wp2_with fail
            refine HN.out.mono ?_
            rintro E w9 ⟨rfl, h1, h2⟩
            have Hx1 : Hid (IsBad g w9 b8) := Lib.hid (by rw [← Hb8.out]; exact h1)
            have Hx2 := Lib.hid (HK.out.trans h2)
            clear h1 h2 HN
            go_wp2_with fail
            go_meet
            exact ⟨rfl, Hx1, Hx2⟩
          | true =>
            have HCp : CapB g5 g4 i (some ⟨b, ob, none⟩) sn sc w5 := ⟨HK.out.keep HCap.out.1 n5, HK.out.keep HCap.out.2 n4⟩
            have HBh := Lib.hid (behind_any g5 g4 i (some ⟨b, ob, none⟩) sn sc p.items w5 HCp)
            obtain ⟨bh, hbh⟩ : ∃ t, behindB sn i p.items = t := ⟨_, rfl⟩
            rw [hbh] at HBh Hb8
            clear HCp hbh
            go_wp2_with fail
            refine HBh.out.mono ?_
            rintro E w8 ⟨rfl, hb⟩
            have HN := Lib.hid (need_any g b7 7 bh w8 (HI.out.below hb))
            have K8 := Lib.hid (HK.out.trans (But.of hb))
            clear hb HBh
            go_wp2_with fail
            refine HN.out.mono ?_
            rintro E w9 ⟨rfl, h1, h2⟩
            have Hx1 : Hid (IsBad g w9 b8) := Lib.hid (by rw [← Hb8.out]; exact h1)
            have Hx2 := Lib.hid (K8.out.trans h2)
            clear h1 h2 HN
            go_wp2_with fail
            go_meet
            exact ⟨rfl, Hx1, Hx2⟩
        case rest =>
        obtain ⟨w6, hw6⟩ : ∃ x, x = wc := ⟨_, rfl⟩
        rw [← hw6] at hcut ⊢
        clear hw6 HI HK dd
        obtain ⟨rfl, HI, HK⟩ := hcut
        have dd := fun i => cell_block (HK.out.keep BX.out n6) i
        go_wp2_with fail
        clear dd
        go_loopg [149] en (fun k u149 wr => ∃ j : Nat, j + k = en ∧ u149 = .int .i64 (j : Int) ∧ Hid (IsBad g wr (runT b8 ((p.enum.take j).map docT))) ∧ Hid (But g w2 wr))
        case atStart => exact ⟨0, by omega, rfl, Lib.hid (by simpa [runT] using HI.out), HK⟩
        case round =>
          clear HI HK
          obtain ⟨j, hjk, rfl, HI, HK⟩ := hrel
          cases gk with
          | succ k =>
            have hjl : j < en := by omega
            obtain ⟨f, hf⟩ : ∃ f, p.enum[j]? = some f := ⟨p.enum[j]'(by rw [Hen.out]; exact hjl), List.getElem?_eq_getElem _⟩
            obtain ⟨bk, ok, ck, hv1, _, _, hbs1, hcell1⟩ := HP.out.enum.row.form (by rw [Hen.out]; omega) (by omega)
            injection hv1 with u1 u2 u3
            subst u1
            clear u2 u3
            obtain ⟨ds1, _, hcc1, hds1⟩ := hcell1 j f hf
            obtain rfl : ds1 = [.string f] := hds1
            have HBr := HK.out.below HB2.out HB2.out.size hg0
            have e0 : wr.cell? ⟨bk, ok + j, none⟩ = some (.string f) := (HBr.cell (p := ⟨bk, _, none⟩) hbs1).trans (by simpa using hcc1 0 _ rfl)
            have q1 : (0 : Int) ≤ (j : Int) := by omega
            have q2 : (j : Int) < (en : Int) := by omega
            have Hst : Hid ((p.enum.take (j + 1)).map docT = (p.enum.take j).map docT ++ [docT f]) := Lib.hid (by rw [List.take_add_one, hf, Option.toList_some, List.map_append]; rfl)
            have HD := Lib.hid (document_any g _ f wr HI.out (Hsm.out.2.2.2.1 f (List.mem_of_getElem? hf)))
            clear hcell1 hcc1 hbs1 hf HBr
            go_wp2_with fail
            refine HD.out.mono ?_
            rintro E w9 ⟨rfl, h1, h2⟩
            have I9 : Hid (IsBad g w9 (runT b8 ((p.enum.take (j + 1)).map docT))) := Lib.hid (by rw [Hst.out, runT_append]; exact h1)
            have K9 := Lib.hid (HK.out.trans h2)
            clear h1 h2 HD HI HK e0
            go_wp2_with fail
            go_roundg k
            case measure => omega
            case rel => exact ⟨j + 1, by omega, by go_num, I9, K9⟩
          | zero =>
            have hjl : en = j := by omega
            subst hjl
            have q9 : ¬ (en : Int) < (en : Int) := by omega
            have htk : p.enum.take en = p.enum := List.take_of_length_le (by rw [Hen.out]; exact Nat.le_refl _)
            rw [htk] at HI
            obtain ⟨b9, hb9⟩ : ∃ b, runT b8 (p.enum.map docT) = b := ⟨_, rfl⟩
            rw [hb9] at HI HRES
            have dd := fun i => cell_block (HK.out.keep BX.out n6) i
            have HKw : Hid (But g w wr) := Lib.hid ((But.of HB12.out).trans HK.out)
            clear hb9 htk hjk
            by_cases hd : p.deflt = ByteArray.empty
            · have t1 : p.deflt.toList = [] := by rw [hd, ByteArray.toList_eq]; rfl
              have t2 : p.deflt.toList.isEmpty = true := by rw [t1]; rfl
              have HR : Hid (b9 = RES) := Lib.hid (by have := HRES.out; rw [if_pos hd] at this; exact this)
              clear hd
              go_wp2_with fail
              go_end0
              exact ⟨rfl, by rw [← HR.out]; exact HI.out, HKw.out⟩
            · have t1 : p.deflt.toList.isEmpty = false := by
                cases h : p.deflt.toList with
                | nil => exact absurd (toList_inj (h.trans (show ([] : List UInt8) = ByteArray.empty.toList by rw [ByteArray.toList_eq]; rfl))) hd
                | cons _ _ => rfl
              have t2 : (!p.deflt.toList.isEmpty) = true := by rw [t1]; rfl
              have HR : Hid (runT b9 [docT p.deflt] = RES) := Lib.hid (by have := HRES.out; rw [if_neg hd] at this; exact this)
              have HD := Lib.hid (document_any g b9 p.deflt wr HI.out Hsm.out.2.2.2.2)
              clear hd
              go_wp2_with fail
              refine HD.out.mono ?_
              rintro E w9 ⟨rfl, h1, h2⟩
              have I9 : Hid (IsBad g w9 RES) := Lib.hid (by rw [← HR.out]; exact h1)
              have K9 := Lib.hid (HKw.out.trans h2)
              clear h1 h2 HD
              go_wp2_with fail
              go_end0
              exact ⟨rfl, I9.out, K9.out⟩
end Sch
end Go.Proofs.YtnmhjabihfhobaaGreatDoor
