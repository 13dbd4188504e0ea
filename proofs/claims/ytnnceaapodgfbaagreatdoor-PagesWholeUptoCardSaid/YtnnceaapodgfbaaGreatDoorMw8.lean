/- Texts of ours joined. -/
import Derived.Shelf.SlLaysF0
import Derived.Test.YtnnceaapodgfbaaGreatDoorProg
import Derived.Shelf.SlSortCmp.Kit1
import Derived.Shelf.SlSortCmp.NoneTotal
import Derived.Test.YtnnceaapodgfbaaGreatDoorMw7
set_option linter.unusedVariables false
set_option linter.unusedSimpArgs false
namespace Go.Proofs.YtnnceaapodgfbaaGreatDoor
namespace Sto
open Go.RowKit
structure Home (w0 : World) (D : Dom) (w : World) : Prop where
  tab : TabOK w0
  max : ∃ m, MaxOK m w0
  bel : Below w0.heap.size w0 w
  own : ∀ b, D b → w0.heap.size ≤ b
theorem Home.only {w0 w w' : World} {D D' : Dom} (h : Home w0 D w) (hO : Only D w w') (hD : ∀ b, D' b → D b ∨ w.heap.size ≤ b) : Home w0 D' w' :=
  ⟨h.tab, h.max, h.bel.trans (hO.below h.own h.bel.size), fun b hb => (hD b hb).elim (h.own b) fun h9 => by have := h.bel.size; omega⟩
theorem Home.below {w0 w w' : World} {D : Dom} (h : Home w0 D w) (hb : Below w.heap.size w w') : Home w0 D w' := h.only (Only.of hb) fun _ h => .inl h
theorem Home.tabs {w0 w : World} {D : Dom} (h : Home w0 D w) : TabOK w := h.tab.below h.bel
theorem Home.maxs {w0 w : World} {D : Dom} (h : Home w0 D w) : ∃ m, MaxOK m w := let ⟨m, hm⟩ := h.max; ⟨m, hm.below h.bel⟩
def Did (D : Dom) (w : World) (g : Nat) (T : Told) (e : Ending) (w' : World) : Prop :=
  ∃ D' E u1 u2 u3, e = .returned (.tuple #[objW T.2.1 u1 u2 u3, .int .i64 T.2.2]) ∧ StoreAt D' w' g T.1 ∧ ObjIn E w' u1 u2 u3 T.2.1 ∧ (∀ b, E b → w.heap.size ≤ b ∧ b < w'.heap.size ∧ ¬ D' b) ∧ (∀ b, D' b → D b ∨ w.heap.size ≤ b) ∧ Only D w w'
theorem objIn_no (w : World) : ObjIn (fun _ => False) w nilS nilS nilS noObj := ⟨OwnX.nil, OwnX.nil, OwnX.nil⟩
theorem did_no {D : Dom} {w w' : World} {g : Nat} {S : St} {er : Int} (h : StoreAt D w g S) (hb : Below w.heap.size w w') {T : Told} (hT : T = (S, noObj, er)) : Did D w g T (.returned (.tuple #[.agg noA, .int .i64 er])) w' := by
  subst hT
  exact ⟨D, fun _ => False, nilS, nilS, nilS, rfl, h.belowW hb, objIn_no _, fun b hb => hb.elim, fun b hb => .inl hb, Only.of hb⟩
theorem put_did {D M I J : Dom} {w w7 w8 w9 : World} {g mb nn gr : Nat} {f : GKey → Option Value} {vlog : Value} {S : St} {kind : Int} {o : GObject} (h : StoreIn M I w g mb nn f vlog S) (hD : ∀ b, D b ↔ M b ∨ I b) (hb7 : Below w.heap.size w w7) (hgr : w.heap.size ≤ gr ∧ gr < w7.heap.size) (hJ : ∀ b, J b → I b ∨ (w.heap.size ≤ b ∧ b ≠ gr ∧ b < w7.heap.size))
    {E : Dom} {u1 u2 u3 : Value} {M' : Dom} {n' : Nat} {f' : GKey → Option Value} {vlog' : Value} (p1 : ObjIn E w8 u1 u2 u3 (putO (S.rev + 1) kind o)) (p2 : ∀ b, E b → w7.heap.size ≤ b ∧ b < w8.heap.size) (p3 : StoreIn M' (fun b => I b ∨ J b) w8 g mb n' f' vlog' (put S kind o)) (p4 : ∀ b, M' b → M b ∨ (w7.heap.size ≤ b ∧ ¬ E b)) (p5 : Only M w7 w8) (t9 : Touch gr w8 w9) :
    Did D w g (doPut S kind o) (.returned (.tuple #[objW (putO (S.rev + 1) kind o) u1 u2 u3, .int .i64 0])) w9 := by
  have s7 := hb7.size
  have s8 := p5.size
  have s9 := t9.size
  have hlow := h.low
  refine ⟨fun b => M' b ∨ I b ∨ J b, E, u1, u2, u3, rfl, ⟨M', fun b => I b ∨ J b, mb, n', f', vlog', p3.agree (fun b hb => t9.other b fun e => ?_) (by omega), fun b => Iff.rfl⟩, p1.agree fun b hb => t9.other b fun e => by have := (p2 b hb).1; omega, fun b hb => ⟨by have := (p2 b hb).1; omega, by have := (p2 b hb).2; omega, fun h9 => ?_⟩, fun b hb => ?_, ?_⟩
  · subst e
    rcases hb with hb | hb | hb
    · rcases p4 b hb with h1 | h1
      · have := hlow b (.inl h1); omega
      · omega
    · have := hlow b (.inr hb); omega
    · rcases hJ b hb with h1 | h1
      · have := hlow b (.inr h1); omega
      · exact h1.2.1 rfl
  · have he := p2 b hb
    rcases h9 with h9 | h9 | h9
    · rcases p4 b h9 with h1 | h1
      · have := hlow b (.inl h1); omega
      · exact h1.2 hb
    · have := hlow b (.inr h9); omega
    · rcases hJ b h9 with h1 | h1
      · have := hlow b (.inr h1); omega
      · omega
  · rcases hb with hb | hb | hb
    · rcases p4 b hb with h1 | h1
      · exact .inl ((hD b).2 (.inl h1))
      · exact .inr (by omega)
    · exact .inl ((hD b).2 (.inr hb))
    · rcases hJ b hb with h1 | h1
      · exact .inl ((hD b).2 (.inr h1))
      · exact .inr h1.1
  · have x1 : Only D w w8 := Only.after hb7 (p5.mono fun b hb => (hD b).2 (.inl hb))
    exact x1.trans (Only.touch (D := fun b => b = gr) t9 rfl) fun b hb hl => by omega
theorem results_two_obj {fn : Func} {p q : Tmp} (h : fn.results = #[.cell p 30, .tmp q]) (tmps : Array Value) (w : World) (g : Nat) (cs : Array Value) (hp : tmps.getD p undef = .pointer (some ⟨g, 0, none⟩)) (hg : w.heap[g]? = some (.cells cs 30 (0, 0))) (hs : cs.size = 10) :
    (results fn tmps).run Tryz.prog w = .ok (.tuple #[.agg cs, tmps.getD q undef]) w :=
  results_two_box h tmps w g _ cs (0, 0) _ hp hg Tryz.underlying30 rfl (by rw [hs]; exact Tryz.sizeObj)
theorem okObj_kept {o : GObject} (h : OkObj o) : OkObj (keptO o) :=
  ⟨h.kind, h.space, h.name, h.labels, h.owners, h.holds, by show (0 : Nat) ≤ _; omega, h.rev, by
    show (mkB _).size ≤ _
    rw [mkB_size]
    have := JP.canonT_le o.doc.data.toList
    omega⟩
theorem okKey_of {o : GObject} (h : OkObj o) : okKey o.okey := ⟨by have := h.kind; unfold maxLen; omega, by have := h.space; unfold maxLen; omega, by have := h.name; unfold maxLen; omega⟩
theorem cur_mem {l : List GEvent} {k : GKey} {o : GObject} (h : cur l k = some o) : ∃ e ∈ l, e.object = o := by
  unfold cur at h
  cases hg : (hits l k).getLast? with
  | none => rw [hg] at h; cases h
  | some e =>
    rw [hg] at h
    dsimp only at h
    split at h
    · cases h
    · cases h
      have := List.mem_of_getLast? hg
      unfold hits at this
      exact ⟨e, (List.mem_filter.1 this).1, rfl⟩
theorem live_low {S : St} (h : Good S) : -4194304 ≤ live S.log ∧ live S.log ≤ 4194304 := by
  have h1 := h.full
  have h2 := live_keys h.fitAll [] List.nodup_nil (fun _ h => by cases h)
  have h3 : (([] : List GKey).length : Int) = 0 := rfl
  omega
set_option maxRecDepth 100000 in
set_option maxHeartbeats 6400000 in
theorem create_any {D : Dom} {w0 w : World} {g : Nat} {S : St} (h : StoreAt D w g S) (hH : Home w0 D w) (hS : OkSt S) (hrv : S.rev ≤ 4194303) (o : GObject) (v1 v2 v3 : Value) (hl : RowAt LabelR 2 w v1 o.labels) (ho : StrAt w v2 o.owners) (hh : StrAt w v3 o.holds) (hok : OkObj o) :
    Calls Tryz.prog 60 #[.pointer (some ⟨g, 0, none⟩), objW o v1 v2 v3] w (Did D w g (create S o)) := by
  obtain ⟨M, I, mb, nn, f, vlog, hin, hD⟩ := h
  obtain ⟨a1, c1, rfl, -, -⟩ := hl.len
  obtain ⟨a2, c2, rfl, -, -⟩ := ho.row.len
  obtain ⟨a3, c3, rfl, -, -⟩ := hh.row.len
  obtain ⟨n1, Hn1⟩ : ∃ n, Hid (o.labels.length = n) := ⟨_, Lib.hid rfl⟩
  obtain ⟨n2, Hn2⟩ : ∃ n, Hid (o.owners.length = n) := ⟨_, Lib.hid rfl⟩
  obtain ⟨n3, Hn3⟩ : ∃ n, Hid (o.holds.length = n) := ⟨_, Lib.hid rfl⟩
  rw [Hn1.out] at hl
  rw [Hn2.out] at ho
  rw [Hn3.out] at hh
  rw [Hn1.out, Hn2.out, Hn3.out]
  obtain ⟨er, Her⟩ : ∃ x, Hid (objE o = x) := ⟨_, Lib.hid rfl⟩
  obtain ⟨T, HT⟩ : ∃ T, Hid (create S o = T) := ⟨_, Lib.hid rfl⟩
  rw [HT.out]
  have HIn := Lib.hid hin
  have HD := Lib.hid hD
  have HH := Lib.hid hH
  have HS := Lib.hid hS
  have Hok := Lib.hid hok
  obtain ⟨w1, hw1⟩ : ∃ w1, w1 = (w.alloc (.cells #[.string o.okey.kind, .string o.okey.space, .string o.okey.name, .slice a1 n1 c1, .slice a2 n2 c2, .slice a3 n3 c3, .bool o.ending, .string o.uid, .int .i64 o.rev, .string o.doc] 30)).alloc (.cells noA 30) := ⟨_, rfl⟩
  obtain ⟨gb, hgb⟩ : ∃ gb, gb = w.heap.size := ⟨_, rfl⟩
  obtain ⟨gr, hgr⟩ : ∃ gr, gr = w.heap.size + 1 := ⟨_, rfl⟩
  have B1 : Hid (w1.heap[gb]? = some (.cells #[.string o.okey.kind, .string o.okey.space, .string o.okey.name, .slice a1 n1 c1, .slice a2 n2 c2, .slice a3 n3 c3, .bool o.ending, .string o.uid, .int .i64 o.rev, .string o.doc] 30 (0, 0))) := Lib.hid (by rw [hw1, hgb]; exact heap_alloc_old (heap_alloc_new w _))
  have R1 : Hid (w1.heap[gr]? = some (.cells noA 30 (0, 0))) := Lib.hid (by rw [hw1, hgr]; exact heap_alloc_at (World.size_alloc _ _).symm)
  have hb1 : Below w.heap.size w w1 := by rw [hw1]; exact ((Below.refl _ w).alloc (Nat.le_refl _) _).alloc (by rw [World.size_alloc]; omega) _
  have hs1 : w1.heap.size = w.heap.size + 2 := by rw [hw1, World.size_alloc, World.size_alloc]
  have Hb1 := Lib.hid hb1
  have hne : gb ≠ gr := by omega
  have hwb : w.heap.size ≤ gb := by omega
  have hwr : w.heap.size ≤ gr := by omega
  have hrl : gr < w.heap.size + 2 := by omega
  have hbl : gb < w.heap.size + 2 := by omega
  have HC := Lib.hid (checkObj_any o (.slice a1 n1 c1) (.slice a2 n2 c2) (.slice a3 n3 c3) w1 (hl.below stays_label hb1) (ho.below hb1) (hh.below hb1) hok (hH.below hb1).tabs (hH.below hb1).maxs)
  rw [Her.out, show objW o (.slice a1 n1 c1) (.slice a2 n2 c2) (.slice a3 n3 c3) = .agg #[.string o.okey.kind, .string o.okey.space, .string o.okey.name, .slice a1 n1 c1, .slice a2 n2 c2, .slice a3 n3 c3, .bool o.ending, .string o.uid, .int .i64 o.rev, .string o.doc] from rfl] at HC
  have HL := Lib.hid hl
  have HO := Lib.hid ho
  have HHh := Lib.hid hh
  have hgl := hin.low g (.inl hin.gM)
  clear hl ho hh hok hb1 hin hD hH hS
  rw [show objW o (.slice a1 n1 c1) (.slice a2 n2 c2) (.slice a3 n3 c3) = .agg #[.string o.okey.kind, .string o.okey.space, .string o.okey.name, .slice a1 n1 c1, .slice a2 n2 c2, .slice a3 n3 c3, .bool o.ending, .string o.uid, .int .i64 o.rev, .string o.doc] from rfl]
  go_enter Tryz.func60, Tryz.ntmps60
  go_upto_region 1 with fail
  have hex : ((w.alloc (.cells #[.string o.okey.kind, .string o.okey.space, .string o.okey.name, .slice a1 n1 c1, .slice a2 n2 c2, .slice a3 n3 c3, .bool o.ending, .string o.uid, .int .i64 o.rev, .string o.doc] 30)).alloc (.cells #[.string { data := #[] }, .string { data := #[] }, .string { data := #[] }, .slice none 0 0, .slice none 0 0, .slice none 0 0, .bool false, .string { data := #[] }, .int .i64 0, .string { data := #[] }] 30)) = w1 := hw1.symm
  rw [hex]
  try rw [← hgr]
  rw [← hgb]
  clear hw1 hex hgb hgr
  have cc := fun i => cell_block B1.out i
  go_wp2_with fail
  refine HC.out.mono ?_
  rintro E w2 ⟨rfl, hb2⟩
  have B2 := Lib.hid (below_block hb2 B1.out)
  have R2 := Lib.hid (below_block hb2 R1.out)
  have Hb2 := Lib.hid (Hb1.out.trans (hb2.mono (by omega)))
  have hs2 := hb2.size
  clear hb2 HC cc B1 R1
  by_cases her : er = 0
  · subst her
    have cc := fun i => cell_block B2.out i
    have HLa := Lib.hid (last_any (HIn.out.belowW Hb2.out) o.okey (okKey_of Hok.out) HS.out.rev)
    go_wp2_with fail
    refine HLa.out.mono ?_
    rintro E w3 ⟨hb3, hlast⟩
    have B3 := Lib.hid (below_block hb3 B2.out)
    have R3 := Lib.hid (below_block hb3 R2.out)
    have Hb3 := Lib.hid (Hb2.out.trans (hb3.mono (by omega)))
    have hs3 := hb3.size
    clear hb3 cc B2 R2 HLa
    rcases hlast with ⟨hc, rfl⟩ | ⟨was, v1', v2', v3', hc, rfl, hwo⟩
    · have Hc := Lib.hid hc
      have hT0 := HT.out
      unfold create at hT0
      rw [Her.out, if_neg (fun h => h rfl), Hc.out, if_neg (by decide)] at hT0
      have HT0 := Lib.hid hT0.symm
      rw [show noW = .agg noA from rfl]
      clear hc HT hT0
      obtain ⟨g7, hg7⟩ : ∃ g7, g7 = w3.heap.size := ⟨_, rfl⟩
      have H7 := Lib.hid (heap_alloc_new w3 (.cells noA 30))
      have Hb4 := Lib.hid (Hb3.out.alloc (by omega) (.cells noA 30))
      have B4 := Lib.hid (below_block ((Below.refl _ w3).alloc (Nat.le_refl _) (.cells noA 30)) B3.out)
      have R4 := Lib.hid (below_block ((Below.refl _ w3).alloc (Nat.le_refl _) (.cells noA 30)) R3.out)
      have hs4 : (w3.alloc (.cells noA 30)).heap.size = w3.heap.size + 1 := World.size_alloc _ _
      have hg3 := hg7
      clear hg3
      go_wp2_with (refine wpList_store_box (by rfl) _ _ _ (by rfl) w3.heap.size noA (by rfl) (by rfl) _ _ (by exact H7.out) (by exact Tryz.sizeObj) (by rfl) (by simp [Value.oneCell', noA]) ?_)
      intro w5 b5 t5
      have Z5 := Lib.hid b5
      have B5 := Lib.hid (t5.block B4.out (by omega))
      have R5 := Lib.hid (t5.block R4.out (by omega))
      have Hb5 := Lib.hid (t5.below Hb4.out (by omega))
      have hs5 : w5.heap.size = w3.heap.size + 1 := t5.size.trans hs4
      clear b5 t5 hs4 H7 B4 R4 Hb4 hg7
      have hbx := (HIn.out.belowW Hb5.out).box
      have cg := fun i => cell_block hbx i
      obtain ⟨lv, Hlv⟩ : ∃ lv, Hid (live S.log = lv) := ⟨_, Lib.hid rfl⟩
      rw [Hlv.out] at cg HT0
      clear hbx Z5
      by_cases h60 : lv = 60
      · subst h60
        have HT1 : Hid (T = (S, noObj, 22)) := Lib.hid (by rw [HT0.out, if_pos rfl])
        clear HT0
        go_wp2_with (refine wpList_store_box (by rfl) _ _ _ (by rfl) gr noA (by rfl) (by rfl) _ _ (by exact R5.out) (by exact Tryz.sizeObj) (by rfl) (by simp [Value.oneCell', noA]) ?_)
        intro WF bF tF
        have BF := Lib.hid bF
        have HF := Lib.hid (tF.below Hb5.out hwr)
        clear bF tF
        go_wp2_with fail
        refine bodyPost_ret (v := .tuple #[.agg noA, .int .i64 22]) ?_ rfl ?_
        · exact results_two_obj Tryz.results60 _ _ gr _ (by rfl) BF.out rfl
        · exact did_no ⟨M, I, mb, nn, f, vlog, HIn.out, HD.out⟩ HF.out (HT1.out)
      · have q60 : (lv == 60) = false := by rw [beq_eq_false_iff_ne]; exact h60
        have HTE : Hid (T = doPut S 1 { keptO o with ending := false }) := Lib.hid (by rw [HT0.out, if_neg h60])
        clear h60 HT0
        have cc := fun i => cell_block B5.out i
        have HK := Lib.hid (kept_any o (.slice a1 n1 c1) (.slice a2 n2 c2) (.slice a3 n3 c3) w5 (by rw [← Hn1.out]; rw [Hn1.out]; exact HL.out.below stays_label Hb5.out) (HO.out.below Hb5.out) (HHh.out.below Hb5.out) Hok.out (HH.out.below Hb5.out).tabs)
        rw [show objW o (.slice a1 n1 c1) (.slice a2 n2 c2) (.slice a3 n3 c3) = .agg #[.string o.okey.kind, .string o.okey.space, .string o.okey.name, .slice a1 n1 c1, .slice a2 n2 c2, .slice a3 n3 c3, .bool o.ending, .string o.uid, .int .i64 o.rev, .string o.doc] from rfl] at HK
        go_wp2_with fail
        refine HK.out.mono ?_
        rintro E w6 ⟨EK, x1, x2, x3, rfl, ko, kE, hb6⟩
        obtain ⟨d1, e1, rfl, -, -⟩ := ko.labels.own.row.len
        obtain ⟨d2, e2, rfl, -, -⟩ := ko.owners.own.row.len
        obtain ⟨d3, e3, rfl, -, -⟩ := ko.holds.own.row.len
        obtain ⟨m1, Hm1⟩ : ∃ n, Hid ((keptO o).labels.length = n) := ⟨_, Lib.hid rfl⟩
        obtain ⟨m2, Hm2⟩ : ∃ n, Hid ((keptO o).owners.length = n) := ⟨_, Lib.hid rfl⟩
        obtain ⟨m3, Hm3⟩ : ∃ n, Hid ((keptO o).holds.length = n) := ⟨_, Lib.hid rfl⟩
        rw [Hm1.out, Hm2.out, Hm3.out] at ko ⊢
        have KO := Lib.hid ko
        have KE := Lib.hid kE
        have B6 := Lib.hid (below_block hb6 B5.out)
        have R6 := Lib.hid (below_block hb6 R5.out)
        have Hb6 := Lib.hid (Hb5.out.trans (hb6.mono (by omega)))
        have hs6 := hb6.size
        clear ko kE hb6 cc HK B5 R5
        obtain ⟨K, HK⟩ : ∃ K, Hid (keptO o = K) := ⟨_, Lib.hid rfl⟩
        rw [HK.out] at KO ⊢
        rw [show objW K (.slice d1 m1 e1) (.slice d2 m2 e2) (.slice d3 m3 e3) = .agg #[.string K.okey.kind, .string K.okey.space, .string K.okey.name, .slice d1 m1 e1, .slice d2 m2 e2, .slice d3 m3 e3, .bool K.ending, .string K.uid, .int .i64 K.rev, .string K.doc] from rfl]
        go_wp2_with (refine wpList_store_box (by rfl) _ _ _ (by rfl) gb #[.string K.okey.kind, .string K.okey.space, .string K.okey.name, .slice d1 m1 e1, .slice d2 m2 e2, .slice d3 m3 e3, .bool K.ending, .string K.uid, .int .i64 K.rev, .string K.doc] (by rfl) (by rfl) _ _ (by exact B6.out) (by exact Tryz.sizeObj) (by rfl) (by simp [Value.oneCell']) ?_)
        intro w7 b7 t7
        have B7 := Lib.hid b7
        have R7 := Lib.hid (t7.block R6.out (Ne.symm hne))
        have Hb7 := Lib.hid (t7.below Hb6.out hwb)
        have hs7 := t7.size
        have KO7 := Lib.hid (KO.out.agree fun b hb => t7.other b fun e => by have := (KE.out b hb).1; omega)
        clear b7 t7 B6 R6 KO
        have fb := fun i => free_block B7.out i
        have cb := fun i => cell_block B7.out i
        obtain ⟨w8, hw8⟩ : ∃ w8, w7.setCell ⟨gb, 6, none⟩ (.bool false) = w8 := ⟨_, rfl⟩
        have t1 := touch_setCell (i := 6) (v := .bool false) B7.out
        rw [hw8] at t1
        have B8 : Hid (w8.heap[gb]? = some (.cells #[.string K.okey.kind, .string K.okey.space, .string K.okey.name, .slice d1 m1 e1, .slice d2 m2 e2, .slice d3 m3 e3, .bool false, .string K.uid, .int .i64 K.rev, .string K.doc] 30 (0, 0))) := Lib.hid t1.1
        have R8 := Lib.hid (t1.2.block R7.out (Ne.symm hne))
        have Hb8 := Lib.hid (t1.2.below Hb7.out hwb)
        have hs8 := t1.2.size
        have KO8 := Lib.hid (KO7.out.agree fun b hb => t1.2.other b fun e => by have := (KE.out b hb).1; omega)
        go_upto_region 11 with fail
        try rw [hw8]
        clear t1 hw8 fb cb B7 R7 Hb7 KO7
        obtain ⟨O, HOe⟩ : ∃ O : GObject, Hid (O = { K with ending := false }) := ⟨_, Lib.hid rfl⟩
        have KO9 : Hid (ObjIn EK w8 (.slice d1 m1 e1) (.slice d2 m2 e2) (.slice d3 m3 e3) O) := Lib.hid (by rw [HOe.out]; exact KO8.out.other rfl rfl rfl)
        have hJ : ∀ b, EK b → b < w8.heap.size ∧ ¬ M b := fun b hb => ⟨by have := (KE.out b hb).2; omega, fun hm => by have := HIn.out.low b (.inl hm); have := (KE.out b hb).1; omega⟩
        have hokO : OkObj O := by
          have h9 := okObj_kept Hok.out
          rw [HK.out] at h9
          rw [HOe.out]
          exact ⟨h9.kind, h9.space, h9.name, h9.labels, h9.owners, h9.holds, h9.uid, h9.rev, h9.doc⟩
        have HP := Lib.hid (put_any (HIn.out.belowW Hb8.out) hrv (live_low HS.out.good) (fun w' hO => HH.out.tab.below ((HH.out.below Hb8.out).bel.trans (hO.below (fun b hb => HH.out.own b ((HD.out b).2 (.inl hb))) (by have := HH.out.bel.size; have := Hb8.out.size; omega)))) 1 (.inl rfl) O (.slice d1 m1 e1) (.slice d2 m2 e2) (.slice d3 m3 e3) KO9.out hJ hokO)
        rw [show objW O (.slice d1 m1 e1) (.slice d2 m2 e2) (.slice d3 m3 e3) = .agg #[.string O.okey.kind, .string O.okey.space, .string O.okey.name, .slice d1 m1 e1, .slice d2 m2 e2, .slice d3 m3 e3, .bool O.ending, .string O.uid, .int .i64 O.rev, .string O.doc] from rfl] at HP
        have BO : Hid (w8.heap[gb]? = some (.cells #[.string O.okey.kind, .string O.okey.space, .string O.okey.name, .slice d1 m1 e1, .slice d2 m2 e2, .slice d3 m3 e3, .bool O.ending, .string O.uid, .int .i64 O.rev, .string O.doc] 30 (0, 0))) := Lib.hid (by rw [HOe.out]; exact B8.out)
        have cb := fun i => cell_block BO.out i
        clear hJ hokO B8
        go_wp2_with fail
        refine HP.out.mono ?_
        rintro E w9 ⟨E9, y1, y2, y3, M', n', f', vlog', rfl, p1, p2, p3, p4, p5⟩
        have R9 : Hid (w9.heap[gr]? = some (.cells noA 30 (0, 0))) := Lib.hid ((p5.block gr (by omega) fun hm => by have := HIn.out.low gr (.inl hm); omega).trans R8.out)
        have P1 := Lib.hid p1
        have P2 := Lib.hid p2
        have P3 := Lib.hid p3
        have P4 := Lib.hid p4
        have P5 := Lib.hid p5
        obtain ⟨PO, HPO⟩ : ∃ PO, Hid (putO (S.rev + 1) 1 O = PO) := ⟨_, Lib.hid rfl⟩
        rw [HPO.out] at P1 ⊢
        clear p1 p2 p3 p4 p5 cb HP R8
        go_wp2_with (refine wpList_store_box (by rfl) _ _ _ (by rfl) gr (objCs PO y1 y2 y3).toArray (by rfl) (by rfl) _ _ (by exact R9.out) (by exact Tryz.sizeObj) (by rfl) (objA_ones P1.out) ?_)
        intro w10 b10 t10
        have B10 := Lib.hid b10
        have T10 := Lib.hid t10
        clear b10 t10
        go_wp2_with fail
        refine bodyPost_ret (v := .tuple #[objW PO y1 y2 y3, .int .i64 0]) ?_ rfl ?_
        · exact results_two_obj Tryz.results60 _ _ gr _ (by rfl) B10.out rfl
        · have h9 := put_did (kind := 1) (o := O) HIn.out HD.out Hb8.out ⟨hwr, by omega⟩ (fun b hb => .inr ⟨by have := (KE.out b hb).1; omega, fun e => by have := (KE.out b hb).1; omega, by have := (KE.out b hb).2; omega⟩) (by rw [HPO.out]; exact P1.out) P2.out P3.out P4.out P5.out T10.out
          rw [HPO.out] at h9
          rw [HTE.out, HK.out, ← HOe.out]
          exact h9
    · have Hc := Lib.hid hc
      have hT0 := HT.out
      unfold create at hT0
      rw [Her.out, if_neg (fun h => h rfl), Hc.out, if_pos (show (some was).isSome = true from rfl)] at hT0
      have HT0 := Lib.hid hT0.symm
      have HW := Lib.hid hwo
      clear hc HT hT0 hwo
      obtain ⟨g7, hg7⟩ : ∃ g7, g7 = w3.heap.size := ⟨_, rfl⟩
      have H7 := Lib.hid (heap_alloc_new w3 (.cells noA 30))
      have Hb4 := Lib.hid (Hb3.out.alloc (by omega) (.cells noA 30))
      have B4 := Lib.hid (below_block ((Below.refl _ w3).alloc (Nat.le_refl _) (.cells noA 30)) B3.out)
      have R4 := Lib.hid (below_block ((Below.refl _ w3).alloc (Nat.le_refl _) (.cells noA 30)) R3.out)
      have hs4 : (w3.alloc (.cells noA 30)).heap.size = w3.heap.size + 1 := World.size_alloc _ _
      go_wp2_with (refine wpList_store_box (by rfl) _ _ _ (by rfl) w3.heap.size (objCs was v1' v2' v3').toArray (by rfl) (by rfl) _ _ (by exact H7.out) (by exact Tryz.sizeObj) (by rfl) (objA_ones HW.out) ?_)
      intro w5 b5 t5
      have Z5 := Lib.hid b5
      have B5 := Lib.hid (t5.block B4.out (by omega))
      have R5 := Lib.hid (t5.block R4.out (by omega))
      have Hb5 := Lib.hid (t5.below Hb4.out (by omega))
      have hs5 : w5.heap.size = w3.heap.size + 1 := t5.size.trans hs4
      clear b5 t5 hs4 H7 B4 R4 Hb4 hg7
      go_wp2_with (refine wpList_store_box (by rfl) _ _ _ (by rfl) gr noA (by rfl) (by rfl) _ _ (by exact R5.out) (by exact Tryz.sizeObj) (by rfl) (by simp [Value.oneCell', noA]) ?_)
      intro WF bF tF
      have BF := Lib.hid bF
      have HF := Lib.hid (tF.below Hb5.out hwr)
      clear bF tF
      go_wp2_with fail
      refine bodyPost_ret (v := .tuple #[.agg noA, .int .i64 5]) ?_ rfl ?_
      · exact results_two_obj Tryz.results60 _ _ gr _ (by rfl) BF.out rfl
      · exact did_no ⟨M, I, mb, nn, f, vlog, HIn.out, HD.out⟩ HF.out (HT0.out)
  · have q0 : (er == 0) = false := by rw [beq_eq_false_iff_ne]; exact her
    have hT0 := HT.out
    unfold create at hT0
    rw [Her.out, if_pos her] at hT0
    have HT0 := Lib.hid hT0.symm
    clear her HT hT0
    go_wp2_with (refine wpList_store_box (by rfl) _ _ _ (by rfl) gr noA (by rfl) (by rfl) _ _ (by exact R2.out) (by exact Tryz.sizeObj) (by rfl) (by simp [Value.oneCell', noA]) ?_)
    intro WF bF tF
    have BF := Lib.hid bF
    have HF := Lib.hid (tF.below Hb2.out hwr)
    clear bF tF
    go_wp2_with fail
    refine bodyPost_ret (v := .tuple #[.agg noA, .int .i64 er]) ?_ rfl ?_
    · exact results_two_obj Tryz.results60 _ _ gr _ (by rfl) BF.out rfl
    · exact did_no ⟨M, I, mb, nn, f, vlog, HIn.out, HD.out⟩ HF.out (HT0.out)
set_option maxRecDepth 100000 in
set_option maxHeartbeats 6400000 in
theorem update_any {D : Dom} {w0 w : World} {g : Nat} {S : St} (h : StoreAt D w g S) (hH : Home w0 D w) (hS : OkSt S) (hrv : S.rev ≤ 4194303) (o : GObject) (v1 v2 v3 : Value) (hl : RowAt LabelR 2 w v1 o.labels) (ho : StrAt w v2 o.owners) (hh : StrAt w v3 o.holds) (hok : OkObj o) :
    Calls Tryz.prog 17 #[.pointer (some ⟨g, 0, none⟩), objW o v1 v2 v3] w (Did D w g (update S o)) := by
  obtain ⟨M, I, mb, nn, f, vlog, hin, hD⟩ := h
  obtain ⟨a1, c1, rfl, -, -⟩ := hl.len
  obtain ⟨a2, c2, rfl, -, -⟩ := ho.row.len
  obtain ⟨a3, c3, rfl, -, -⟩ := hh.row.len
  obtain ⟨n1, Hn1⟩ : ∃ n, Hid (o.labels.length = n) := ⟨_, Lib.hid rfl⟩
  obtain ⟨n2, Hn2⟩ : ∃ n, Hid (o.owners.length = n) := ⟨_, Lib.hid rfl⟩
  obtain ⟨n3, Hn3⟩ : ∃ n, Hid (o.holds.length = n) := ⟨_, Lib.hid rfl⟩
  rw [Hn1.out] at hl
  rw [Hn2.out] at ho
  rw [Hn3.out] at hh
  rw [Hn1.out, Hn2.out, Hn3.out]
  obtain ⟨er, Her⟩ : ∃ x, Hid (objE o = x) := ⟨_, Lib.hid rfl⟩
  obtain ⟨T, HT⟩ : ∃ T, Hid (update S o = T) := ⟨_, Lib.hid rfl⟩
  rw [HT.out]
  have HIn := Lib.hid hin
  have HD := Lib.hid hD
  have HH := Lib.hid hH
  have HS := Lib.hid hS
  have Hok := Lib.hid hok
  obtain ⟨w1, hw1⟩ : ∃ w1, w1 = (w.alloc (.cells #[.string o.okey.kind, .string o.okey.space, .string o.okey.name, .slice a1 n1 c1, .slice a2 n2 c2, .slice a3 n3 c3, .bool o.ending, .string o.uid, .int .i64 o.rev, .string o.doc] 30)).alloc (.cells noA 30) := ⟨_, rfl⟩
  obtain ⟨gb, hgb⟩ : ∃ gb, gb = w.heap.size := ⟨_, rfl⟩
  obtain ⟨gr, hgr⟩ : ∃ gr, gr = w.heap.size + 1 := ⟨_, rfl⟩
  have B1 : Hid (w1.heap[gb]? = some (.cells #[.string o.okey.kind, .string o.okey.space, .string o.okey.name, .slice a1 n1 c1, .slice a2 n2 c2, .slice a3 n3 c3, .bool o.ending, .string o.uid, .int .i64 o.rev, .string o.doc] 30 (0, 0))) := Lib.hid (by rw [hw1, hgb]; exact heap_alloc_old (heap_alloc_new w _))
  have R1 : Hid (w1.heap[gr]? = some (.cells noA 30 (0, 0))) := Lib.hid (by rw [hw1, hgr]; exact heap_alloc_at (World.size_alloc _ _).symm)
  have hb1 : Below w.heap.size w w1 := by rw [hw1]; exact ((Below.refl _ w).alloc (Nat.le_refl _) _).alloc (by rw [World.size_alloc]; omega) _
  have hs1 : w1.heap.size = w.heap.size + 2 := by rw [hw1, World.size_alloc, World.size_alloc]
  have Hb1 := Lib.hid hb1
  have hne : gb ≠ gr := by omega
  have hwb : w.heap.size ≤ gb := by omega
  have hwr : w.heap.size ≤ gr := by omega
  have hrl : gr < w.heap.size + 2 := by omega
  have hbl : gb < w.heap.size + 2 := by omega
  have HC := Lib.hid (checkObj_any o (.slice a1 n1 c1) (.slice a2 n2 c2) (.slice a3 n3 c3) w1 (hl.below stays_label hb1) (ho.below hb1) (hh.below hb1) hok (hH.below hb1).tabs (hH.below hb1).maxs)
  rw [Her.out, show objW o (.slice a1 n1 c1) (.slice a2 n2 c2) (.slice a3 n3 c3) = .agg #[.string o.okey.kind, .string o.okey.space, .string o.okey.name, .slice a1 n1 c1, .slice a2 n2 c2, .slice a3 n3 c3, .bool o.ending, .string o.uid, .int .i64 o.rev, .string o.doc] from rfl] at HC
  have HL := Lib.hid hl
  have HO := Lib.hid ho
  have HHh := Lib.hid hh
  have hgl := hin.low g (.inl hin.gM)
  clear hl ho hh hok hb1 hin hD hH hS
  rw [show objW o (.slice a1 n1 c1) (.slice a2 n2 c2) (.slice a3 n3 c3) = .agg #[.string o.okey.kind, .string o.okey.space, .string o.okey.name, .slice a1 n1 c1, .slice a2 n2 c2, .slice a3 n3 c3, .bool o.ending, .string o.uid, .int .i64 o.rev, .string o.doc] from rfl]
  go_enter Tryz.func17, Tryz.ntmps17
  go_upto_region 1 with fail
  have hex : ((w.alloc (.cells #[.string o.okey.kind, .string o.okey.space, .string o.okey.name, .slice a1 n1 c1, .slice a2 n2 c2, .slice a3 n3 c3, .bool o.ending, .string o.uid, .int .i64 o.rev, .string o.doc] 30)).alloc (.cells #[.string { data := #[] }, .string { data := #[] }, .string { data := #[] }, .slice none 0 0, .slice none 0 0, .slice none 0 0, .bool false, .string { data := #[] }, .int .i64 0, .string { data := #[] }] 30)) = w1 := hw1.symm
  rw [hex]
  try rw [← hgr]
  rw [← hgb]
  clear hw1 hex hgb hgr
  have cc := fun i => cell_block B1.out i
  go_wp2_with fail
  refine HC.out.mono ?_
  rintro E w2 ⟨rfl, hb2⟩
  have B2 := Lib.hid (below_block hb2 B1.out)
  have R2 := Lib.hid (below_block hb2 R1.out)
  have Hb2 := Lib.hid (Hb1.out.trans (hb2.mono (by omega)))
  have hs2 := hb2.size
  clear hb2 HC cc B1 R1
  by_cases her : er = 0
  · subst her
    have cc := fun i => cell_block B2.out i
    have HLa := Lib.hid (last_any (HIn.out.belowW Hb2.out) o.okey (okKey_of Hok.out) HS.out.rev)
    go_wp2_with fail
    refine HLa.out.mono ?_
    rintro E w3 ⟨hb3, hlast⟩
    have B3 := Lib.hid (below_block hb3 B2.out)
    have R3 := Lib.hid (below_block hb3 R2.out)
    have Hb3 := Lib.hid (Hb2.out.trans (hb3.mono (by omega)))
    have hs3 := hb3.size
    clear hb3 cc B2 R2 HLa
    rcases hlast with ⟨hc, rfl⟩ | ⟨was, v1', v2', v3', hc, rfl, hwo⟩
    · have Hc := Lib.hid hc
      have hT0 := HT.out
      unfold update at hT0
      rw [Her.out, if_neg (fun h => h rfl), Hc.out] at hT0
      have HT0 := Lib.hid hT0.symm
      rw [show noW = .agg noA from rfl]
      clear hc HT hT0
      obtain ⟨g7, hg7⟩ : ∃ g7, g7 = w3.heap.size := ⟨_, rfl⟩
      have H7 := Lib.hid (heap_alloc_new w3 (.cells noA 30))
      have Hb4 := Lib.hid (Hb3.out.alloc (by omega) (.cells noA 30))
      have B4 := Lib.hid (below_block ((Below.refl _ w3).alloc (Nat.le_refl _) (.cells noA 30)) B3.out)
      have R4 := Lib.hid (below_block ((Below.refl _ w3).alloc (Nat.le_refl _) (.cells noA 30)) R3.out)
      have hs4 : (w3.alloc (.cells noA 30)).heap.size = w3.heap.size + 1 := World.size_alloc _ _
      go_wp2_with (refine wpList_store_box (by rfl) _ _ _ (by rfl) w3.heap.size noA (by rfl) (by rfl) _ _ (by exact H7.out) (by exact Tryz.sizeObj) (by rfl) (by simp [Value.oneCell', noA]) ?_)
      intro w5 b5 t5
      have Z5 := Lib.hid b5
      have B5 := Lib.hid (t5.block B4.out (by omega))
      have R5 := Lib.hid (t5.block R4.out (by omega))
      have Hb5 := Lib.hid (t5.below Hb4.out (by omega))
      have hs5 : w5.heap.size = w3.heap.size + 1 := t5.size.trans hs4
      clear b5 t5 hs4 H7 B4 R4 Hb4 hg7
      go_wp2_with (refine wpList_store_box (by rfl) _ _ _ (by rfl) gr noA (by rfl) (by rfl) _ _ (by exact R5.out) (by exact Tryz.sizeObj) (by rfl) (by simp [Value.oneCell', noA]) ?_)
      intro WF bF tF
      have BF := Lib.hid bF
      have HF := Lib.hid (tF.below Hb5.out hwr)
      clear bF tF
      go_wp2_with fail
      refine bodyPost_ret (v := .tuple #[.agg noA, .int .i64 7]) ?_ rfl ?_
      · exact results_two_obj Tryz.results17 _ _ gr _ (by rfl) BF.out rfl
      · exact did_no ⟨M, I, mb, nn, f, vlog, HIn.out, HD.out⟩ HF.out (HT0.out)
    · have Hc := Lib.hid hc
      have hT0 := HT.out
      unfold update at hT0
      rw [Her.out, if_neg (fun h => h rfl), Hc.out] at hT0
      dsimp only at hT0
      have HT0 := Lib.hid hT0.symm
      have HW := Lib.hid hwo
      clear hc HT hT0 hwo
      obtain ⟨g7, hg7⟩ : ∃ g7, g7 = w3.heap.size := ⟨_, rfl⟩
      have H7 := Lib.hid (heap_alloc_new w3 (.cells noA 30))
      have Hb4 := Lib.hid (Hb3.out.alloc (by omega) (.cells noA 30))
      have B4 := Lib.hid (below_block ((Below.refl _ w3).alloc (Nat.le_refl _) (.cells noA 30)) B3.out)
      have R4 := Lib.hid (below_block ((Below.refl _ w3).alloc (Nat.le_refl _) (.cells noA 30)) R3.out)
      have hs4 : (w3.alloc (.cells noA 30)).heap.size = w3.heap.size + 1 := World.size_alloc _ _
      go_wp2_with (refine wpList_store_box (by rfl) _ _ _ (by rfl) w3.heap.size (objCs was v1' v2' v3').toArray (by rfl) (by rfl) _ _ (by exact H7.out) (by exact Tryz.sizeObj) (by rfl) (objA_ones HW.out) ?_)
      intro w5 b5 t5
      have Z5 := Lib.hid b5
      have B5 := Lib.hid (t5.block B4.out (by omega))
      have R5 := Lib.hid (t5.block R4.out (by omega))
      have Hb5 := Lib.hid (t5.below Hb4.out (by omega))
      have hs5 : w5.heap.size = w3.heap.size + 1 := t5.size.trans hs4
      clear b5 t5 hs4 H7 B4 R4 Hb4 hg7
      obtain ⟨we, Hwe⟩ : ∃ we, Hid (was.ending = we) := ⟨_, Lib.hid rfl⟩
      obtain ⟨g9, hg9⟩ : ∃ g9, w3.heap.size = g9 := ⟨_, rfl⟩
      have ZE : Hid (w5.heap[g9]? = some (.cells #[.string was.okey.kind, .string was.okey.space, .string was.okey.name, v1', v2', v3', .bool we, .string was.uid, .int .i64 was.rev, .string was.doc] 30 (0, 0))) := Lib.hid (by rw [← Hwe.out, ← hg9]; exact Z5.out)
      have hg9l : g9 < w5.heap.size := by omega
      have hg9b : w.heap.size + 2 ≤ g9 := by omega
      rw [hg9]
      clear hg9 Z5
      rw [Hwe.out] at HT0
      obtain ⟨oe, Hoe⟩ : ∃ oe, Hid (o.ending = oe) := ⟨_, Lib.hid rfl⟩
      have HT1 : Hid (T = if o.rev ≠ was.rev then (S, noObj, 12) else if we = true ∧ oe = false then (S, noObj, 1) else doPut S 2 { keptO o with uid := was.uid }) := Lib.hid (by rw [HT0.out, Hoe.out])
      have cc := fun i => cell_block B5.out i
      have cz := fun i => cell_block ZE.out i
      clear HT0
      by_cases hr : o.rev = was.rev
      · have q1 : (o.rev == was.rev) = true := by rw [beq_iff_eq]; exact hr
        have HT2 : Hid (T = if we = true ∧ oe = false then (S, noObj, 1) else doPut S 2 { keptO o with uid := was.uid }) := Lib.hid (by rw [HT1.out, if_neg (fun h => h hr)])
        clear hr HT1
        by_cases hen : we = true ∧ oe = false
        · obtain ⟨rfl, rfl⟩ := hen
          have HT3 : Hid (T = (S, noObj, 1)) := Lib.hid (by rw [HT2.out, if_pos ⟨rfl, rfl⟩])
          have hoe := Hoe.out
          clear HT2
          go_wp2_with (refine wpList_store_box (by rfl) _ _ _ (by rfl) gr noA (by rfl) (by rfl) _ _ (by exact R5.out) (by exact Tryz.sizeObj) (by rfl) (by simp [Value.oneCell', noA]) ?_)
          intro WF bF tF
          have BF := Lib.hid bF
          have HF := Lib.hid (tF.below Hb5.out hwr)
          clear bF tF
          go_wp2_with fail
          refine bodyPost_ret (v := .tuple #[.agg noA, .int .i64 1]) ?_ rfl ?_
          · exact results_two_obj Tryz.results17 _ _ gr _ (by rfl) BF.out rfl
          · exact did_no ⟨M, I, mb, nn, f, vlog, HIn.out, HD.out⟩ HF.out (HT3.out)
        · have HTE : Hid (T = doPut S 2 { keptO o with uid := was.uid }) := Lib.hid (by rw [HT2.out, if_neg hen])
          have hoe := Hoe.out
          clear HT2
          clear hoe
          cases we with
          | false =>
            go_upto_region 11 with fail
            obtain ⟨ev, hev1, hev2⟩ := cur_mem Hc.out
            have HWok : Hid (OkObj was) := Lib.hid (hev2 ▸ HS.out.obj ev hev1)
            clear hev1 hev2 cz q1
            have cc := fun i => cell_block B5.out i
            have HK := Lib.hid (kept_any o (.slice a1 n1 c1) (.slice a2 n2 c2) (.slice a3 n3 c3) w5 (by rw [← Hn1.out]; rw [Hn1.out]; exact HL.out.below stays_label Hb5.out) (HO.out.below Hb5.out) (HHh.out.below Hb5.out) Hok.out (HH.out.below Hb5.out).tabs)
            rw [show objW o (.slice a1 n1 c1) (.slice a2 n2 c2) (.slice a3 n3 c3) = .agg #[.string o.okey.kind, .string o.okey.space, .string o.okey.name, .slice a1 n1 c1, .slice a2 n2 c2, .slice a3 n3 c3, .bool o.ending, .string o.uid, .int .i64 o.rev, .string o.doc] from rfl] at HK
            go_wp2_with fail
            refine HK.out.mono ?_
            rintro E w6 ⟨EK, x1, x2, x3, rfl, ko, kE, hb6⟩
            obtain ⟨d1, e1, rfl, -, -⟩ := ko.labels.own.row.len
            obtain ⟨d2, e2, rfl, -, -⟩ := ko.owners.own.row.len
            obtain ⟨d3, e3, rfl, -, -⟩ := ko.holds.own.row.len
            obtain ⟨m1, Hm1⟩ : ∃ n, Hid ((keptO o).labels.length = n) := ⟨_, Lib.hid rfl⟩
            obtain ⟨m2, Hm2⟩ : ∃ n, Hid ((keptO o).owners.length = n) := ⟨_, Lib.hid rfl⟩
            obtain ⟨m3, Hm3⟩ : ∃ n, Hid ((keptO o).holds.length = n) := ⟨_, Lib.hid rfl⟩
            rw [Hm1.out, Hm2.out, Hm3.out] at ko ⊢
            have KO := Lib.hid ko
            have KE := Lib.hid kE
            have B6 := Lib.hid (below_block hb6 B5.out)
            have R6 := Lib.hid (below_block hb6 R5.out)
            have Z6 := Lib.hid (below_block hb6 ZE.out)
            have Hb6 := Lib.hid (Hb5.out.trans (hb6.mono (by omega)))
            have hs6 := hb6.size
            clear ko kE hb6 cc HK B5 R5
            obtain ⟨K, HK⟩ : ∃ K, Hid (keptO o = K) := ⟨_, Lib.hid rfl⟩
            rw [HK.out] at KO ⊢
            rw [show objW K (.slice d1 m1 e1) (.slice d2 m2 e2) (.slice d3 m3 e3) = .agg #[.string K.okey.kind, .string K.okey.space, .string K.okey.name, .slice d1 m1 e1, .slice d2 m2 e2, .slice d3 m3 e3, .bool K.ending, .string K.uid, .int .i64 K.rev, .string K.doc] from rfl]
            go_wp2_with (refine wpList_store_box (by rfl) _ _ _ (by rfl) gb #[.string K.okey.kind, .string K.okey.space, .string K.okey.name, .slice d1 m1 e1, .slice d2 m2 e2, .slice d3 m3 e3, .bool K.ending, .string K.uid, .int .i64 K.rev, .string K.doc] (by rfl) (by rfl) _ _ (by exact B6.out) (by exact Tryz.sizeObj) (by rfl) (by simp [Value.oneCell']) ?_)
            intro w7 b7 t7
            have B7 := Lib.hid b7
            have R7 := Lib.hid (t7.block R6.out (Ne.symm hne))
            have Z7 := Lib.hid (t7.block Z6.out (by omega))
            have Hb7 := Lib.hid (t7.below Hb6.out hwb)
            have hs7 := t7.size
            have KO7 := Lib.hid (KO.out.agree fun b hb => t7.other b fun e => by have := (KE.out b hb).1; omega)
            clear b7 t7 B6 R6 KO
            have cz := fun i => cell_block Z7.out i
            have fb := fun i => free_block B7.out i
            have cb := fun i => cell_block B7.out i
            obtain ⟨w8, hw8⟩ : ∃ w8, w7.setCell ⟨gb, 7, none⟩ (.string was.uid) = w8 := ⟨_, rfl⟩
            have t1 := touch_setCell (i := 7) (v := .string was.uid) B7.out
            rw [hw8] at t1
            have B8 : Hid (w8.heap[gb]? = some (.cells #[.string K.okey.kind, .string K.okey.space, .string K.okey.name, .slice d1 m1 e1, .slice d2 m2 e2, .slice d3 m3 e3, .bool K.ending, .string was.uid, .int .i64 K.rev, .string K.doc] 30 (0, 0))) := Lib.hid t1.1
            have R8 := Lib.hid (t1.2.block R7.out (Ne.symm hne))
            have Hb8 := Lib.hid (t1.2.below Hb7.out hwb)
            have hs8 := t1.2.size
            have KO8 := Lib.hid (KO7.out.agree fun b hb => t1.2.other b fun e => by have := (KE.out b hb).1; omega)
            go_upto_region 13 with fail
            try rw [hw8]
            clear cz t1 hw8 fb cb B7 R7 Hb7 KO7
            obtain ⟨O, HOe⟩ : ∃ O : GObject, Hid (O = { K with uid := was.uid }) := ⟨_, Lib.hid rfl⟩
            have KO9 : Hid (ObjIn EK w8 (.slice d1 m1 e1) (.slice d2 m2 e2) (.slice d3 m3 e3) O) := Lib.hid (by rw [HOe.out]; exact KO8.out.other rfl rfl rfl)
            have hJ : ∀ b, EK b → b < w8.heap.size ∧ ¬ M b := fun b hb => ⟨by have := (KE.out b hb).2; omega, fun hm => by have := HIn.out.low b (.inl hm); have := (KE.out b hb).1; omega⟩
            have hokO : OkObj O := by
              have h9 := okObj_kept Hok.out
              rw [HK.out] at h9
              rw [HOe.out]
              exact ⟨h9.kind, h9.space, h9.name, h9.labels, h9.owners, h9.holds, HWok.out.uid, h9.rev, h9.doc⟩
            have HP := Lib.hid (put_any (HIn.out.belowW Hb8.out) hrv (live_low HS.out.good) (fun w' hO => HH.out.tab.below ((HH.out.below Hb8.out).bel.trans (hO.below (fun b hb => HH.out.own b ((HD.out b).2 (.inl hb))) (by have := HH.out.bel.size; have := Hb8.out.size; omega)))) 2 (.inr (.inl rfl)) O (.slice d1 m1 e1) (.slice d2 m2 e2) (.slice d3 m3 e3) KO9.out hJ hokO)
            rw [show objW O (.slice d1 m1 e1) (.slice d2 m2 e2) (.slice d3 m3 e3) = .agg #[.string O.okey.kind, .string O.okey.space, .string O.okey.name, .slice d1 m1 e1, .slice d2 m2 e2, .slice d3 m3 e3, .bool O.ending, .string O.uid, .int .i64 O.rev, .string O.doc] from rfl] at HP
            have BO : Hid (w8.heap[gb]? = some (.cells #[.string O.okey.kind, .string O.okey.space, .string O.okey.name, .slice d1 m1 e1, .slice d2 m2 e2, .slice d3 m3 e3, .bool O.ending, .string O.uid, .int .i64 O.rev, .string O.doc] 30 (0, 0))) := Lib.hid (by rw [HOe.out]; exact B8.out)
            have cb := fun i => cell_block BO.out i
            clear hJ hokO B8
            go_wp2_with fail
            refine HP.out.mono ?_
            rintro E w9 ⟨E9, y1, y2, y3, M', n', f', vlog', rfl, p1, p2, p3, p4, p5⟩
            have R9 : Hid (w9.heap[gr]? = some (.cells noA 30 (0, 0))) := Lib.hid ((p5.block gr (by omega) fun hm => by have := HIn.out.low gr (.inl hm); omega).trans R8.out)
            have P1 := Lib.hid p1
            have P2 := Lib.hid p2
            have P3 := Lib.hid p3
            have P4 := Lib.hid p4
            have P5 := Lib.hid p5
            obtain ⟨PO, HPO⟩ : ∃ PO, Hid (putO (S.rev + 1) 2 O = PO) := ⟨_, Lib.hid rfl⟩
            rw [HPO.out] at P1 ⊢
            clear p1 p2 p3 p4 p5 cb HP R8
            go_wp2_with (refine wpList_store_box (by rfl) _ _ _ (by rfl) gr (objCs PO y1 y2 y3).toArray (by rfl) (by rfl) _ _ (by exact R9.out) (by exact Tryz.sizeObj) (by rfl) (objA_ones P1.out) ?_)
            intro w10 b10 t10
            have B10 := Lib.hid b10
            have T10 := Lib.hid t10
            clear b10 t10
            go_wp2_with fail
            refine bodyPost_ret (v := .tuple #[objW PO y1 y2 y3, .int .i64 0]) ?_ rfl ?_
            · exact results_two_obj Tryz.results17 _ _ gr _ (by rfl) B10.out rfl
            · have h9 := put_did (kind := 2) (o := O) HIn.out HD.out Hb8.out ⟨hwr, by omega⟩ (fun b hb => .inr ⟨by have := (KE.out b hb).1; omega, fun e => by have := (KE.out b hb).1; omega, by have := (KE.out b hb).2; omega⟩) (by rw [HPO.out]; exact P1.out) P2.out P3.out P4.out P5.out T10.out
              rw [HPO.out] at h9
              rw [HTE.out, HK.out, ← HOe.out]
              exact h9
          | true =>
            cases oe with
            | false => exact absurd ⟨rfl, rfl⟩ hen
            | true =>
              have hoe := Hoe.out
              have BT : Hid (w5.heap[gb]? = some (.cells #[.string o.okey.kind, .string o.okey.space, .string o.okey.name, .slice a1 n1 c1, .slice a2 n2 c2, .slice a3 n3 c3, .bool true, .string o.uid, .int .i64 o.rev, .string o.doc] 30 (0, 0))) := Lib.hid (by rw [← hoe]; exact B5.out)
              clear B5 cc
              have cc := fun i => cell_block BT.out i
              go_upto_region 11 with fail
              clear cc hoe
              have B5 := BT
              obtain ⟨ev, hev1, hev2⟩ := cur_mem Hc.out
              have HWok : Hid (OkObj was) := Lib.hid (hev2 ▸ HS.out.obj ev hev1)
              clear hev1 hev2 cz q1
              have cc := fun i => cell_block B5.out i
              have HK := Lib.hid (kept_any o (.slice a1 n1 c1) (.slice a2 n2 c2) (.slice a3 n3 c3) w5 (by rw [← Hn1.out]; rw [Hn1.out]; exact HL.out.below stays_label Hb5.out) (HO.out.below Hb5.out) (HHh.out.below Hb5.out) Hok.out (HH.out.below Hb5.out).tabs)
              rw [show objW o (.slice a1 n1 c1) (.slice a2 n2 c2) (.slice a3 n3 c3) = .agg #[.string o.okey.kind, .string o.okey.space, .string o.okey.name, .slice a1 n1 c1, .slice a2 n2 c2, .slice a3 n3 c3, .bool o.ending, .string o.uid, .int .i64 o.rev, .string o.doc] from rfl, Hoe.out] at HK
              go_wp2_with fail
              refine HK.out.mono ?_
              rintro E w6 ⟨EK, x1, x2, x3, rfl, ko, kE, hb6⟩
              obtain ⟨d1, e1, rfl, -, -⟩ := ko.labels.own.row.len
              obtain ⟨d2, e2, rfl, -, -⟩ := ko.owners.own.row.len
              obtain ⟨d3, e3, rfl, -, -⟩ := ko.holds.own.row.len
              obtain ⟨m1, Hm1⟩ : ∃ n, Hid ((keptO o).labels.length = n) := ⟨_, Lib.hid rfl⟩
              obtain ⟨m2, Hm2⟩ : ∃ n, Hid ((keptO o).owners.length = n) := ⟨_, Lib.hid rfl⟩
              obtain ⟨m3, Hm3⟩ : ∃ n, Hid ((keptO o).holds.length = n) := ⟨_, Lib.hid rfl⟩
              rw [Hm1.out, Hm2.out, Hm3.out] at ko ⊢
              have KO := Lib.hid ko
              have KE := Lib.hid kE
              have B6 := Lib.hid (below_block hb6 B5.out)
              have R6 := Lib.hid (below_block hb6 R5.out)
              have Z6 := Lib.hid (below_block hb6 ZE.out)
              have Hb6 := Lib.hid (Hb5.out.trans (hb6.mono (by omega)))
              have hs6 := hb6.size
              clear ko kE hb6 cc HK B5 R5
              obtain ⟨K, HK⟩ : ∃ K, Hid (keptO o = K) := ⟨_, Lib.hid rfl⟩
              rw [HK.out] at KO ⊢
              rw [show objW K (.slice d1 m1 e1) (.slice d2 m2 e2) (.slice d3 m3 e3) = .agg #[.string K.okey.kind, .string K.okey.space, .string K.okey.name, .slice d1 m1 e1, .slice d2 m2 e2, .slice d3 m3 e3, .bool K.ending, .string K.uid, .int .i64 K.rev, .string K.doc] from rfl]
              go_wp2_with (refine wpList_store_box (by rfl) _ _ _ (by rfl) gb #[.string K.okey.kind, .string K.okey.space, .string K.okey.name, .slice d1 m1 e1, .slice d2 m2 e2, .slice d3 m3 e3, .bool K.ending, .string K.uid, .int .i64 K.rev, .string K.doc] (by rfl) (by rfl) _ _ (by exact B6.out) (by exact Tryz.sizeObj) (by rfl) (by simp [Value.oneCell']) ?_)
              intro w7 b7 t7
              have B7 := Lib.hid b7
              have R7 := Lib.hid (t7.block R6.out (Ne.symm hne))
              have Z7 := Lib.hid (t7.block Z6.out (by omega))
              have Hb7 := Lib.hid (t7.below Hb6.out hwb)
              have hs7 := t7.size
              have KO7 := Lib.hid (KO.out.agree fun b hb => t7.other b fun e => by have := (KE.out b hb).1; omega)
              clear b7 t7 B6 R6 KO
              have cz := fun i => cell_block Z7.out i
              have fb := fun i => free_block B7.out i
              have cb := fun i => cell_block B7.out i
              obtain ⟨w8, hw8⟩ : ∃ w8, w7.setCell ⟨gb, 7, none⟩ (.string was.uid) = w8 := ⟨_, rfl⟩
              have t1 := touch_setCell (i := 7) (v := .string was.uid) B7.out
              rw [hw8] at t1
              have B8 : Hid (w8.heap[gb]? = some (.cells #[.string K.okey.kind, .string K.okey.space, .string K.okey.name, .slice d1 m1 e1, .slice d2 m2 e2, .slice d3 m3 e3, .bool K.ending, .string was.uid, .int .i64 K.rev, .string K.doc] 30 (0, 0))) := Lib.hid t1.1
              have R8 := Lib.hid (t1.2.block R7.out (Ne.symm hne))
              have Hb8 := Lib.hid (t1.2.below Hb7.out hwb)
              have hs8 := t1.2.size
              have KO8 := Lib.hid (KO7.out.agree fun b hb => t1.2.other b fun e => by have := (KE.out b hb).1; omega)
              go_upto_region 13 with fail
              try rw [hw8]
              clear cz t1 hw8 fb cb B7 R7 Hb7 KO7
              obtain ⟨O, HOe⟩ : ∃ O : GObject, Hid (O = { K with uid := was.uid }) := ⟨_, Lib.hid rfl⟩
              have KO9 : Hid (ObjIn EK w8 (.slice d1 m1 e1) (.slice d2 m2 e2) (.slice d3 m3 e3) O) := Lib.hid (by rw [HOe.out]; exact KO8.out.other rfl rfl rfl)
              have hJ : ∀ b, EK b → b < w8.heap.size ∧ ¬ M b := fun b hb => ⟨by have := (KE.out b hb).2; omega, fun hm => by have := HIn.out.low b (.inl hm); have := (KE.out b hb).1; omega⟩
              have hokO : OkObj O := by
                have h9 := okObj_kept Hok.out
                rw [HK.out] at h9
                rw [HOe.out]
                exact ⟨h9.kind, h9.space, h9.name, h9.labels, h9.owners, h9.holds, HWok.out.uid, h9.rev, h9.doc⟩
              have HP := Lib.hid (put_any (HIn.out.belowW Hb8.out) hrv (live_low HS.out.good) (fun w' hO => HH.out.tab.below ((HH.out.below Hb8.out).bel.trans (hO.below (fun b hb => HH.out.own b ((HD.out b).2 (.inl hb))) (by have := HH.out.bel.size; have := Hb8.out.size; omega)))) 2 (.inr (.inl rfl)) O (.slice d1 m1 e1) (.slice d2 m2 e2) (.slice d3 m3 e3) KO9.out hJ hokO)
              rw [show objW O (.slice d1 m1 e1) (.slice d2 m2 e2) (.slice d3 m3 e3) = .agg #[.string O.okey.kind, .string O.okey.space, .string O.okey.name, .slice d1 m1 e1, .slice d2 m2 e2, .slice d3 m3 e3, .bool O.ending, .string O.uid, .int .i64 O.rev, .string O.doc] from rfl] at HP
              have BO : Hid (w8.heap[gb]? = some (.cells #[.string O.okey.kind, .string O.okey.space, .string O.okey.name, .slice d1 m1 e1, .slice d2 m2 e2, .slice d3 m3 e3, .bool O.ending, .string O.uid, .int .i64 O.rev, .string O.doc] 30 (0, 0))) := Lib.hid (by rw [HOe.out]; exact B8.out)
              have cb := fun i => cell_block BO.out i
              clear hJ hokO B8
              go_wp2_with fail
              refine HP.out.mono ?_
              rintro E w9 ⟨E9, y1, y2, y3, M', n', f', vlog', rfl, p1, p2, p3, p4, p5⟩
              have R9 : Hid (w9.heap[gr]? = some (.cells noA 30 (0, 0))) := Lib.hid ((p5.block gr (by omega) fun hm => by have := HIn.out.low gr (.inl hm); omega).trans R8.out)
              have P1 := Lib.hid p1
              have P2 := Lib.hid p2
              have P3 := Lib.hid p3
              have P4 := Lib.hid p4
              have P5 := Lib.hid p5
              obtain ⟨PO, HPO⟩ : ∃ PO, Hid (putO (S.rev + 1) 2 O = PO) := ⟨_, Lib.hid rfl⟩
              rw [HPO.out] at P1 ⊢
              clear p1 p2 p3 p4 p5 cb HP R8
              go_wp2_with (refine wpList_store_box (by rfl) _ _ _ (by rfl) gr (objCs PO y1 y2 y3).toArray (by rfl) (by rfl) _ _ (by exact R9.out) (by exact Tryz.sizeObj) (by rfl) (objA_ones P1.out) ?_)
              intro w10 b10 t10
              have B10 := Lib.hid b10
              have T10 := Lib.hid t10
              clear b10 t10
              go_wp2_with fail
              refine bodyPost_ret (v := .tuple #[objW PO y1 y2 y3, .int .i64 0]) ?_ rfl ?_
              · exact results_two_obj Tryz.results17 _ _ gr _ (by rfl) B10.out rfl
              · have h9 := put_did (kind := 2) (o := O) HIn.out HD.out Hb8.out ⟨hwr, by omega⟩ (fun b hb => .inr ⟨by have := (KE.out b hb).1; omega, fun e => by have := (KE.out b hb).1; omega, by have := (KE.out b hb).2; omega⟩) (by rw [HPO.out]; exact P1.out) P2.out P3.out P4.out P5.out T10.out
                rw [HPO.out] at h9
                rw [HTE.out, HK.out, ← HOe.out]
                exact h9
      · have q1 : (o.rev == was.rev) = false := by rw [beq_eq_false_iff_ne]; exact hr
        have HT2 : Hid (T = (S, noObj, 12)) := Lib.hid (by rw [HT1.out, if_pos hr])
        clear hr HT1
        go_wp2_with (refine wpList_store_box (by rfl) _ _ _ (by rfl) gr noA (by rfl) (by rfl) _ _ (by exact R5.out) (by exact Tryz.sizeObj) (by rfl) (by simp [Value.oneCell', noA]) ?_)
        intro WF bF tF
        have BF := Lib.hid bF
        have HF := Lib.hid (tF.below Hb5.out hwr)
        clear bF tF
        go_wp2_with fail
        refine bodyPost_ret (v := .tuple #[.agg noA, .int .i64 12]) ?_ rfl ?_
        · exact results_two_obj Tryz.results17 _ _ gr _ (by rfl) BF.out rfl
        · exact did_no ⟨M, I, mb, nn, f, vlog, HIn.out, HD.out⟩ HF.out (HT2.out)
  · have q0 : (er == 0) = false := by rw [beq_eq_false_iff_ne]; exact her
    have hT0 := HT.out
    unfold update at hT0
    rw [Her.out, if_pos her] at hT0
    have HT0 := Lib.hid hT0.symm
    clear her HT hT0
    go_wp2_with (refine wpList_store_box (by rfl) _ _ _ (by rfl) gr noA (by rfl) (by rfl) _ _ (by exact R2.out) (by exact Tryz.sizeObj) (by rfl) (by simp [Value.oneCell', noA]) ?_)
    intro WF bF tF
    have BF := Lib.hid bF
    have HF := Lib.hid (tF.below Hb2.out hwr)
    clear bF tF
    go_wp2_with fail
    refine bodyPost_ret (v := .tuple #[.agg noA, .int .i64 er]) ?_ rfl ?_
    · exact results_two_obj Tryz.results17 _ _ gr _ (by rfl) BF.out rfl
    · exact did_no ⟨M, I, mb, nn, f, vlog, HIn.out, HD.out⟩ HF.out (HT0.out)
set_option maxRecDepth 100000 in
set_option maxHeartbeats 6400000 in
theorem remove_any {D : Dom} {w0 w : World} {g : Nat} {S : St} (h : StoreAt D w g S) (hH : Home w0 D w) (hS : OkSt S) (hrv : S.rev ≤ 4194303) (k : GKey) (rev : Int) (hk : k.kind.size ≤ 1048576 ∧ k.space.size ≤ 1048576 ∧ k.name.size ≤ 1048576) :
    Calls Tryz.prog 15 #[.pointer (some ⟨g, 0, none⟩), .agg #[.string k.kind, .string k.space, .string k.name], .int .i64 rev] w (Did D w g (remove S k rev)) := by
  obtain ⟨M, I, mb, nn, f, vlog, hin, hD⟩ := h
  obtain ⟨er, Her⟩ : ∃ x, Hid (keyK k = x) := ⟨_, Lib.hid rfl⟩
  obtain ⟨T, HT⟩ : ∃ T, Hid (remove S k rev = T) := ⟨_, Lib.hid rfl⟩
  rw [HT.out]
  have hokk : okKey k := ⟨by unfold maxLen; omega, by unfold maxLen; omega, by unfold maxLen; omega⟩
  have HIn := Lib.hid hin
  have HD := Lib.hid hD
  have HH := Lib.hid hH
  have HS := Lib.hid hS
  obtain ⟨w1, hw1⟩ : ∃ w1, w1 = (w.alloc (.cells #[.string k.kind, .string k.space, .string k.name] 24)).alloc (.cells noA 30) := ⟨_, rfl⟩
  obtain ⟨gb, hgb⟩ : ∃ gb, gb = w.heap.size := ⟨_, rfl⟩
  obtain ⟨gr, hgr⟩ : ∃ gr, gr = w.heap.size + 1 := ⟨_, rfl⟩
  have B1 : Hid (w1.heap[gb]? = some (.cells #[.string k.kind, .string k.space, .string k.name] 24 (0, 0))) := Lib.hid (by rw [hw1, hgb]; exact heap_alloc_old (heap_alloc_new w _))
  have R1 : Hid (w1.heap[gr]? = some (.cells noA 30 (0, 0))) := Lib.hid (by rw [hw1, hgr]; exact heap_alloc_at (World.size_alloc _ _).symm)
  have hb1 : Below w.heap.size w w1 := by rw [hw1]; exact ((Below.refl _ w).alloc (Nat.le_refl _) _).alloc (by rw [World.size_alloc]; omega) _
  have hs1 : w1.heap.size = w.heap.size + 2 := by rw [hw1, World.size_alloc, World.size_alloc]
  have Hb1 := Lib.hid hb1
  have hne : gb ≠ gr := by omega
  have hwb : w.heap.size ≤ gb := by omega
  have hwr : w.heap.size ≤ gr := by omega
  have hrl : gr < w.heap.size + 2 := by omega
  have hbl : gb < w.heap.size + 2 := by omega
  have HC := Lib.hid (key_any k.kind k.space k.name w1 (by omega) (by omega) (by omega))
  have her0 : AuP.keyE k.kind.data.toList k.space.data.toList k.name.data.toList = er := Her.out
  rw [her0] at HC
  have hgl := hin.low g (.inl hin.gM)
  clear hb1 hin hD hH hS her0 hk
  go_enter Tryz.func15, Tryz.ntmps15
  go_upto_region 1 with fail
  have hex : ((w.alloc (.cells #[.string k.kind, .string k.space, .string k.name] 24)).alloc (.cells #[.string { data := #[] }, .string { data := #[] }, .string { data := #[] }, .slice none 0 0, .slice none 0 0, .slice none 0 0, .bool false, .string { data := #[] }, .int .i64 0, .string { data := #[] }] 30)) = w1 := hw1.symm
  rw [hex]
  try rw [← hgr]
  rw [← hgb]
  clear hw1 hex hgb hgr
  have cc := fun i => cell_block B1.out i
  go_wp2_with fail
  refine HC.out.mono ?_
  rintro E w2 ⟨rfl, hb2⟩
  have B2 := Lib.hid (below_block hb2 B1.out)
  have R2 := Lib.hid (below_block hb2 R1.out)
  have Hb2 := Lib.hid (Hb1.out.trans (hb2.mono (by omega)))
  have hs2 := hb2.size
  clear hb2 HC cc B1 R1
  by_cases her : er = 0
  · subst her
    have cc := fun i => cell_block B2.out i
    have HLa := Lib.hid (last_any (HIn.out.belowW Hb2.out) k hokk HS.out.rev)
    go_wp2_with fail
    refine HLa.out.mono ?_
    rintro E w3 ⟨hb3, hlast⟩
    have B3 := Lib.hid (below_block hb3 B2.out)
    have R3 := Lib.hid (below_block hb3 R2.out)
    have Hb3 := Lib.hid (Hb2.out.trans (hb3.mono (by omega)))
    have hb23 := Lib.hid hb3
    have hs3 := hb3.size
    clear hb3 cc B2 R2 HLa
    rcases hlast with ⟨hc, rfl⟩ | ⟨was, v1', v2', v3', hc, rfl, hwo⟩
    · have Hc := Lib.hid hc
      have hT0 := HT.out
      unfold remove at hT0
      rw [Her.out, if_neg (fun h => h rfl), Hc.out] at hT0
      have HT0 := Lib.hid hT0.symm
      rw [show noW = .agg noA from rfl]
      clear hc HT hT0
      obtain ⟨g7, hg7⟩ : ∃ g7, g7 = w3.heap.size := ⟨_, rfl⟩
      have H7 := Lib.hid (heap_alloc_new w3 (.cells noA 30))
      have Hb4 := Lib.hid (Hb3.out.alloc (by omega) (.cells noA 30))
      have B4 := Lib.hid (below_block ((Below.refl _ w3).alloc (Nat.le_refl _) (.cells noA 30)) B3.out)
      have R4 := Lib.hid (below_block ((Below.refl _ w3).alloc (Nat.le_refl _) (.cells noA 30)) R3.out)
      have hs4 : (w3.alloc (.cells noA 30)).heap.size = w3.heap.size + 1 := World.size_alloc _ _
      go_wp2_with (refine wpList_store_box (by rfl) _ _ _ (by rfl) w3.heap.size noA (by rfl) (by rfl) _ _ (by exact H7.out) (by exact Tryz.sizeObj) (by rfl) (by simp [Value.oneCell', noA]) ?_)
      intro w5 b5 t5
      have Z5 := Lib.hid b5
      have B5 := Lib.hid (t5.block B4.out (by omega))
      have R5 := Lib.hid (t5.block R4.out (by omega))
      have Hb5 := Lib.hid (t5.below Hb4.out (by omega))
      have hs5 : w5.heap.size = w3.heap.size + 1 := t5.size.trans hs4
      have HW5 : Hid (Below w2.heap.size w2 w5) := Lib.hid (t5.below (hb23.out.trans (((Below.refl w3.heap.size w3).alloc (Nat.le_refl _) (.cells noA 30)).mono hs3)) (by omega))
      clear b5 t5 hs4 H7 B4 R4 Hb4 hg7
      go_wp2_with (refine wpList_store_box (by rfl) _ _ _ (by rfl) gr noA (by rfl) (by rfl) _ _ (by exact R5.out) (by exact Tryz.sizeObj) (by rfl) (by simp [Value.oneCell', noA]) ?_)
      intro WF bF tF
      have BF := Lib.hid bF
      have HF := Lib.hid (tF.below Hb5.out hwr)
      clear bF tF
      go_wp2_with fail
      refine bodyPost_ret (v := .tuple #[.agg noA, .int .i64 7]) ?_ rfl ?_
      · exact results_two_obj Tryz.results15 _ _ gr _ (by rfl) BF.out rfl
      · exact did_no ⟨M, I, mb, nn, f, vlog, HIn.out, HD.out⟩ HF.out (HT0.out)
    · have Hc := Lib.hid hc
      have hT0 := HT.out
      unfold remove at hT0
      rw [Her.out, if_neg (fun h => h rfl), Hc.out] at hT0
      dsimp only at hT0
      have HT0 := Lib.hid hT0.symm
      have HW := Lib.hid hwo
      clear hc HT hT0 hwo
      obtain ⟨g7, hg7⟩ : ∃ g7, g7 = w3.heap.size := ⟨_, rfl⟩
      have H7 := Lib.hid (heap_alloc_new w3 (.cells noA 30))
      have Hb4 := Lib.hid (Hb3.out.alloc (by omega) (.cells noA 30))
      have B4 := Lib.hid (below_block ((Below.refl _ w3).alloc (Nat.le_refl _) (.cells noA 30)) B3.out)
      have R4 := Lib.hid (below_block ((Below.refl _ w3).alloc (Nat.le_refl _) (.cells noA 30)) R3.out)
      have hs4 : (w3.alloc (.cells noA 30)).heap.size = w3.heap.size + 1 := World.size_alloc _ _
      go_wp2_with (refine wpList_store_box (by rfl) _ _ _ (by rfl) w3.heap.size (objCs was v1' v2' v3').toArray (by rfl) (by rfl) _ _ (by exact H7.out) (by exact Tryz.sizeObj) (by rfl) (objA_ones HW.out) ?_)
      intro w5 b5 t5
      have Z5 := Lib.hid b5
      have B5 := Lib.hid (t5.block B4.out (by omega))
      have R5 := Lib.hid (t5.block R4.out (by omega))
      have Hb5 := Lib.hid (t5.below Hb4.out (by omega))
      have hs5 : w5.heap.size = w3.heap.size + 1 := t5.size.trans hs4
      have HW5 : Hid (Below w2.heap.size w2 w5) := Lib.hid (t5.below (hb23.out.trans (((Below.refl w3.heap.size w3).alloc (Nat.le_refl _) (.cells noA 30)).mono hs3)) (by omega))
      clear b5 t5 hs4 H7 B4 R4 Hb4 hg7
      obtain ⟨g9, hg9⟩ : ∃ g9, w3.heap.size = g9 := ⟨_, rfl⟩
      have ZE : Hid (w5.heap[g9]? = some (.cells #[.string was.okey.kind, .string was.okey.space, .string was.okey.name, v1', v2', v3', .bool was.ending, .string was.uid, .int .i64 was.rev, .string was.doc] 30 (0, 0))) := Lib.hid (by rw [← hg9]; exact Z5.out)
      have hg9l : g9 < w5.heap.size := by omega
      have hg9b : w.heap.size + 2 ≤ g9 := by omega
      rw [hg9]
      clear hg9 Z5
      have cz := fun i => cell_block ZE.out i
      by_cases hr : rev ≠ 0 ∧ rev ≠ was.rev
      · obtain ⟨h1, h2⟩ := hr
        have q1 : (rev != 0) = true := bne_iff_ne.2 h1
        have q2 : (rev != was.rev) = true := bne_iff_ne.2 h2
        have HT2 : Hid (T = (S, noObj, 12)) := Lib.hid (by rw [HT0.out, if_pos ⟨h1, h2⟩])
        clear h1 h2 HT0
        go_wp2_with (refine wpList_store_box (by rfl) _ _ _ (by rfl) gr noA (by rfl) (by rfl) _ _ (by exact R5.out) (by exact Tryz.sizeObj) (by rfl) (by simp [Value.oneCell', noA]) ?_)
        intro WF bF tF
        have BF := Lib.hid bF
        have HF := Lib.hid (tF.below Hb5.out hwr)
        clear bF tF
        go_wp2_with fail
        refine bodyPost_ret (v := .tuple #[.agg noA, .int .i64 12]) ?_ rfl ?_
        · exact results_two_obj Tryz.results15 _ _ gr _ (by rfl) BF.out rfl
        · exact did_no ⟨M, I, mb, nn, f, vlog, HIn.out, HD.out⟩ HF.out (HT2.out)
      · have HTE : Hid (T = doPut S 3 was) := Lib.hid (by rw [HT0.out, if_neg hr])
        clear HT0
        obtain ⟨evv, hev1, hev2⟩ := cur_mem Hc.out
        have HWok : Hid (OkObj was) := Lib.hid (hev2 ▸ HS.out.obj evv hev1)
        have Hw5 : Hid (Below w2.heap.size w2 w5) := HW5
        have HO5 : Hid (ObjIn I w5 v1' v2' v3' was) := Lib.hid (HW.out.agree fun b hb => Hw5.out.block b (by have := HIn.out.low b (.inr hb); omega))
        have HP := Lib.hid (put_any (HIn.out.belowW Hb5.out) hrv (live_low HS.out.good) (fun w' hO => HH.out.tab.below ((HH.out.below Hb5.out).bel.trans (hO.below (fun b hb => HH.out.own b ((HD.out b).2 (.inl hb))) (by have := HH.out.bel.size; have := Hb5.out.size; omega)))) 3 (.inr (.inr rfl)) was v1' v2' v3' HO5.out (fun b hb => ⟨by have := HIn.out.low b (.inr hb); omega, fun hm => HIn.out.apart b hm hb⟩) HWok.out)
        rw [show objW was v1' v2' v3' = .agg #[.string was.okey.kind, .string was.okey.space, .string was.okey.name, v1', v2', v3', .bool was.ending, .string was.uid, .int .i64 was.rev, .string was.doc] from rfl] at HP
        clear hev1 hev2
        by_cases h0 : rev = 0
        · subst h0
          clear hr
          go_wp2_with fail
          refine HP.out.mono ?_
          rintro E w9 ⟨E9, y1, y2, y3, M', n', f', vlog', rfl, p1, p2, p3, p4, p5⟩
          have R9 : Hid (w9.heap[gr]? = some (.cells noA 30 (0, 0))) := Lib.hid ((p5.block gr (by omega) fun hm => by have := HIn.out.low gr (.inl hm); omega).trans R5.out)
          have P1 := Lib.hid p1
          have P2 := Lib.hid p2
          have P3 := Lib.hid p3
          have P4 := Lib.hid p4
          have P5 := Lib.hid p5
          obtain ⟨PO, HPO⟩ : ∃ PO, Hid (putO (S.rev + 1) 3 was = PO) := ⟨_, Lib.hid rfl⟩
          rw [HPO.out] at P1 ⊢
          clear p1 p2 p3 p4 p5 cz HP R5
          go_wp2_with (refine wpList_store_box (by rfl) _ _ _ (by rfl) gr (objCs PO y1 y2 y3).toArray (by rfl) (by rfl) _ _ (by exact R9.out) (by exact Tryz.sizeObj) (by rfl) (objA_ones P1.out) ?_)
          intro w10 b10 t10
          have B10 := Lib.hid b10
          have T10 := Lib.hid t10
          clear b10 t10
          go_wp2_with fail
          refine bodyPost_ret (v := .tuple #[objW PO y1 y2 y3, .int .i64 0]) ?_ rfl ?_
          · exact results_two_obj Tryz.results15 _ _ gr _ (by rfl) B10.out rfl
          · have h9 := put_did (kind := 3) (o := was) HIn.out HD.out Hb5.out ⟨hwr, by omega⟩ (J := I) (fun b hb => .inl hb) (by rw [HPO.out]; exact P1.out) P2.out P3.out P4.out P5.out T10.out
            rw [HPO.out] at h9
            rw [HTE.out]
            exact h9
        · have q1 : (rev != 0) = true := bne_iff_ne.2 h0
          have q2 : (rev != was.rev) = false := by rw [Classical.byContradiction (fun h => hr ⟨h0, h⟩ : ¬ ¬ rev = was.rev)]; exact bne_self_eq_false _
          clear hr h0
          go_wp2_with fail
          refine HP.out.mono ?_
          rintro E w9 ⟨E9, y1, y2, y3, M', n', f', vlog', rfl, p1, p2, p3, p4, p5⟩
          have R9 : Hid (w9.heap[gr]? = some (.cells noA 30 (0, 0))) := Lib.hid ((p5.block gr (by omega) fun hm => by have := HIn.out.low gr (.inl hm); omega).trans R5.out)
          have P1 := Lib.hid p1
          have P2 := Lib.hid p2
          have P3 := Lib.hid p3
          have P4 := Lib.hid p4
          have P5 := Lib.hid p5
          obtain ⟨PO, HPO⟩ : ∃ PO, Hid (putO (S.rev + 1) 3 was = PO) := ⟨_, Lib.hid rfl⟩
          rw [HPO.out] at P1 ⊢
          clear p1 p2 p3 p4 p5 cz HP R5
          go_wp2_with (refine wpList_store_box (by rfl) _ _ _ (by rfl) gr (objCs PO y1 y2 y3).toArray (by rfl) (by rfl) _ _ (by exact R9.out) (by exact Tryz.sizeObj) (by rfl) (objA_ones P1.out) ?_)
          intro w10 b10 t10
          have B10 := Lib.hid b10
          have T10 := Lib.hid t10
          clear b10 t10
          go_wp2_with fail
          refine bodyPost_ret (v := .tuple #[objW PO y1 y2 y3, .int .i64 0]) ?_ rfl ?_
          · exact results_two_obj Tryz.results15 _ _ gr _ (by rfl) B10.out rfl
          · have h9 := put_did (kind := 3) (o := was) HIn.out HD.out Hb5.out ⟨hwr, by omega⟩ (J := I) (fun b hb => .inl hb) (by rw [HPO.out]; exact P1.out) P2.out P3.out P4.out P5.out T10.out
            rw [HPO.out] at h9
            rw [HTE.out]
            exact h9
  · have q0 : (er == 0) = false := by rw [beq_eq_false_iff_ne]; exact her
    have hT0 := HT.out
    unfold remove at hT0
    rw [Her.out, if_pos her] at hT0
    have HT0 := Lib.hid hT0.symm
    clear her HT hT0
    go_wp2_with (refine wpList_store_box (by rfl) _ _ _ (by rfl) gr noA (by rfl) (by rfl) _ _ (by exact R2.out) (by exact Tryz.sizeObj) (by rfl) (by simp [Value.oneCell', noA]) ?_)
    intro WF bF tF
    have BF := Lib.hid bF
    have HF := Lib.hid (tF.below Hb2.out hwr)
    clear bF tF
    go_wp2_with fail
    refine bodyPost_ret (v := .tuple #[.agg noA, .int .i64 er]) ?_ rfl ?_
    · exact results_two_obj Tryz.results15 _ _ gr _ (by rfl) BF.out rfl
    · exact did_no ⟨M, I, mb, nn, f, vlog, HIn.out, HD.out⟩ HF.out (HT0.out)
end Sto
end Go.Proofs.YtnnceaapodgfbaaGreatDoor
namespace Go.Proofs.YtnnceaapodgfbaaGreatDoor
namespace Sto
open Go.RowKit
open JP (Bs)
theorem timeE0 (S : St) : timeE S 0 = 0 := by
  unfold timeE
  have : ¬ ((0 : Int) < 0 ∨ (S.rev : Int) < 0) := by omega
  rw [if_neg this, if_pos rfl]
theorem timeT0 (S : St) : timeT S 0 = S.rev := by unfold timeT; rw [timeE0]; simp
theorem take_rev (S : St) : S.log.take S.rev = S.log := List.take_length
def listC (kind space : ByteArray) : Int := says (chk kind) (spaceE space)
theorem listE_eq (S : St) (kind space : ByteArray) (rev : Int) : listE S kind space rev = if listC kind space ≠ 0 then listC kind space else timeE S rev := rfl
structure PastIs (S S' : St) (kind space : ByteArray) (k : GKey) : Prop where
  none : S.rev = 0 → getE S k 0 ≠ 0 ∧ ∀ a, ListTold S kind space 0 a → a = []
  gone : ∀ b, ListTold S' kind space S.rev b → (listE S' kind space S.rev = 13 ∨ getE S' k S.rev = 13) → b = [] ∧ listE S' kind space S.rev ≠ 0 ∧ getE S' k S.rev ≠ 0
  same : ∀ a b, ListTold S kind space 0 a → ListTold S' kind space S.rev b → S.rev ≠ 0 → listE S' kind space S.rev ≠ 13 → getE S' k S.rev ≠ 13 →
    listE S kind space 0 = listE S' kind space S.rev ∧ a = b ∧ getE S k 0 = getE S' k S.rev ∧ getO S k 0 = getO S' k S.rev
theorem time_past {S S' : St} {m : List GEvent} (hm : S'.log = S.log ++ m) (h0 : S.rev ≠ 0) : (timeE S' S.rev = 0 ∧ timeT S' S.rev = S.rev) ∨ timeE S' S.rev = 13 := by
  have hl : S.rev ≤ S'.rev := by unfold St.rev; rw [hm, List.length_append]; omega
  have h1 : ¬ ((S.rev : Int) < 0 ∨ (S'.rev : Int) < (S.rev : Int)) := by omega
  have h2 : ¬ ((S.rev : Int) = 0) := by omega
  by_cases h3 : (S.rev : Int) < S'.comp
  · right; unfold timeE; rw [if_neg h1, if_neg h2, if_pos h3]
  · left
    have e : timeE S' S.rev = 0 := by unfold timeE; rw [if_neg h1, if_neg h2, if_neg h3]
    refine ⟨e, ?_⟩
    unfold timeT
    rw [e, if_neg (fun h => h rfl), if_neg h2]; simp
end Sto
end Go.Proofs.YtnnceaapodgfbaaGreatDoor
namespace Go.Proofs.YtnnceaapodgfbaaGreatDoor
namespace Sto
open Go.RowKit
theorem filter_split {α : Type} {p : α → Bool} : ∀ {l : List α} {j : Nat}, (∀ (t : Nat) (x : α), t < j → l[t]? = some x → p x = true) → (∀ (t : Nat) (x : α), j ≤ t → l[t]? = some x → p x = false) → l.filter p = l.take j
  | [], j, _, _ => by rw [List.take_nil]; rfl
  | a :: l, 0, _, h2 => by
    rw [List.filter_cons_of_neg (by rw [h2 0 a (Nat.le_refl _) rfl]; decide), filter_split (l := l) (j := 0) (fun t x ht => absurd ht (Nat.not_lt_zero _)) fun t x _ hx => h2 (t + 1) x (Nat.zero_le _) (by rw [List.getElem?_cons_succ]; exact hx)]
    rfl
  | a :: l, j + 1, h1, h2 => by
    rw [List.filter_cons_of_pos (h1 0 a (by omega) rfl), filter_split (l := l) (j := j) (fun t x ht hx => h1 (t + 1) x (by omega) (by rw [List.getElem?_cons_succ]; exact hx)) fun t x ht hx => h2 (t + 1) x (by omega) (by rw [List.getElem?_cons_succ]; exact hx)]
    rfl
theorem Good.revAt {S : St} (h : Good S) {i : Nat} {e : GEvent} (he : S.log[i]? = some e) : e.rev = (i : Int) + 1 := by
  have h1 := (h.step i e he).1
  rw [List.length_take, Nat.min_eq_left (by have := (List.getElem?_eq_some_iff.1 he).1; omega)] at h1
  exact h1
theorem hits_take {S : St} (h : Good S) (n : Nat) (k : GKey) : hits (S.log.take n) k = (hits S.log k).filter fun e => decide (e.rev ≤ (n : Int)) := by
  have h0 : S.log.take n = S.log.filter fun e => decide (e.rev ≤ (n : Int)) := (filter_split (fun t x ht hx => decide_eq_true (by have := h.revAt hx; omega)) fun t x ht hx => decide_eq_false (by have := h.revAt hx; omega)).symm
  rw [h0]
  unfold hits
  rw [List.filter_filter, List.filter_filter]
  congr 1
  funext e
  exact Bool.and_comm _ _
theorem hits_rise {S : St} (h : Good S) (k : GKey) : ∀ (a b : Nat) (x y : GEvent), a < b → (hits S.log k)[a]? = some x → (hits S.log k)[b]? = some y → x.rev < y.rev := by
  have h1 : S.log.Pairwise fun x y => x.rev < y.rev := List.pairwise_iff_getElem.2 fun i j hi hj hij => by
    have := h.revAt (List.getElem?_eq_getElem hi)
    have := h.revAt (List.getElem?_eq_getElem hj)
    omega
  have h2 : (hits S.log k).Pairwise fun x y => x.rev < y.rev := h1.filter _
  intro a b x y hab hx hy
  obtain ⟨ha, rfl⟩ := List.getElem?_eq_some_iff.1 hx
  obtain ⟨hb, rfl⟩ := List.getElem?_eq_some_iff.1 hy
  exact List.pairwise_iff_getElem.1 h2 a b ha hb hab
theorem at_find {S : St} (h : Good S) {k : GKey} {n i : Nat} {is : Bool} (h1 : ∀ (t : Nat) (x : GEvent), t < i → (hits S.log k)[t]? = some x → x.rev < (n : Int)) (h2 : ∀ (t : Nat) (x : GEvent), i ≤ t → (hits S.log k)[t]? = some x → (n : Int) ≤ x.rev) (h3 : is = true ↔ ∃ x, (hits S.log k)[i]? = some x ∧ x.rev = (n : Int)) :
    hits (S.log.take n) k = (hits S.log k).take (if is = true then i + 1 else i) := by
  rw [hits_take h]
  cases is with
  | true =>
    rw [if_pos rfl]
    obtain ⟨x, hx, hn⟩ := h3.1 rfl
    refine filter_split (fun t y ht hy => decide_eq_true ?_) fun t y ht hy => decide_eq_false ?_
    · rcases Nat.lt_or_ge t i with h4 | h4
      · have := h1 t y h4 hy; omega
      · have h5 : t = i := by omega
        rw [h5, hx] at hy; cases hy; omega
    · have := hits_rise h k i t x y (by omega) hx hy; omega
  | false =>
    rw [if_neg (by decide)]
    refine filter_split (fun t y ht hy => decide_eq_true ?_) fun t y ht hy => decide_eq_false ?_
    · have := h1 t y ht hy; omega
    · have h4 := h2 t y ht hy
      intro h5
      have h6 : y.rev = n := by omega
      rcases Nat.lt_or_ge i t with h7 | h7
      · obtain ⟨x, hx⟩ : ∃ x, (hits S.log k)[i]? = some x := ⟨_, List.getElem?_eq_getElem (by have := (List.getElem?_eq_some_iff.1 hy).1; omega)⟩
        have := hits_rise h k i t x y h7 hx hy
        have := h2 i x (Nat.le_refl _) hx
        omega
      · have h8 : t = i := by omega
        rw [h8] at hy
        have := h3.2 ⟨y, hy, h6⟩
        cases this
theorem at_none {S : St} {k : GKey} {n : Nat} (h : hits (S.log.take n) k = []) : atR S k n = none := by unfold atR cur; rw [h]; rfl
theorem at_some {S : St} {k : GKey} {n m : Nat} {e : GEvent} (h : hits (S.log.take n) k = (hits S.log k).take (m + 1)) (he : (hits S.log k)[m]? = some e) : atR S k n = shown e := by
  unfold atR
  refine curL_last ?_
  rw [h, take_snoc he, List.getLast?_concat]
theorem copyO_any {I : Dom} {v1 v2 v3 : Value} {w : World} {o : GObject} (h : ObjIn I w v1 v2 v3 o) (hok : OkObj o) :
    Calls Tryz.prog 65 #[objW o v1 v2 v3] w fun e w' => ∃ E u1 u2 u3, e = .returned (objW o u1 u2 u3) ∧ ObjIn E w' u1 u2 u3 o ∧ (∀ b, E b → w.heap.size ≤ b ∧ b < w'.heap.size) ∧ Below w.heap.size w w' := by
  refine (storeCopy_any o.okey v1 v2 v3 o.ending o.uid o.rev o.doc o.labels o.owners o.holds w h.rowL h.rowO h.rowH (by have := hok.labels.1; omega) (by have := hok.owners.1; omega) (by have := hok.holds.1; omega)).mono ?_
  rintro E w' ⟨u1, u2, u3, rfl, k1, k2, k3, -, hb⟩
  refine ⟨fun b => u1.ownBlock = some b ∨ u2.ownBlock = some b ∨ u3.ownBlock = some b, u1, u2, u3, rfl, ⟨OwnX.ofFlat k1 fun b hb => .inl hb, OwnX.ofFlat k2 fun b hb => .inr (.inl hb), OwnX.ofFlat k3 fun b hb => .inr (.inr hb)⟩, fun b hb9 => ?_, hb⟩
  rcases hb9 with h9 | h9 | h9
  · exact ⟨(k1.at h9).1, (k1.at h9).2.1⟩
  · exact ⟨(k2.at h9).1, (k2.at h9).2.1⟩
  · exact ⟨(k3.at h9).1, (k3.at h9).2.1⟩
theorem hobj9 {I : Dom} {w w' : World} {v1 v2 v3 : Value} {x : GObject} (h : ObjIn I w v1 v2 v3 x) (hb : Below w.heap.size w w') : ObjIn (fun _ => True) w' v1 v2 v3 x := by
  obtain ⟨⟨h1, -⟩, ⟨h2, -⟩, ⟨h3, -⟩⟩ := h
  exact ⟨⟨h1.stay flat_label fun b h9 => hb.block b (h1.at h9).2.1, fun _ _ => trivial⟩, ⟨h2.stay flat_string fun b h9 => hb.block b (h2.at h9).2.1, fun _ _ => trivial⟩, ⟨h3.stay flat_string fun b h9 => hb.block b (h3.at h9).2.1, fun _ _ => trivial⟩⟩
theorem row_on {I : Dom} {w w' : World} {T : TypeId} {v : Value} {vs : List GEvent} (h : OwnAt (VerX I w) 12 w 0 T v vs) (hb : Below w.heap.size w w') : OwnAt (VerX (fun _ => True) w') 12 w' 0 T v vs :=
  (h.stay (famVer.flat I w) fun b h9 => hb.block b (h.at h9).2.1).imp' fun cs x _ hx => by
    obtain ⟨v1, v2, v3, e1, e2⟩ := hx
    exact ⟨v1, v2, v3, e1, hobj9 e2 hb⟩
set_option maxRecDepth 100000 in
set_option maxHeartbeats 3200000 in
theorem at_any {D : Dom} {w : World} {g : Nat} {S : St} (h : StoreAt D w g S) (hS : OkSt S) (k : GKey) (hk : okKey k) (n : Nat) :
    Calls Tryz.prog 49 #[.pointer (some ⟨g, 0, none⟩), .agg #[.string k.kind, .string k.space, .string k.name], .int .i64 (n : Nat)] w fun e w' => Below w.heap.size w w' ∧ ((atR S k n = none ∧ e = .returned (.tuple #[noW, .bool false])) ∨ ∃ o E u1 u2 u3, atR S k n = some o ∧ e = .returned (.tuple #[objW o u1 u2 u3, .bool true]) ∧ ObjIn E w' u1 u2 u3 o ∧ ∀ b, E b → w.heap.size ≤ b ∧ b < w'.heap.size) := by
  obtain ⟨M, I, mb, nn, f, vlog, hin, -⟩ := h
  obtain ⟨va, vn, vc, hlook, hvn, hrow⟩ := hin.look k hk
  have hvl : vn ≤ 4194304 := by rw [hvn]; exact Nat.le_trans (List.length_filter_le _ _) hS.rev
  obtain ⟨w1, hw1⟩ : ∃ w1, w1 = (w.alloc (.cells #[.string k.kind, .string k.space, .string k.name] 24)).alloc (.cells noA 30) := ⟨_, rfl⟩
  obtain ⟨gk, hgk⟩ : ∃ gk, gk = w.heap.size := ⟨_, rfl⟩
  obtain ⟨go, hgo⟩ : ∃ go, go = w.heap.size + 1 := ⟨_, rfl⟩
  have bk : w1.heap[gk]? = some (.cells #[.string k.kind, .string k.space, .string k.name] 24 (0, 0)) := by rw [hw1, hgk]; exact heap_alloc_old (heap_alloc_new w _)
  have bo : w1.heap[go]? = some (.cells noA 30 (0, 0)) := by rw [hw1, hgo]; exact heap_alloc_at (World.size_alloc _ _).symm
  have hb1 : Below w.heap.size w w1 := by rw [hw1]; exact ((Below.refl _ w).alloc (Nat.le_refl _) _).alloc (by rw [World.size_alloc]; omega) _
  have bg := below_block hb1 hin.box
  have cg := fun i => cell_block bg i
  have ck := fun i => cell_block bk i
  have hgw : w.heap.size ≤ go := by omega
  have hs1 : go < w1.heap.size := by rw [hw1, World.size_alloc, World.size_alloc]; omega
  have Hlook := Lib.hid hlook
  have HR := Lib.hid hrow
  have Hvn := Lib.hid hvn
  have BO := Lib.hid bo
  have HB1 := Lib.hid hb1
  have HS := Lib.hid hS
  clear hin hk hlook hrow hvn bo hb1 bk bg hS
  go_enter Tryz.func49, Tryz.ntmps49
  go_upto_region 1 with fail
  have hex : ((w.alloc (.cells #[.string k.kind, .string k.space, .string k.name] 24)).alloc (.cells #[.string { data := #[] }, .string { data := #[] }, .string { data := #[] }, .slice none 0 0, .slice none 0 0, .slice none 0 0, .bool false, .string { data := #[] }, .int .i64 0, .string { data := #[] }] 30)) = w1 := hw1.symm
  rw [hex]
  try rw [← hgo]
  rw [← hgk]
  have hlk : ∀ n, (Instr.lookup 108 (.map (some mb)) (.agg #[.string k.kind, .string k.space, .string k.name]) false).run Tryz.prog (w1.drewN n) = .ok (.slice va vn vc) (w1.drewN n) := fun n => Hlook.out (w1.drewN n) (drewB HB1.out n)
  clear hw1 hex hgk hgo Hlook
  go_quiet (fail)
  have HB2 := Lib.hid (drewB HB1.out nq)
  have BO2 : Hid ((w1.drewN nq).heap[go]? = some (.cells noA 30 (0, 0))) := BO
  have hs2 : go < (w1.drewN nq).heap.size := hs1
  obtain ⟨w2, hw2⟩ : ∃ w2, w1.drewN nq = w2 := ⟨_, rfl⟩
  rw [hw2] at HB2 BO2 hs2 ⊢
  clear hw2 hlk cg ck HB1 BO hs1
  have HBS := Lib.hid (bsearch_any (row_on HR.out HB2.out) Hvn.out hvl (hits_rise HS.out.good k) (n : Int))
  go_wp2_with fail
  refine HBS.out.mono ?_
  rintro E w3 ⟨hb3, i, is, rfl, hin, hlo, hhi, his⟩
  have HT := Lib.hid (at_find HS.out.good hlo hhi his)
  have HI : Hid (is = true → i < vn) := Lib.hid fun h9 => by obtain ⟨x, hx, -⟩ := his.1 h9; have := (List.getElem?_eq_some_iff.1 hx).1; have := Hvn.out; omega
  have BO := Lib.hid (below_block hb3 BO2.out)
  have HB := Lib.hid (HB2.out.trans (hb3.mono HB2.out.size))
  have hs3 : go < w3.heap.size := by have := hb3.size; omega
  clear hb3 hlo hhi his HBS BO2 HB2 hs2
  cases is with
  | true =>
    have hiv := HI.out rfl
    rw [if_pos rfl] at HT
    obtain ⟨e, he⟩ : ∃ e, (hits S.log k)[i]? = some e := ⟨_, List.getElem?_eq_getElem (by have := Hvn.out; omega)⟩
    clear HI
    obtain ⟨b, o, v1, v2, v3, hva, hobj, ec⟩ := ver_cells HR.out Hvn.out HB.out he
    have Hc9 := Lib.hid (at_some HT.out he)
    have hmem : e ∈ S.log := (List.mem_filter.1 (List.mem_of_getElem? he)).1
    have Hok : Hid (OkObj e.object) := Lib.hid (HS.out.obj e hmem)
    have e11 := ec 11 _ rfl
    subst hva
    obtain ⟨x, Hx⟩ : ∃ x, Hid (e.object = x) := ⟨_, Lib.hid rfl⟩
    have hkk : shown e = if decide (e.kind = 3) = true then none else some e.object := by unfold shown; by_cases h : e.kind = 3 <;> simp [h]
    rw [hkk] at Hc9
    rw [Hx.out] at hobj ec Hok Hc9
    have f1 := ec 1 _ rfl
    have f2 := ec 2 _ rfl
    have f3 := ec 3 _ rfl
    have f4 := ec 4 _ rfl
    have f5 := ec 5 _ rfl
    have f6 := ec 6 _ rfl
    have f7 := ec 7 _ rfl
    have f8 := ec 8 _ rfl
    have f9 := ec 9 _ rfl
    have f10 := ec 10 _ rfl
    have Hobj := Lib.hid hobj
    clear ec hobj hmem hkk he
    cases hk3 : decide (e.kind = 3) with
    | true =>
      rw [hk3] at e11 Hc9
      have Hc : Hid (atR S k n = none) := Lib.hid (by rw [Hc9.out]; rfl)
      clear hk3 Hc9 f1 f2 f3 f4 f5 f6 f7 f8 f9 f10
      go_wp2_with (refine wpList_store_box (by rfl) _ _ _ (by rfl) go noA (by rfl) (by rfl) _ _ (by exact BO.out) (by exact Tryz.sizeObj) (by rfl) (by simp [Value.oneCell', noA]) ?_)
      intro WF bF tF
      have HF := Lib.hid (tF.below HB.out hgw)
      go_wp2_with fail
      refine bodyPost_ret (v := .tuple #[.agg noA, .bool false]) ?_ rfl ?_
      · exact results_two_box Tryz.results49 _ _ go _ _ _ _ (by rfl) bF Tryz.underlying30 rfl (by exact Tryz.sizeObj)
      · exact ⟨HF.out, .inl ⟨Hc.out, rfl⟩⟩
    | false =>
      rw [hk3] at e11 Hc9
      have Hc : Hid (atR S k n = some x) := Lib.hid (by rw [Hc9.out]; rfl)
      have HCo := Lib.hid (copyO_any (hobj9 Hobj.out HB.out) Hok.out)
      rw [show objW x v1 v2 v3 = .agg (objCs x v1 v2 v3).toArray from rfl] at HCo
      unfold objCs at HCo
      clear hk3 Hc9
      go_wp2_with fail
      refine HCo.out.mono ?_
      rintro E w3 ⟨D3, u1, u2, u3, rfl, k1, k2, hb3⟩
      have K1 := Lib.hid k1
      have K2 := Lib.hid k2
      have BO3 := Lib.hid (below_block hb3 BO.out)
      have HB3 := Lib.hid (HB.out.trans (hb3.mono HB.out.size))
      have hs3 := HB.out.size
      clear k1 k2 hb3 HCo BO HB
      go_wp2_with (refine wpList_store_box (by rfl) _ _ _ (by rfl) go (objCs x u1 u2 u3).toArray (by rfl) (by rfl) _ _ (by exact BO3.out) (by exact Tryz.sizeObj) (by rfl) (objA_ones K1.out) ?_)
      intro WF bF tF
      have HF := Lib.hid (tF.below HB3.out hgw)
      have K1F := Lib.hid (K1.out.agree fun b hb => tF.other b fun e9 => by have := (K2.out b hb).1; omega)
      have hsF := tF.size
      go_wp2_with fail
      refine bodyPost_ret (v := .tuple #[objW x u1 u2 u3, .bool true]) ?_ rfl ?_
      · exact results_two_box Tryz.results49 _ _ go _ _ _ _ (by rfl) bF Tryz.underlying30 rfl (by exact Tryz.sizeObj)
      · exact ⟨HF.out, .inr ⟨x, D3, u1, u2, u3, Hc.out, rfl, K1F.out, fun b hb => ⟨by have := (K2.out b hb).1; omega, by rw [hsF]; exact (K2.out b hb).2⟩⟩⟩
  | false =>
    rw [if_neg (by decide)] at HT
    clear HI
    by_cases h0 : i = 0
    · subst h0
      have Hc : Hid (atR S k n = none) := Lib.hid (at_none (by rw [HT.out]; rfl))
      clear HT
      go_wp2_with (refine wpList_store_box (by rfl) _ _ _ (by rfl) go noA (by rfl) (by rfl) _ _ (by exact BO.out) (by exact Tryz.sizeObj) (by rfl) (by simp [Value.oneCell', noA]) ?_)
      intro WF bF tF
      have HF := Lib.hid (tF.below HB.out hgw)
      go_wp2_with fail
      refine bodyPost_ret (v := .tuple #[.agg noA, .bool false]) ?_ rfl ?_
      · exact results_two_box Tryz.results49 _ _ go _ _ _ _ (by rfl) bF Tryz.underlying30 rfl (by exact Tryz.sizeObj)
      · exact ⟨HF.out, .inl ⟨Hc.out, rfl⟩⟩
    · obtain ⟨m, rfl⟩ : ∃ m, i = m + 1 := ⟨i - 1, by omega⟩
      obtain ⟨e, he⟩ : ∃ e, (hits S.log k)[m]? = some e := ⟨_, List.getElem?_eq_getElem (by have := Hvn.out; omega)⟩
      have q0 : ((m + 1 : Nat) : Int) - 1 = (m : Int) := by omega
      obtain ⟨b, o, v1, v2, v3, hva, hobj, ec⟩ := ver_cells HR.out Hvn.out HB.out he
      have Hc9 := Lib.hid (at_some HT.out he)
      have hmem : e ∈ S.log := (List.mem_filter.1 (List.mem_of_getElem? he)).1
      have Hok : Hid (OkObj e.object) := Lib.hid (HS.out.obj e hmem)
      have e11 := ec 11 _ rfl
      subst hva
      obtain ⟨x, Hx⟩ : ∃ x, Hid (e.object = x) := ⟨_, Lib.hid rfl⟩
      have hkk : shown e = if decide (e.kind = 3) = true then none else some e.object := by unfold shown; by_cases h : e.kind = 3 <;> simp [h]
      rw [hkk] at Hc9
      rw [Hx.out] at hobj ec Hok Hc9
      have f1 := ec 1 _ rfl
      have f2 := ec 2 _ rfl
      have f3 := ec 3 _ rfl
      have f4 := ec 4 _ rfl
      have f5 := ec 5 _ rfl
      have f6 := ec 6 _ rfl
      have f7 := ec 7 _ rfl
      have f8 := ec 8 _ rfl
      have f9 := ec 9 _ rfl
      have f10 := ec 10 _ rfl
      have Hobj := Lib.hid hobj
      clear ec hobj hmem hkk he
      cases hk3 : decide (e.kind = 3) with
      | true =>
        rw [hk3] at e11 Hc9
        have Hc : Hid (atR S k n = none) := Lib.hid (by rw [Hc9.out]; rfl)
        clear hk3 Hc9 f1 f2 f3 f4 f5 f6 f7 f8 f9 f10
        go_wp2_with (refine wpList_store_box (by rfl) _ _ _ (by rfl) go noA (by rfl) (by rfl) _ _ (by exact BO.out) (by exact Tryz.sizeObj) (by rfl) (by simp [Value.oneCell', noA]) ?_)
        intro WF bF tF
        have HF := Lib.hid (tF.below HB.out hgw)
        go_wp2_with fail
        refine bodyPost_ret (v := .tuple #[.agg noA, .bool false]) ?_ rfl ?_
        · exact results_two_box Tryz.results49 _ _ go _ _ _ _ (by rfl) bF Tryz.underlying30 rfl (by exact Tryz.sizeObj)
        · exact ⟨HF.out, .inl ⟨Hc.out, rfl⟩⟩
      | false =>
        rw [hk3] at e11 Hc9
        have Hc : Hid (atR S k n = some x) := Lib.hid (by rw [Hc9.out]; rfl)
        have HCo := Lib.hid (copyO_any (hobj9 Hobj.out HB.out) Hok.out)
        rw [show objW x v1 v2 v3 = .agg (objCs x v1 v2 v3).toArray from rfl] at HCo
        unfold objCs at HCo
        clear hk3 Hc9
        go_wp2_with fail
        refine HCo.out.mono ?_
        rintro E w3 ⟨D3, u1, u2, u3, rfl, k1, k2, hb3⟩
        have K1 := Lib.hid k1
        have K2 := Lib.hid k2
        have BO3 := Lib.hid (below_block hb3 BO.out)
        have HB3 := Lib.hid (HB.out.trans (hb3.mono HB.out.size))
        have hs3 := HB.out.size
        clear k1 k2 hb3 HCo BO HB
        go_wp2_with (refine wpList_store_box (by rfl) _ _ _ (by rfl) go (objCs x u1 u2 u3).toArray (by rfl) (by rfl) _ _ (by exact BO3.out) (by exact Tryz.sizeObj) (by rfl) (objA_ones K1.out) ?_)
        intro WF bF tF
        have HF := Lib.hid (tF.below HB3.out hgw)
        have K1F := Lib.hid (K1.out.agree fun b hb => tF.other b fun e9 => by have := (K2.out b hb).1; omega)
        have hsF := tF.size
        go_wp2_with fail
        refine bodyPost_ret (v := .tuple #[objW x u1 u2 u3, .bool true]) ?_ rfl ?_
        · exact results_two_box Tryz.results49 _ _ go _ _ _ _ (by rfl) bF Tryz.underlying30 rfl (by exact Tryz.sizeObj)
        · exact ⟨HF.out, .inr ⟨x, D3, u1, u2, u3, Hc.out, rfl, K1F.out, fun b hb => ⟨by have := (K2.out b hb).1; omega, by rw [hsF]; exact (K2.out b hb).2⟩⟩⟩
set_option maxRecDepth 100000 in
set_option maxHeartbeats 3200000 in
theorem get_any {D : Dom} {w : World} {g : Nat} {S : St} (h : StoreAt D w g S) (hS : OkSt S) (k : GKey) (hk : k.kind.size ≤ 1048576 ∧ k.space.size ≤ 1048576 ∧ k.name.size ≤ 1048576) (rev : Int) :
    Calls Tryz.prog 14 #[.pointer (some ⟨g, 0, none⟩), .agg #[.string k.kind, .string k.space, .string k.name], .int .i64 rev] w fun e w' => Below w.heap.size w w' ∧ ∃ E u1 u2 u3, e = .returned (.tuple #[objW (getO S k rev) u1 u2 u3, .int .i64 (getE S k rev)]) ∧ ObjIn E w' u1 u2 u3 (getO S k rev) ∧ ∀ b, E b → w.heap.size ≤ b ∧ b < w'.heap.size := by
  obtain ⟨er, Her⟩ : ∃ x, Hid (keyK k = x) := ⟨_, Lib.hid rfl⟩
  obtain ⟨ge, Hge⟩ : ∃ x, Hid (getE S k rev = x) := ⟨_, Lib.hid rfl⟩
  obtain ⟨gv, Hgv⟩ : ∃ x, Hid (getO S k rev = x) := ⟨_, Lib.hid rfl⟩
  rw [Hge.out, Hgv.out]
  have hokk : okKey k := ⟨by unfold maxLen; omega, by unfold maxLen; omega, by unfold maxLen; omega⟩
  obtain ⟨w1, hw1⟩ : ∃ w1, w1 = (w.alloc (.cells #[.string k.kind, .string k.space, .string k.name] 24)).alloc (.cells noA 30) := ⟨_, rfl⟩
  obtain ⟨gk, hgk⟩ : ∃ gk, gk = w.heap.size := ⟨_, rfl⟩
  obtain ⟨go, hgo⟩ : ∃ go, go = w.heap.size + 1 := ⟨_, rfl⟩
  have bk : Hid (w1.heap[gk]? = some (.cells #[.string k.kind, .string k.space, .string k.name] 24 (0, 0))) := Lib.hid (by rw [hw1, hgk]; exact heap_alloc_old (heap_alloc_new w _))
  have BO1 : Hid (w1.heap[go]? = some (.cells noA 30 (0, 0))) := Lib.hid (by rw [hw1, hgo]; exact heap_alloc_at (World.size_alloc _ _).symm)
  have hb1 : Below w.heap.size w w1 := by rw [hw1]; exact ((Below.refl _ w).alloc (Nat.le_refl _) _).alloc (by rw [World.size_alloc]; omega) _
  have hgw : w.heap.size ≤ go := by omega
  have hs1 : go < w1.heap.size := by rw [hw1, World.size_alloc, World.size_alloc]; omega
  have HB1 := Lib.hid hb1
  have HS := Lib.hid hS
  have HA := Lib.hid h
  have HC := Lib.hid (key_any k.kind k.space k.name w1 (by omega) (by omega) (by omega))
  have her0 : AuP.keyE k.kind.data.toList k.space.data.toList k.name.data.toList = er := Her.out
  rw [her0] at HC
  clear hb1 h hS her0 hk
  go_enter Tryz.func14, Tryz.ntmps14
  go_upto_region 1 with fail
  have hex : ((w.alloc (.cells #[.string k.kind, .string k.space, .string k.name] 24)).alloc (.cells #[.string { data := #[] }, .string { data := #[] }, .string { data := #[] }, .slice none 0 0, .slice none 0 0, .slice none 0 0, .bool false, .string { data := #[] }, .int .i64 0, .string { data := #[] }] 30)) = w1 := hw1.symm
  rw [hex]
  try rw [← hgo]
  rw [← hgk]
  clear hw1 hex hgk hgo
  have cc := fun i => cell_block bk.out i
  go_wp2_with fail
  refine HC.out.mono ?_
  rintro E w2 ⟨rfl, hb2⟩
  have B2 := Lib.hid (below_block hb2 bk.out)
  have BO2 := Lib.hid (below_block hb2 BO1.out)
  have HB2 := Lib.hid (HB1.out.trans (hb2.mono HB1.out.size))
  have hs2 : go < w2.heap.size := by have := hb2.size; omega
  clear hb2 HC cc bk BO1 HB1 hs1
  by_cases her : er = 0
  · subst her
    have cc := fun i => cell_block B2.out i
    have HTi := Lib.hid (time_any (HA.out.belowW HB2.out) rev)
    go_wp2_with fail
    refine HTi.out.mono ?_
    rintro E w3 ⟨rfl, hw3⟩
    subst hw3
    clear HTi
    obtain ⟨te, Hte⟩ : ∃ x, Hid (timeE S rev = x) := ⟨_, Lib.hid rfl⟩
    obtain ⟨tt, Htt⟩ : ∃ x, Hid (timeT S rev = x) := ⟨_, Lib.hid rfl⟩
    rw [Hte.out, Htt.out]
    by_cases hte : te = 0
    · subst hte
      have HAt := Lib.hid (at_any (HA.out.belowW HB2.out) HS.out k hokk tt)
      go_wp2_with fail
      refine HAt.out.mono ?_
      rintro E w3 ⟨hb3, hat⟩
      have BO3 := Lib.hid (below_block hb3 BO2.out)
      have HB3 := Lib.hid (HB2.out.trans (hb3.mono HB2.out.size))
      have hs3 : go < w3.heap.size := by have := hb3.size; omega
      have hs32 := hb3.size
      have hw2 := HB2.out.size
      clear hb3 HAt cc B2 BO2 HB2
      rcases hat with ⟨hc, rfl⟩ | ⟨o, D3, u1, u2, u3, hc, rfl, ho, hD⟩
      · have Hge9 : Hid (ge = 7) := Lib.hid (by rw [← Hge.out]; unfold getE; rw [Her.out, if_neg (by decide), Hte.out, if_neg (by decide), Htt.out, hc]; rfl)
        have Hgv9 : Hid (gv = noObj) := Lib.hid (by rw [← Hgv.out]; unfold getO; rw [Hge.out, Hge9.out]; rfl)
        rw [show noW = .agg noA from rfl]
        clear hc Her Hte Htt Hge Hgv
        have H7 := Lib.hid (heap_alloc_new w3 (.cells noA 30))
        have HB4 := Lib.hid (HB3.out.alloc (by omega) (.cells noA 30))
        have BO4 := Lib.hid (below_block ((Below.refl _ w3).alloc (Nat.le_refl _) (.cells noA 30)) BO3.out)
        have hs4 : (w3.alloc (.cells noA 30)).heap.size = w3.heap.size + 1 := World.size_alloc _ _
        go_wp2_with (refine wpList_store_box (by rfl) _ _ _ (by rfl) w3.heap.size noA (by rfl) (by rfl) _ _ (by exact H7.out) (by exact Tryz.sizeObj) (by rfl) (by simp [Value.oneCell', noA]) ?_)
        intro w5 b5 t5
        have Z5 := Lib.hid b5
        have BO5 := Lib.hid (t5.block BO4.out (by omega))
        have HB5 := Lib.hid (t5.below HB4.out (by omega))
        have hs5 : w5.heap.size = w3.heap.size + 1 := t5.size.trans hs4
        clear b5 t5 hs4 H7 BO4 BO3 HB4 HB3
        go_wp2_with (refine wpList_store_box (by rfl) _ _ _ (by rfl) go noA (by rfl) (by rfl) _ _ (by exact BO5.out) (by exact Tryz.sizeObj) (by rfl) (by simp [Value.oneCell', noA]) ?_)
        intro WF bF tF
        have BF := Lib.hid bF
        have HF := Lib.hid (tF.below HB5.out hgw)
        clear bF tF
        go_wp2_with fail
        refine bodyPost_ret (v := .tuple #[.agg noA, .int .i64 7]) ?_ rfl ?_
        · exact results_two_obj Tryz.results14 _ _ go _ (by rfl) BF.out rfl
        · rw [Hge9.out, Hgv9.out]
          exact ⟨HF.out, fun _ => False, nilS, nilS, nilS, rfl, objIn_no _, fun b hb => hb.elim⟩
      · have Hge9 : Hid (ge = 0) := Lib.hid (by rw [← Hge.out]; unfold getE; rw [Her.out, if_neg (by decide), Hte.out, if_neg (by decide), Htt.out, hc]; rfl)
        have Hgv9 : Hid (gv = o) := Lib.hid (by rw [← Hgv.out]; unfold getO; rw [Hge.out, Hge9.out, if_pos rfl, Htt.out, hc]; rfl)
        have HO := Lib.hid ho
        have HDd := Lib.hid hD
        clear hc ho hD Her Hte Htt Hge Hgv
        have H7 := Lib.hid (heap_alloc_new w3 (.cells noA 30))
        have HB4 := Lib.hid (HB3.out.alloc (by omega) (.cells noA 30))
        have BO4 := Lib.hid (below_block ((Below.refl _ w3).alloc (Nat.le_refl _) (.cells noA 30)) BO3.out)
        have hs4 : (w3.alloc (.cells noA 30)).heap.size = w3.heap.size + 1 := World.size_alloc _ _
        have K4 := Lib.hid (HO.out.agree fun b hb => ((Below.refl _ w3).alloc (Nat.le_refl _) (.cells noA 30)).block b (HDd.out b hb).2)
        go_wp2_with (refine wpList_store_box (by rfl) _ _ _ (by rfl) w3.heap.size (objCs o u1 u2 u3).toArray (by rfl) (by rfl) _ _ (by exact H7.out) (by exact Tryz.sizeObj) (by rfl) (objA_ones HO.out) ?_)
        intro w5 b5 t5
        have Z5 := Lib.hid b5
        have BO5 := Lib.hid (t5.block BO4.out (by omega))
        have HB5 := Lib.hid (t5.below HB4.out (by omega))
        have K5 := Lib.hid (K4.out.agree fun b hb => t5.other b fun e9 => by have := (HDd.out b hb).2; omega)
        have hs5 : w5.heap.size = w3.heap.size + 1 := t5.size.trans hs4
        clear b5 t5 hs4 H7 BO4 BO3 HB4 HB3
        obtain ⟨g9, hg9⟩ : ∃ g9, w3.heap.size = g9 := ⟨_, rfl⟩
        have ZE : Hid (w5.heap[g9]? = some (.cells (objCs o u1 u2 u3).toArray 30 (0, 0))) := Lib.hid (by rw [← hg9]; exact Z5.out)
        have hOw : ∀ b, D3 b → b < g9 := fun b hb => by have := (HDd.out b hb).2; omega
        rw [hg9]
        unfold objCs at ZE
        have cz := fun i => cell_block ZE.out i
        clear Z5 hg9
        go_wp2_with (refine wpList_store_box (by rfl) _ _ _ (by rfl) go (objCs o u1 u2 u3).toArray (by rfl) (by rfl) _ _ (by exact BO5.out) (by exact Tryz.sizeObj) (by rfl) (objA_ones HO.out) ?_)
        intro WF bF tF
        have HF := Lib.hid (tF.below HB5.out hgw)
        have K1F := Lib.hid (K5.out.agree fun b hb => tF.other b fun e9 => by have := (HDd.out b hb).1; omega)
        have hsF := tF.size
        have HD9 : Hid (∀ b, D3 b → w.heap.size ≤ b ∧ b < WF.heap.size) := Lib.hid fun b hb => ⟨by have := (HDd.out b hb).1; omega, by have := (HDd.out b hb).2; omega⟩
        go_wp2_with fail
        refine bodyPost_ret (v := .tuple #[objW o u1 u2 u3, .int .i64 0]) ?_ rfl ?_
        · exact results_two_obj Tryz.results14 _ _ go _ (by rfl) bF rfl
        · rw [Hge9.out, Hgv9.out]
          exact ⟨HF.out, D3, u1, u2, u3, rfl, K1F.out, HD9.out⟩
    · have q0 : (te == 0) = false := by rw [beq_eq_false_iff_ne]; exact hte
      have q1 : (te != 0) = true := bne_iff_ne.2 hte
      have Hge9 : Hid (ge = te) := Lib.hid (by rw [← Hge.out]; unfold getE; rw [Her.out, if_neg (by decide), Hte.out, if_pos hte])
      have Hgv9 : Hid (gv = noObj) := Lib.hid (by rw [← Hgv.out]; unfold getO; rw [Hge.out, Hge9.out, if_neg hte])
      have BO5 := BO2
      have HB5 := HB2
      clear hte Her Hte Htt Hge Hgv cc
      go_wp2_with (refine wpList_store_box (by rfl) _ _ _ (by rfl) go noA (by rfl) (by rfl) _ _ (by exact BO5.out) (by exact Tryz.sizeObj) (by rfl) (by simp [Value.oneCell', noA]) ?_)
      intro WF bF tF
      have BF := Lib.hid bF
      have HF := Lib.hid (tF.below HB5.out hgw)
      clear bF tF
      go_wp2_with fail
      refine bodyPost_ret (v := .tuple #[.agg noA, .int .i64 te]) ?_ rfl ?_
      · exact results_two_obj Tryz.results14 _ _ go _ (by rfl) BF.out rfl
      · rw [Hge9.out, Hgv9.out]
        exact ⟨HF.out, fun _ => False, nilS, nilS, nilS, rfl, objIn_no _, fun b hb => hb.elim⟩
  · have q0 : (er == 0) = false := by rw [beq_eq_false_iff_ne]; exact her
    have q1 : (er != 0) = true := bne_iff_ne.2 her
    have Hge9 : Hid (ge = er) := Lib.hid (by rw [← Hge.out]; unfold getE; rw [Her.out, if_pos her])
    have Hgv9 : Hid (gv = noObj) := Lib.hid (by rw [← Hgv.out]; unfold getO; rw [Hge.out, Hge9.out, if_neg her])
    have BO5 := BO2
    have HB5 := HB2
    clear her Her Hge Hgv
    go_wp2_with (refine wpList_store_box (by rfl) _ _ _ (by rfl) go noA (by rfl) (by rfl) _ _ (by exact BO5.out) (by exact Tryz.sizeObj) (by rfl) (by simp [Value.oneCell', noA]) ?_)
    intro WF bF tF
    have BF := Lib.hid bF
    have HF := Lib.hid (tF.below HB5.out hgw)
    clear bF tF
    go_wp2_with fail
    refine bodyPost_ret (v := .tuple #[.agg noA, .int .i64 er]) ?_ rfl ?_
    · exact results_two_obj Tryz.results14 _ _ go _ (by rfl) BF.out rfl
    · rw [Hge9.out, Hgv9.out]
      exact ⟨HF.out, fun _ => False, nilS, nilS, nilS, rfl, objIn_no _, fun b hb => hb.elim⟩
end Sto
end Go.Proofs.YtnnceaapodgfbaaGreatDoor
namespace Go.Proofs.YtnnceaapodgfbaaGreatDoor
namespace Sto
open Go.RowKit
end Sto
end Go.Proofs.YtnnceaapodgfbaaGreatDoor
namespace Go.Proofs.YtnnceaapodgfbaaGreatDoor
open Go.Shelf
def Tryz.objSort_ren : Go.Shelf.Ren := ⟨fun | 6 => 63 | 15 => 92 | 14 => 91 | 28 => 126 | 29 => 127 | 20 => 118 | 21 => 119 | 22 => 120 | 23 => 121 | 24 => 122 | 25 => 123 | 26 => 124 | 27 => 125 | 46 => 149 | 47 => 150 | 48 => 151 | 49 => 152 | 50 => 153 | 57 => 178 | n => n, fun | 22 => 45 | 24 => 30 | 25 => 123 | 3 => 3 | 39 => 170 | 0 => 0 | 53 => 219 | 55 => 221 | 4 => 4 | 46 => 213 | 45 => 212 | 50 => 160 | 5 => 5 | 9 => 9 | 66 => 243 | 70 => 247 | 76 => 266 | 77 => 267 | n => n, fun | n => n⟩
theorem Tryz.objSort : Go.Proofs.SlLaysF0.n6 Tryz.prog Tryz.objSort_ren := {
  mixed := by kernel_rfl
  f6 := ⟨Tryz.f63.name, by decide, Tryz.func63.trans (congrArg some (by kernel_rfl))⟩
  f14 := ⟨Tryz.f91.name, by decide, Tryz.func91.trans (congrArg some (by kernel_rfl))⟩
  f15 := Tryz.func92.trans (congrArg some (by kernel_rfl))
  f20 := ⟨Tryz.f118.name, by decide, Tryz.func118.trans (congrArg some (by kernel_rfl))⟩
  f21 := ⟨Tryz.f119.name, by decide, Tryz.func119.trans (congrArg some (by kernel_rfl))⟩
  f22 := ⟨Tryz.f120.name, by decide, Tryz.func120.trans (congrArg some (by kernel_rfl))⟩
  f23 := ⟨Tryz.f121.name, by decide, Tryz.func121.trans (congrArg some (by kernel_rfl))⟩
  f24 := ⟨Tryz.f122.name, by decide, Tryz.func122.trans (congrArg some (by kernel_rfl))⟩
  f25 := ⟨Tryz.f123.name, by decide, Tryz.func123.trans (congrArg some (by kernel_rfl))⟩
  f26 := ⟨Tryz.f124.name, by decide, Tryz.func124.trans (congrArg some (by kernel_rfl))⟩
  f27 := ⟨Tryz.f125.name, by decide, Tryz.func125.trans (congrArg some (by kernel_rfl))⟩
  f28 := Tryz.func126.trans (congrArg some (by kernel_rfl))
  f29 := Tryz.func127.trans (congrArg some (by kernel_rfl))
  f46 := ⟨Tryz.f149.name, by decide, Tryz.func149.trans (congrArg some (by kernel_rfl))⟩
  f47 := Tryz.func150.trans (congrArg some (by kernel_rfl))
  f48 := Tryz.func151.trans (congrArg some (by kernel_rfl))
  f49 := ⟨Tryz.f152.name, by decide, Tryz.func152.trans (congrArg some (by kernel_rfl))⟩
  f50 := ⟨Tryz.f153.name, by decide, Tryz.func153.trans (congrArg some (by kernel_rfl))⟩
  f57 := ⟨Tryz.f178.name, by decide, Tryz.func178.trans (congrArg some (by kernel_rfl))⟩
  t0 := Tryz.underlying0
  a0 := Tryz.isAgg0
  z0 := Tryz.sizeOf0
  v0 := Tryz.zeroValue0
  t3 := Tryz.underlying3
  a3 := Tryz.isAgg3
  z3 := Tryz.sizeOf3
  v3 := Tryz.zeroValue3
  t4 := Tryz.underlying4
  a4 := Tryz.isAgg4
  z4 := Tryz.sizeOf4
  v4 := Tryz.zeroValue4
  t5 := Tryz.underlying5
  a5 := Tryz.isAgg5
  z5 := Tryz.sizeOf5
  v5 := Tryz.zeroValue5
  t9 := Tryz.underlying9
  a9 := Tryz.isAgg9
  z9 := Tryz.sizeOf9
  v9 := Tryz.zeroValue9
  t22 := Tryz.underlying45
  a22 := Tryz.isAgg45
  z22 := Tryz.sizeOf45
  v22 := Tryz.zeroValue45
  t25 := Tryz.underlying123
  a25 := Tryz.isAgg123
  z25 := Tryz.sizeOf123
  v25 := Tryz.zeroValue123
  t39 := Tryz.underlying170
  a39 := Tryz.isAgg170
  z39 := Tryz.sizeOf170
  v39 := Tryz.zeroValue170
  t45 := Tryz.underlying212
  a45 := Tryz.isAgg212
  z45 := Tryz.sizeOf212
  v45 := Tryz.zeroValue212
  t46 := Tryz.underlying213
  a46 := Tryz.isAgg213
  z46 := Tryz.sizeOf213
  v46 := Tryz.zeroValue213
  t50 := Tryz.underlying160
  a50 := Tryz.isAgg160
  z50 := Tryz.sizeOf160
  v50 := Tryz.zeroValue160
  t53 := Tryz.underlying219
  a53 := Tryz.isAgg219
  z53 := Tryz.sizeOf219
  v53 := Tryz.zeroValue219
  t55 := Tryz.underlying221
  a55 := Tryz.isAgg221
  z55 := Tryz.sizeOf221
  v55 := Tryz.zeroValue221
  t66 := Tryz.underlying243
  a66 := Tryz.isAgg243
  z66 := Tryz.sizeOf243
  v66 := Tryz.zeroValue243
  t70 := Tryz.underlying247
  a70 := Tryz.isAgg247
  z70 := Tryz.sizeOf247
  v70 := Tryz.zeroValue247
  t76 := Tryz.underlying266
  a76 := Tryz.isAgg266
  z76 := Tryz.sizeOf266
  v76 := Tryz.zeroValue266
  t77 := Tryz.underlying267
  a77 := Tryz.isAgg267
  z77 := Tryz.sizeOf267
  v77 := Tryz.zeroValue267 }
end Go.Proofs.YtnnceaapodgfbaaGreatDoor
namespace Go.Proofs.YtnnceaapodgfbaaGreatDoor
namespace Sto
open Go.RowKit
theorem bl_cb : ∀ a b : List UInt8, Op.bytesLess a b = decide (Lib.compareBytes a b < 0)
  | [], [] => rfl
  | [], _ :: _ => rfl
  | _ :: _, [] => rfl
  | x :: xs, y :: ys => by
    have ih := bl_cb xs ys
    unfold Op.bytesLess Lib.compareBytes
    by_cases h1 : x < y
    · simp [h1]
    · by_cases h2 : y < x
      · have h3 : ¬ x = y := fun e => by subst e; exact UInt8.lt_irrefl _ h2
        simp [h1, h2, h3]
      · have h3 : x = y := by
          rw [UInt8.lt_iff_toNat_lt] at h1 h2
          exact UInt8.toNat_inj.1 (by omega)
        subst h3
        simp [h1, ih]
theorem nanS_any (x : ByteArray) (w : World) : Calls Tryz.prog 108 #[.string x] w fun e w' => e = .returned (.bool false) ∧ w = w' := by
  go_enter Tryz.func108, Tryz.ntmps108
  go_wp2_with fail
  go_ret
  exact ⟨by simp, rfl⟩
def cmpB (a b : ByteArray) : Int := Lib.compareBytes a.data.toList b.data.toList
theorem cmpB_lt {a b : ByteArray} (h : Op.bytesLess a.toList b.toList = true) : cmpB a b = -1 := by
  rw [bl_cb, decide_eq_true_iff, Lib.toList_data, Lib.toList_data] at h
  unfold cmpB
  rcases cb_range a.data.toList b.data.toList with e | e | e <;> omega
theorem cmpS_any (a b : ByteArray) (w : World) : Calls Tryz.prog 75 #[.string a, .string b] w fun e w' => e = .returned (.int .i64 (cmpB a b)) ∧ w = w' := by
  have H := fun x (w : World) => Lib.hid (nanS_any x w)
  obtain ⟨r, Hr⟩ : ∃ r, Hid (cmpB a b = r) := ⟨_, Lib.hid rfl⟩
  rw [Hr.out]
  go_enter Tryz.func75, Tryz.ntmps75
  go_wp2_with fail
  refine (H a w).out.mono ?_
  rintro E w1 ⟨rfl, rfl⟩
  go_wp2_with fail
  refine (H b w).out.mono ?_
  rintro E w1 ⟨rfl, rfl⟩
  cases h1 : Op.bytesLess a.toList b.toList with
  | true =>
    obtain rfl : r = -1 := by rw [← Hr.out]; exact cmpB_lt h1
    go_wp2_with fail
    go_ret
    exact ⟨rfl, rfl⟩
  | false =>
    have q9 : (binOp .gtr 9 (.string a) (.string b)).run Tryz.prog w = .ok (.bool (!(Op.bytesLess a.toList b.toList || a.toList == b.toList))) w := by simp [binOp, Op.stringOp]
    cases h2 : (a.toList == b.toList) with
    | true =>
      have Hr0 : Hid (r = 0) := Lib.hid (by
        rw [← Hr.out]
        unfold cmpB
        have h3 := eq_of_beq h2
        rw [Lib.toList_data, Lib.toList_data] at h3
        rw [h3, cb_self])
      rw [h1, h2] at q9
      go_wp2_with fail
      go_ret
      exact ⟨by rw [Hr0.out]; rfl, rfl⟩
    | false =>
      have Hr1 : Hid (r = 1) := Lib.hid (by
        rw [← Hr.out]
        unfold cmpB
        rw [bl_cb, decide_eq_false_iff_not, Lib.toList_data, Lib.toList_data] at h1
        rw [beq_eq_false_iff_ne, Lib.toList_data, Lib.toList_data] at h2
        rcases cb_range a.data.toList b.data.toList with e | e | e
        · omega
        · exact absurd (cb_eq _ _ e) h2
        · exact e)
      rw [h1, h2] at q9
      go_wp2_with fail
      go_ret
      exact ⟨by rw [Hr1.out]; rfl, rfl⟩
def orI (a b : Int) : Int := if a ≠ 0 then a else b
set_option maxRecDepth 100000 in
theorem or_any (g : Nat) (a b : Int) (w : World) (T : TypeId) (h : w.heap[g]? = some (.cells #[.int .i64 a, .int .i64 b] T (0, 0))) : Calls Tryz.prog 74 #[.slice (some ⟨g, 0, none⟩) 2 2] w fun e w' => e = .returned (.int .i64 (orI a b)) ∧ w = w' := by
  have cc := fun i => cell_block h i
  have c0 : w.cell? ⟨g, 0, none⟩ = some (.int .i64 a) := cc 0
  have c1 : w.cell? ⟨g, 0 + 1 * 1, none⟩ = some (.int .i64 b) := cc 1
  have c2 : w.cell? ⟨g, 1, none⟩ = some (.int .i64 b) := cc 1
  have c3 : w.cell? ⟨g, 0 + 1, none⟩ = some (.int .i64 b) := cc 1
  obtain ⟨r, Hr⟩ : ∃ r, Hid (orI a b = r) := ⟨_, Lib.hid rfl⟩
  rw [Hr.out]
  clear cc h
  go_enter Tryz.func74, Tryz.ntmps74
  go_wp2_with fail
  go_loopg [5, 8] 2 (fun k u5 u8 wr => wr = w ∧ ∃ i : Nat, i + k = 2 ∧ u8 = .int .i64 (i : Int) ∧ (i ≠ 0 → Hid (a = 0)) ∧ (i = 2 → Hid (b = 0)))
  case atStart => exact ⟨rfl, 0, rfl, rfl, fun h => absurd rfl h, fun h => by cases h⟩
  case round =>
    obtain ⟨rfl, i, hik, rfl, h1, h2⟩ := hrel
    match gk, hik with
    | 0, hik =>
      obtain rfl : i = 2 := by omega
      have Ha := h1 (by decide)
      have Hb := h2 rfl
      have Hr0 : Hid (r = 0) := Lib.hid (by rw [← Hr.out, Ha.out, Hb.out]; rfl)
      clear h1 h2 Ha Hb hik
      go_wp2_with fail
      go_ret
      exact ⟨by rw [Hr0.out]; rfl, rfl⟩
    | 1, hik =>
      obtain rfl : i = 1 := by omega
      have Ha := h1 (by decide)
      clear h1 h2 hik
      by_cases hb : b = 0
      · subst hb
        go_wp2_with fail
        go_roundg 0
        case measure => omega
        case rel => exact ⟨rfl, 2, rfl, rfl, fun _ => Ha, fun _ => Lib.hid trivial⟩
      · have q1 : (b != 0) = true := bne_iff_ne.2 hb
        have Hr1 : Hid (r = b) := Lib.hid (by rw [← Hr.out, Ha.out]; rfl)
        clear hb
        go_wp2_with fail
        go_ret
        exact ⟨by rw [Hr1.out]; rfl, rfl⟩
    | k + 2, hik =>
      obtain rfl : i = 0 := by omega
      obtain rfl : k = 0 := by omega
      clear h1 h2 hik
      by_cases ha : a = 0
      · subst ha
        go_wp2_with fail
        go_roundg 1
        case measure => omega
        case rel => exact ⟨rfl, 1, rfl, rfl, fun _ => Lib.hid trivial, fun h => by cases h⟩
      · have q1 : (a != 0) = true := bne_iff_ne.2 ha
        have Hr1 : Hid (r = a) := Lib.hid (by rw [← Hr.out]; unfold orI; rw [if_pos ha])
        clear ha
        go_wp2_with fail
        go_ret
        exact ⟨by rw [Hr1.out]; rfl, rfl⟩
set_option maxRecDepth 100000 in
set_option maxHeartbeats 1600000 in
theorem order_any (a1 a2 a3 b1 b2 b3 : ByteArray) (x1 x2 x3 x4 x5 x6 x7 y1 y2 y3 y4 y5 y6 y7 : Value) (W : World) : Calls Tryz.prog 64 #[.agg #[.string a1, .string a2, .string a3, x1, x2, x3, x4, x5, x6, x7], .agg #[.string b1, .string b2, .string b3, y1, y2, y3, y4, y5, y6, y7]] W fun e w' => e = .returned (.int .i64 (orI (cmpB a2 b2) (cmpB a3 b3))) ∧ ∃ q os', w' = Go.Sort.grow (W.drewN q) os' := by
  have HC := fun a b w => Lib.hid (cmpS_any a b w)
  obtain ⟨W2, hW2⟩ : ∃ W2, W2 = (W.alloc (.cells #[.string a1, .string a2, .string a3, x1, x2, x3, x4, x5, x6, x7] 30)).alloc (.cells #[.string b1, .string b2, .string b3, y1, y2, y3, y4, y5, y6, y7] 30) := ⟨_, rfl⟩
  obtain ⟨ga, hga⟩ : ∃ ga, ga = W.heap.size := ⟨_, rfl⟩
  obtain ⟨gb, hgb⟩ : ∃ gb, gb = W.heap.size + 1 := ⟨_, rfl⟩
  have XA : Hid (W2.heap[ga]? = some (.cells #[.string a1, .string a2, .string a3, x1, x2, x3, x4, x5, x6, x7] 30 (0, 0))) := Lib.hid (by rw [hW2, hga]; exact heap_alloc_old (heap_alloc_new W _))
  have XB : Hid (W2.heap[gb]? = some (.cells #[.string b1, .string b2, .string b3, y1, y2, y3, y4, y5, y6, y7] 30 (0, 0))) := Lib.hid (by rw [hW2, hgb]; exact heap_alloc_at (World.size_alloc _ _).symm)
  have HW2 := Lib.hid hW2
  go_enter Tryz.func64, Tryz.ntmps64
  go_upto_region 1 with fail
  rw [← hW2]
  try rw [← hgb]
  rw [← hga]
  clear hW2 hga hgb
  refine wp_region_hold 14 (fun w' => ∃ q, w' = W2.drewN q) (by kernel_rfl) (by kernel_rfl) ?_ ?_
  · exact ⟨1, rfl⟩
  simp only [List.take_succ_cons, List.take_zero, List.drop_succ_cons, List.drop_zero]
  (first | (refine wpHold_pure (v := ?_) (by rfl) (fun w => ?_) ?_; rotate_left; focus (first | (go_simp; done) | (go_simp; with_reducible rfl))) | (refine wpHold_skip ?_ ?_; focus (go_simp; done)) | (refine wpHold_pure' (v := ?_) ?_ (fun w => ?_) ?_; rotate_left; focus (go_simp; done); focus (first | (go_simp; done) | (go_simp; with_reducible rfl)))); try simp only [Act.put, List.setIfInBounds_toArray, List.set_cons_zero, List.set_cons_succ]
  (first | (refine wpHold_pure (v := ?_) (by rfl) (fun w => ?_) ?_; rotate_left; focus (first | (go_simp; done) | (go_simp; with_reducible rfl))) | (refine wpHold_skip ?_ ?_; focus (go_simp; done)) | (refine wpHold_pure' (v := ?_) ?_ (fun w => ?_) ?_; rotate_left; focus (go_simp; done); focus (first | (go_simp; done) | (go_simp; with_reducible rfl)))); try simp only [Act.put, List.setIfInBounds_toArray, List.set_cons_zero, List.set_cons_succ]
  refine wpHold_read (v := .string a2) (by rfl) (fun w' hI => ?_) ?_
  · obtain ⟨q, rfl⟩ := hI
    have ca : ∀ i, (W2.drewN q).cell? ⟨ga, i, none⟩ = _ := fun i => cell_block XA.out i
    have cb : ∀ i, (W2.drewN q).cell? ⟨gb, i, none⟩ = _ := fun i => cell_block XB.out i
    go_simp
    done
  try simp only [Act.put, List.setIfInBounds_toArray, List.set_cons_zero, List.set_cons_succ]
  (first | (refine wpHold_pure (v := ?_) (by rfl) (fun w => ?_) ?_; rotate_left; focus (first | (go_simp; done) | (go_simp; with_reducible rfl))) | (refine wpHold_skip ?_ ?_; focus (go_simp; done)) | (refine wpHold_pure' (v := ?_) ?_ (fun w => ?_) ?_; rotate_left; focus (go_simp; done); focus (first | (go_simp; done) | (go_simp; with_reducible rfl)))); try simp only [Act.put, List.setIfInBounds_toArray, List.set_cons_zero, List.set_cons_succ]
  (first | (refine wpHold_pure (v := ?_) (by rfl) (fun w => ?_) ?_; rotate_left; focus (first | (go_simp; done) | (go_simp; with_reducible rfl))) | (refine wpHold_skip ?_ ?_; focus (go_simp; done)) | (refine wpHold_pure' (v := ?_) ?_ (fun w => ?_) ?_; rotate_left; focus (go_simp; done); focus (first | (go_simp; done) | (go_simp; with_reducible rfl)))); try simp only [Act.put, List.setIfInBounds_toArray, List.set_cons_zero, List.set_cons_succ]
  refine wpHold_read (v := .string b2) (by rfl) (fun w' hI => ?_) ?_
  · obtain ⟨q, rfl⟩ := hI
    have ca : ∀ i, (W2.drewN q).cell? ⟨ga, i, none⟩ = _ := fun i => cell_block XA.out i
    have cb : ∀ i, (W2.drewN q).cell? ⟨gb, i, none⟩ = _ := fun i => cell_block XB.out i
    go_simp
    done
  try simp only [Act.put, List.setIfInBounds_toArray, List.set_cons_zero, List.set_cons_succ]
  refine wpHold_call (v := .int .i64 (cmpB a2 b2)) (f := 75) (args := #[.string a2, .string b2]) (by rfl) (fun w' => ?_) (fun w' hI => ?_) ?_
  · go_simp
    done
  · exact (HC a2 b2 w').out.mono fun e w'' ⟨h1, h2⟩ => ⟨h1, h2 ▸ hI⟩
  try simp only [Act.put, List.setIfInBounds_toArray, List.set_cons_zero, List.set_cons_succ]
  (first | (refine wpHold_pure (v := ?_) (by rfl) (fun w => ?_) ?_; rotate_left; focus (first | (go_simp; done) | (go_simp; with_reducible rfl))) | (refine wpHold_skip ?_ ?_; focus (go_simp; done)) | (refine wpHold_pure' (v := ?_) ?_ (fun w => ?_) ?_; rotate_left; focus (go_simp; done); focus (first | (go_simp; done) | (go_simp; with_reducible rfl)))); try simp only [Act.put, List.setIfInBounds_toArray, List.set_cons_zero, List.set_cons_succ]
  (first | (refine wpHold_pure (v := ?_) (by rfl) (fun w => ?_) ?_; rotate_left; focus (first | (go_simp; done) | (go_simp; with_reducible rfl))) | (refine wpHold_skip ?_ ?_; focus (go_simp; done)) | (refine wpHold_pure' (v := ?_) ?_ (fun w => ?_) ?_; rotate_left; focus (go_simp; done); focus (first | (go_simp; done) | (go_simp; with_reducible rfl)))); try simp only [Act.put, List.setIfInBounds_toArray, List.set_cons_zero, List.set_cons_succ]
  refine wpHold_read (v := .string a3) (by rfl) (fun w' hI => ?_) ?_
  · obtain ⟨q, rfl⟩ := hI
    have ca : ∀ i, (W2.drewN q).cell? ⟨ga, i, none⟩ = _ := fun i => cell_block XA.out i
    have cb : ∀ i, (W2.drewN q).cell? ⟨gb, i, none⟩ = _ := fun i => cell_block XB.out i
    go_simp
    done
  try simp only [Act.put, List.setIfInBounds_toArray, List.set_cons_zero, List.set_cons_succ]
  (first | (refine wpHold_pure (v := ?_) (by rfl) (fun w => ?_) ?_; rotate_left; focus (first | (go_simp; done) | (go_simp; with_reducible rfl))) | (refine wpHold_skip ?_ ?_; focus (go_simp; done)) | (refine wpHold_pure' (v := ?_) ?_ (fun w => ?_) ?_; rotate_left; focus (go_simp; done); focus (first | (go_simp; done) | (go_simp; with_reducible rfl)))); try simp only [Act.put, List.setIfInBounds_toArray, List.set_cons_zero, List.set_cons_succ]
  (first | (refine wpHold_pure (v := ?_) (by rfl) (fun w => ?_) ?_; rotate_left; focus (first | (go_simp; done) | (go_simp; with_reducible rfl))) | (refine wpHold_skip ?_ ?_; focus (go_simp; done)) | (refine wpHold_pure' (v := ?_) ?_ (fun w => ?_) ?_; rotate_left; focus (go_simp; done); focus (first | (go_simp; done) | (go_simp; with_reducible rfl)))); try simp only [Act.put, List.setIfInBounds_toArray, List.set_cons_zero, List.set_cons_succ]
  refine wpHold_read (v := .string b3) (by rfl) (fun w' hI => ?_) ?_
  · obtain ⟨q, rfl⟩ := hI
    have ca : ∀ i, (W2.drewN q).cell? ⟨ga, i, none⟩ = _ := fun i => cell_block XA.out i
    have cb : ∀ i, (W2.drewN q).cell? ⟨gb, i, none⟩ = _ := fun i => cell_block XB.out i
    go_simp
    done
  try simp only [Act.put, List.setIfInBounds_toArray, List.set_cons_zero, List.set_cons_succ]
  refine wpHold_call (v := .int .i64 (cmpB a3 b3)) (f := 75) (args := #[.string a3, .string b3]) (by rfl) (fun w' => ?_) (fun w' hI => ?_) ?_
  · go_simp
    done
  · exact (HC a3 b3 w').out.mono fun e w'' ⟨h1, h2⟩ => ⟨h1, h2 ▸ hI⟩
  try simp only [Act.put, List.setIfInBounds_toArray, List.set_cons_zero, List.set_cons_succ]
  refine wpHold_nil ?_
  intro w' hI
  obtain ⟨q, rfl⟩ := hI
  go_wp2_with fail
  refine (or_any W2.heap.size (cmpB a2 b2) (cmpB a3 b3) _ 3 (heap_alloc_new (W2.drewN q) _)).mono ?_
  rintro E w2 ⟨rfl, hw⟩
  subst hw
  go_wp2_with fail
  go_ret
  have hgrow : ∀ o1 o2 o3 : Obj, (((W.drewN q).alloc o1).alloc o2).alloc o3 = Go.Sort.grow (W.drewN q) (#[o1] ++ (#[o2] ++ #[o3])) := fun o1 o2 o3 => by
    rw [Go.Sort.alloc_eq_grow, Go.Sort.alloc_eq_grow, Go.Sort.alloc_eq_grow, Go.Sort.grow_grow, Go.Sort.grow_grow]
  exact ⟨rfl, q, _, by rw [HW2.out]; exact hgrow _ _ _⟩
end Sto
end Go.Proofs.YtnnceaapodgfbaaGreatDoor
namespace Go.Proofs.YtnnceaapodgfbaaGreatDoor
namespace Sto
open Go.RowKit Go.Shelf Go.Sort
instance inhKey : Inhabited GKey := ⟨noKey⟩
instance inhOb : Inhabited GObject := ⟨noObj⟩
def oneV (v : Value) : Value := if v.oneCell' = true then v else .nilIface
theorem oneV_one (v : Value) : (oneV v).oneCell' = true := by
  unfold oneV
  split
  · assumption
  · rfl
theorem oneV_of {v : Value} (h : v.oneCell' = true) : oneV v = v := if_pos h
abbrev OC := (Value × Value × Value) × GObject
def encOw (p : OC) : List Value := objCs p.2 (oneV p.1.1) (oneV p.1.2.1) (oneV p.1.2.2)
def cfOb (a b : GObject) : Int := orI (cmpB a.okey.space b.okey.space) (cmpB a.okey.name b.okey.name)
def cfOw (p q : OC) : Int := cfOb p.2 q.2
theorem ltOw (p q : OC) : ltOf cfOw p q = decide (cfOb p.2 q.2 < 0) := rfl
theorem cfOb_lt (a b : GObject) : cfOb a b < 0 ↔ ahead a b := by
  unfold cfOb orI ahead lessS cmpB
  by_cases h : Lib.compareBytes a.okey.space.data.toList b.okey.space.data.toList = 0
  · have e : a.okey.space = b.okey.space := by have h9 := cb_eq _ _ h; exact toList_inj (by rw [Lib.toList_data, Lib.toList_data]; exact h9)
    rw [if_neg (fun h9 => h9 h)]
    constructor
    · exact fun h9 => .inr ⟨e, h9⟩
    · rintro (h9 | ⟨_, h9⟩)
      · omega
      · exact h9
  · rw [if_pos h]
    constructor
    · exact fun h9 => .inl h9
    · rintro (h9 | ⟨e, _⟩)
      · exact h9
      · rw [e, cb_self] at h; exact absurd rfl h
theorem cfOb_nlt_trans (a b c : GObject) (h1 : ¬ cfOb a b < 0) (h2 : ¬ cfOb b c < 0) : ¬ cfOb a c < 0 := by
  have n2 := cb_ntrans a.okey.name.data.toList b.okey.name.data.toList c.okey.name.data.toList
  have s1 := cb_swap a.okey.space.data.toList b.okey.space.data.toList
  have s2 := cb_swap b.okey.space.data.toList c.okey.space.data.toList
  have s3 := cb_swap a.okey.space.data.toList c.okey.space.data.toList
  have t1 := cb_trans c.okey.space.data.toList b.okey.space.data.toList a.okey.space.data.toList
  have z1 : Lib.compareBytes a.okey.space.data.toList b.okey.space.data.toList = 0 → Lib.compareBytes a.okey.space.data.toList c.okey.space.data.toList = Lib.compareBytes b.okey.space.data.toList c.okey.space.data.toList := fun h => by rw [cb_eq _ _ h]
  have z2 : Lib.compareBytes b.okey.space.data.toList c.okey.space.data.toList = 0 → Lib.compareBytes a.okey.space.data.toList c.okey.space.data.toList = Lib.compareBytes a.okey.space.data.toList b.okey.space.data.toList := fun h => by rw [cb_eq _ _ h]
  unfold cfOb orI cmpB at *
  split at h1 <;> split at h2 <;> split <;> omega
theorem swoOw : SWO (ltOf cfOw) where
  irrefl x := by
    rw [ltOw, decide_eq_false_iff_not, cfOb_lt]
    exact ahead_irrefl _
  trans x y z h1 h2 := by
    rw [ltOw, decide_eq_true_iff, cfOb_lt] at *
    exact ahead_trans h1 h2
  ntrans x y z h1 h2 := by
    rw [ltOw, decide_eq_false_iff_not] at *
    exact cfOb_nlt_trans _ _ _ h1 h2
theorem ownedCmp (x y : OC) (W : World) : Calls Tryz.prog 64 #[.agg (encOw x).toArray, .agg (encOw y).toArray] W fun e w' => e = .returned (.int .i64 (cfOw x y)) ∧ ∃ q os', w' = Go.Sort.grow (W.drewN q) os' :=
  order_any x.2.okey.kind x.2.okey.space x.2.okey.name y.2.okey.kind y.2.okey.space y.2.okey.name _ _ _ _ _ _ _ _ _ _ _ _ _ _ W
theorem ownedLays (blk off size : Nat) (w : World) : CmpLays Tryz.prog 64 #[] encOw 10 cfOw blk off size w := fun _ _ _ _ x y => ownedCmp x y _
theorem sorted_pairs {α : Type} [Inhabited α] {cf : α → α → Int} (c : α → α → Int) (hc : ∀ p q, ltOf cf p q = decide (c p q < 0)) {d : Array α} {n : Nat} (hn : d.size = n) (h : SortedIn (ltOf cf) 0 n d) : d.toList.Pairwise fun p q => ¬ c q p < 0 := by
  rw [List.pairwise_iff_getElem]
  intro i j hi hj hij
  have h1 := h i j (Nat.zero_le _) hij (by rw [← hn]; simpa using hj)
  rw [hc, decide_eq_false_iff_not] at h1
  rw [getElem!_pos d j (by simpa using hj), getElem!_pos d i (by simpa using hi)] at h1
  simpa using h1
theorem encOw_len (x : OC) : (encOw x).length = 10 := rfl
theorem encOw_one (x : OC) : ∀ v ∈ encOw x, v.oneCell' = true := fun v hv => by
  unfold encOw objCs at hv
  simp only [List.mem_cons, List.not_mem_nil, or_false] at hv
  rcases hv with rfl | rfl | rfl | rfl | rfl | rfl | rfl | rfl | rfl | rfl
  · rfl
  · rfl
  · rfl
  · exact oneV_one _
  · exact oneV_one _
  · exact oneV_one _
  · rfl
  · rfl
  · rfl
  · rfl
theorem flatK_getOw (d : List OC) : (flatK encOw 10 d.toArray).toList = (d.map encOw).flatten := by
  have hk : ∀ cs ∈ d.map encOw, cs.length = 10 := fun cs h => by
    obtain ⟨x, _, rfl⟩ := List.mem_map.1 h
    rfl
  have hl : (d.map encOw).flatten.length = d.length * 10 := by rw [flat_len hk, List.length_map]
  refine List.ext_getElem? fun t => ?_
  by_cases ht : t < d.length * 10
  · have e1 : t = t / 10 * 10 + t % 10 := by omega
    have hj : t / 10 < d.length := by omega
    have hi : t % 10 < 10 := by omega
    have e2 : (d.map encOw).flatten[t]? = some (encOw d[t / 10])[t % 10] := by
      conv => lhs; rw [e1]
      exact get_flat hk (by rw [List.getElem?_map, List.getElem?_eq_getElem hj]; rfl) (List.getElem?_eq_getElem (by rw [encOw_len]; exact hi))
    rw [e2]
    have e3 := get_flatK encOw 10 d.toArray t (by simpa using ht)
    have e4 : t < (flatK encOw 10 d.toArray).size := by rw [size_flatK]; simpa using ht
    rw [getElem!_pos _ t e4] at e3
    rw [Array.getElem?_toList, Array.getElem?_eq_getElem e4, e3, getElem!_pos d.toArray (t / 10) (by simpa using hj), getElem!_pos _ (t % 10) (by rw [encOw_len]; exact hi)]
    rfl
  · rw [List.getElem?_eq_none (by rw [Array.length_toList, size_flatK]; simp; omega), List.getElem?_eq_none (by rw [hl]; omega)]
theorem ow_sorted {E : Dom} {w0 w : World} {B g n c : Nat} {l : List GObject} (h : OwnAt (ObjX E w0) 10 w B 30 (.slice (some ⟨g, 0, none⟩) n c) l) :
    n = l.length ∧ g < w.heap.size ∧ ∃ d : List OC, d.length = l.length ∧ HoldsK encOw 10 w g 0 d.toArray ∧ ∀ (q : Nat) (d' : List OC), d'.Perm d → (d'.map (·.2)).Perm l ∧
      OwnAt (ObjX E w0) 10 (putRowK encOw 10 (Go.Sort.ahead w q) g 0 d'.toArray) B 30 (.slice (some ⟨g, 0, none⟩) n c) (d'.map (·.2)) ∧ RowKit.Below B w (putRowK encOw 10 (Go.Sort.ahead w q) g 0 d'.toArray) ∧ (∀ k, k ≠ g → (putRowK encOw 10 (Go.Sort.ahead w q) g 0 d'.toArray).heap[k]? = w.heap[k]?) ∧ (putRowK encOw 10 (Go.Sort.ahead w q) g 0 d'.toArray).heap.size = w.heap.size := by
  obtain ⟨css, c1, c2, ⟨c3, c4⟩, c5⟩ := h
  rcases c4 with ⟨h0, _⟩ | ⟨g', cap, cur, hv, hB, hh, hle, hm, hzc, ht⟩
  · cases h0
  · injection hv with u1 u2 u3
    injection u1 with u1
    injection u1 with u1
    subst u1; subst u2; subst u3
    have hgl : g < w.heap.size := by
      rcases Nat.lt_or_ge g w.heap.size with h1 | h1
      · exact h1
      · rw [Array.getElem?_eq_none h1] at hh; cases hh
    obtain ⟨d, hd1, hd2⟩ := pick_each (fun j (p : OC) => ∃ cs x, css[j]? = some cs ∧ l[j]? = some x ∧ p.2 = x ∧ encOw p = cs) l.length (fun j hj => by
      have hj1 : css[j]? = some (css[j]'(by omega)) := List.getElem?_eq_getElem _
      have hj2 : l[j]? = some l[j] := List.getElem?_eq_getElem _
      obtain ⟨s1, s2, s3, e1, e2⟩ := c5 j _ _ hj1 hj2
      refine ⟨((s1, s2, s3), l[j]), _, _, hj1, hj2, rfl, ?_⟩
      rw [e1]
      unfold encOw
      rw [oneV_of (own_one e2.labels.own), oneV_of (own_one e2.owners.own), oneV_of (own_one e2.holds.own)])
    have hdl : d.map (·.2) = l := by
      refine List.ext_getElem? fun j => ?_
      rw [List.getElem?_map]
      by_cases hj : j < l.length
      · have hp : d[j]? = some (d[j]'(by omega)) := List.getElem?_eq_getElem _
        obtain ⟨cs, x, _, e2, e3, _⟩ := hd2 j _ hp
        rw [hp, e2, ← e3]
        rfl
      · rw [List.getElem?_eq_none (by omega), List.getElem?_eq_none (by omega)]; rfl
    have hdc : d.map encOw = css := by
      refine List.ext_getElem? fun j => ?_
      rw [List.getElem?_map]
      by_cases hj : j < l.length
      · have hp : d[j]? = some (d[j]'(by omega)) := List.getElem?_eq_getElem _
        obtain ⟨cs, x, e1, _, _, e4⟩ := hd2 j _ hp
        rw [hp, e1, ← e4]
        rfl
      · rw [List.getElem?_eq_none (by omega), List.getElem?_eq_none (by omega)]; rfl
    have hR : ∀ p ∈ d, ObjX E w0 w (encOw p) p.2 := fun p hp => by
      obtain ⟨j, hj, rfl⟩ := List.getElem_of_mem hp
      obtain ⟨cs, x, e1, e2, e3, e4⟩ := hd2 j _ (List.getElem?_eq_getElem hj)
      rw [e3, e4]
      exact c5 j cs x e1 e2
    refine ⟨rfl, hgl, d, hd1, ?_, ?_⟩
    · intro j hj
      rw [size_flatK] at hj
      have hj3 : j < l.length * 10 := by simpa [hd1] using hj
      refine ⟨?_, free_block hh _⟩
      have e4 : j < (flatK encOw 10 d.toArray).size := by rw [size_flatK]; exact hj
      rw [getElem!_pos _ j e4, Nat.zero_add, cell_block hh]
      have e5 : (flatK encOw 10 d.toArray).toList[j]? = cur.toList[j]? := by
        rw [flatK_getOw, hdc, ← ht, List.getElem?_take_of_lt hj3]
      rw [Array.getElem?_toList, Array.getElem?_toList, Array.getElem?_eq_getElem e4] at e5
      exact e5.symm
    · intro q d' hp
      have hl' : d'.length = l.length := by rw [hp.length_eq, hd1]
      obtain ⟨W, hW⟩ : ∃ W, putRowK encOw 10 (Go.Sort.ahead w q) g 0 d'.toArray = W := ⟨_, rfl⟩
      rw [hW]
      have hw : W.heap[g]? = some (.cells (putCells id 0 (flatK encOw 10 d'.toArray) cur) 30 (0, 0)) := by
        rw [← hW]
        unfold putRowK putRow mapBlock
        show (Array.modify w.heap g _)[g]? = _
        rw [Array.getElem?_modify, if_pos rfl, hh]
        rfl
      have ho : ∀ k, k ≠ g → W.heap[k]? = w.heap[k]? := fun k hk => by
        rw [← hW]
        unfold putRowK putRow mapBlock
        show (Array.modify w.heap g _)[k]? = _
        rw [Array.getElem?_modify, if_neg (Ne.symm hk)]
      have hs : W.heap.size = w.heap.size := by
        rw [← hW]
        unfold putRowK putRow mapBlock
        show (Array.modify w.heap g _).size = _
        rw [Array.size_modify]
      have hk' : ∀ cs ∈ d'.map encOw, cs.length = 10 := fun cs h => by
        obtain ⟨x, _, rfl⟩ := List.mem_map.1 h
        rfl
      refine ⟨by rw [← hdl]; exact hp.map _, ⟨d'.map encOw, by rw [List.length_map, List.length_map], hk', ⟨by rw [flat_len hk', List.length_map, List.length_map], .inr ⟨g, c, _, by rw [List.length_map, hl'], hB, hw, by rw [List.length_map, hl']; exact hle, hm, by unfold putCells; rw [Array.size_mapIdx]; exact hzc, ?_⟩⟩, ?_⟩, ⟨by rw [← hW]; rfl, by rw [← hW]; rfl, by rw [← hW]; rfl, by rw [hs]; exact Nat.le_refl _, fun k hk => ho k (by omega)⟩, ho, hs⟩
      · rw [← flatK_getOw, List.length_map, hl']
        apply List.ext_getElem?
        intro t
        by_cases htl : t < l.length * 10
        · have htc : t < cur.size := by rw [hzc]; omega
          have e4 : t < (flatK encOw 10 d'.toArray).size := by rw [size_flatK]; simp [hl']; omega
          rw [List.getElem?_take_of_lt htl, Array.getElem?_toList, Array.getElem?_toList]
          unfold putCells
          rw [Array.getElem?_mapIdx, Array.getElem?_eq_getElem htc, Option.map_some, if_pos ⟨by omega, by omega⟩, Nat.sub_zero, getElem!_pos _ t e4, Array.getElem?_eq_getElem e4]
          rfl
        · rw [List.getElem?_eq_none (by rw [List.length_take]; omega), List.getElem?_eq_none (by rw [Array.length_toList, size_flatK]; simp [hl']; omega)]
      · intro j cs x hcs hx
        rw [List.getElem?_map] at hcs hx
        obtain ⟨p, hp1, rfl⟩ := Option.map_eq_some_iff.1 hcs
        rw [hp1] at hx
        obtain rfl : p.2 = x := by simpa using hx
        exact hR p (hp.mem_iff.1 (List.mem_of_getElem? hp1))
def RiseB (l : List GObject) : Prop := l.Pairwise fun x y => ¬ ahead y x
theorem objSort_any (v : Value) (l : List GObject) (B : Nat) (E : Dom) (w0 w : World) (h : OwnAt (ObjX E w0) 10 w B 30 v l) (hB : B ≤ w.heap.size) (hl : l.length ≤ 1073741824) :
    Calls Tryz.prog 63 #[v, .func (.func 64) #[] #[]] w fun e w' => e = .returned (.tuple #[]) ∧ ∃ l', l'.Perm l ∧ RiseB l' ∧ OwnAt (ObjX E w0) 10 w' B 30 v l' ∧ RowKit.Below B w w' ∧ Only (fun b => v.ownBlock = some b) w w' := by
  rcases h.form with ⟨rfl, rfl⟩ | ⟨g, c, rfl, _, hg, _, _⟩
  · refine (AnyF.slices_SortFunc_none Tryz.objSort none 0 _ w).mono fun e w' ⟨h1, h2⟩ => ?_
    subst h2
    exact ⟨h1, [], List.Perm.refl _, List.Pairwise.nil, OwnAt.nil _, Below.refl _ _, Only.refl _ _⟩
  · obtain ⟨_, _, d, hd1, hH, ho⟩ := ow_sorted h
    have eg : ∀ args w, (callFunc 64 args).run Tryz.prog w = .ok (.enter 64 args) w := enters_of Tryz.func64 (by kernel_rfl) rfl
    have hs := AnyQ.slices_SortFunc Tryz.objSort 10 Tryz.isAgg30 Tryz.sizeOf30 encOw encOw_len encOw_one cfOw swoOw 64 #[] g 0 c d.toArray w eg (ownedLays g 0 _ w) hH hg (by simp [hd1]; omega)
    have hsz : d.toArray.size = l.length := by simp [hd1]
    rw [hsz] at hs
    refine hs.mono fun e w' ⟨h1, d', n, os, hp, hso, h2⟩ => ?_
    have hpp : d'.toList.Perm d := by
      obtain ⟨p1, _, p3⟩ := hp
      have e1 : d'.size = l.length := by rw [p1, hsz]
      have e2 : d'.extract 0 l.length = d' := by rw [← e1]; exact Array.extract_size
      have e3 : d.toArray.extract 0 l.length = d.toArray := by rw [← hsz]; exact Array.extract_size
      rw [e2, e3] at p3
      exact p3
    obtain ⟨o0, o1, o2, o3, o4⟩ := ho n d'.toList hpp
    rw [Array.toArray_toList] at o1 o2 o3 o4
    have hgr : RowKit.Below (putRowK encOw 10 (Go.Sort.ahead w n) g 0 d').heap.size (putRowK encOw 10 (Go.Sort.ahead w n) g 0 d') w' := by
      rw [h2]
      exact Lib.below_grow _ _ (Nat.le_refl _) 0 os
    have hrise : RiseB (d'.toList.map (·.2)) := by
      unfold RiseB
      rw [List.pairwise_map]
      exact (sorted_pairs (fun p q : OC => cfOb p.2 q.2) (fun p q => ltOw p q) (by rw [hp.1, hsz]) hso).imp fun h h9 => h ((cfOb_lt _ _).2 h9)
    refine ⟨h1, _, o0, hrise, o1.stay (fun _ _ _ _ h => h) fun b hb => hgr.block b (o1.at hb).2.1, o2.trans (hgr.mono (by rw [o4]; exact hB)), ?_⟩
    have x1 : Only (fun b => (Value.slice (some ⟨g, 0, none⟩) l.length c).ownBlock = some b) w (putRowK encOw 10 (Go.Sort.ahead w n) g 0 d') := ⟨o2.os, o2.tape, o2.output, by rw [o4]; exact Nat.le_refl _, fun k _ hk => o3 k fun e => hk (by rw [e]; rfl)⟩
    exact x1.then hgr
end Sto
end Go.Proofs.YtnnceaapodgfbaaGreatDoor
namespace Go.Proofs.YtnnceaapodgfbaaGreatDoor
namespace Sto
open Go.RowKit
structure Gathered (L : List GEvent) (kind space : ByteArray) (left : GKey → Bool) (l : List GObject) : Prop where
  mem : ∀ o, o ∈ l ↔ fitsK kind space o.okey ∧ cur L o.okey = some o ∧ left o.okey = false
  one : (l.map (·.okey)).Nodup
section
variable {L : List GEvent} {kind space : ByteArray} {left : GKey → Bool} {l : List GObject}
theorem Gathered.start (h : ∀ k o, cur L k = some o → left k = true) : Gathered L kind space left [] :=
  ⟨fun o => ⟨fun h9 => (by cases h9), fun ⟨_, h2, h3⟩ => by rw [h _ _ h2] at h3; cases h3⟩, List.nodup_nil⟩
theorem Gathered.pass (h : Gathered L kind space left l) {k : GKey} (hk : ¬ fitsK kind space k ∨ cur L k = none) : Gathered L kind space (fun z => left z && !decide (z = k)) l := by
  refine ⟨fun o => (h.mem o).trans ⟨fun ⟨h1, h2, h3⟩ => ⟨h1, h2, by show (left o.okey && _) = false; rw [h3]; rfl⟩, fun ⟨h1, h2, h3⟩ => ⟨h1, h2, ?_⟩⟩, h.one⟩
  have h4 : (left o.okey && !decide (o.okey = k)) = false := h3
  by_cases e : o.okey = k
  · rcases hk with hk | hk
    · rw [e] at h1; exact absurd h1 hk
    · rw [e, hk] at h2; cases h2
  · rw [decide_eq_false e] at h4; simpa using h4
theorem Gathered.more (h : Gathered L kind space left l) {k : GKey} {o : GObject} (hf : fitsK kind space k) (hc : cur L k = some o) (hl : left k = true) : Gathered L kind space (fun z => left z && !decide (z = k)) (l ++ [o]) := by
  have hk : o.okey = k := cur_key hc
  have hno : ∀ x ∈ l, x.okey ≠ k := fun x hx e => by
    have h1 := ((h.mem x).1 hx).2.2
    rw [e, hl] at h1; cases h1
  refine ⟨fun x => ?_, ?_⟩
  · rw [List.mem_append, List.mem_singleton]
    constructor
    · rintro (hx | rfl)
      · obtain ⟨h1, h2, h3⟩ := (h.mem x).1 hx
        exact ⟨h1, h2, by show (left x.okey && _) = false; rw [h3]; rfl⟩
      · exact ⟨hk ▸ hf, by rw [hk]; exact hc, by show (left x.okey && !decide (x.okey = k)) = false; rw [decide_eq_true hk]; simp⟩
    · rintro ⟨h1, h2, h3⟩
      have h4 : (left x.okey && !decide (x.okey = k)) = false := h3
      by_cases e : x.okey = k
      · right
        rw [e, hc] at h2
        exact (Option.some.inj h2).symm
      · left
        rw [decide_eq_false e] at h4
        exact (h.mem x).2 ⟨h1, h2, by simpa using h4⟩
  · rw [List.map_append, List.nodup_append]
    refine ⟨h.one, List.nodup_cons.2 ⟨fun h => (by cases h), List.nodup_nil⟩, fun a ha b hb => ?_⟩
    obtain ⟨x, hx, rfl⟩ := List.mem_map.1 ha
    obtain rfl := List.mem_singleton.1 hb
    show x.okey ≠ o.okey
    rw [hk]
    exact hno x hx
theorem lessS_total {a b : ByteArray} (h1 : ¬ lessS a b) (h2 : ¬ lessS b a) : a = b := by
  unfold lessS at h1 h2
  have s1 := cb_swap a.data.toList b.data.toList
  have h9 := cb_eq _ _ (by omega : Lib.compareBytes a.data.toList b.data.toList = 0)
  rw [← mkB_of a, ← mkB_of b, h9]
theorem ahead_of {a b : GObject} (hk : a.okey.kind = b.okey.kind) (hne : a.okey ≠ b.okey) (h : ¬ ahead b a) : ahead a b := by
  unfold ahead at h ⊢
  by_cases h1 : lessS a.okey.space b.okey.space
  · exact .inl h1
  · have h2 : a.okey.space = b.okey.space := lessS_total h1 fun h9 => h (.inl h9)
    refine .inr ⟨h2, Classical.byContradiction fun h3 => hne ?_⟩
    have h4 : a.okey.name = b.okey.name := lessS_total h3 fun h9 => h (.inr ⟨h2.symm, h9⟩)
    have e : ∀ x y : GKey, x.kind = y.kind → x.space = y.space → x.name = y.name → x = y := fun x y p q r => by
      obtain ⟨a1, a2, a3⟩ := x
      obtain ⟨b1, b2, b3⟩ := y
      cases p; cases q; cases r; rfl
    exact e _ _ hk h2 h4
theorem Gathered.done (h : Gathered L kind space (fun _ => false) l) {l' : List GObject} (hp : l'.Perm l) (hr : l'.Pairwise fun x y => ¬ ahead y x) : IsList L kind space l' := by
  have hm : ∀ o, o ∈ l' ↔ fitsK kind space o.okey ∧ cur L o.okey = some o := fun o => (hp.mem_iff).trans ((h.mem o).trans ⟨fun ⟨a, b, _⟩ => ⟨a, b⟩, fun ⟨a, b⟩ => ⟨a, b, rfl⟩⟩)
  have hn : (l'.map (·.okey)).Nodup := ((hp.map (·.okey)).nodup_iff).2 h.one
  refine ⟨?_, hm⟩
  have hn2 : l'.Pairwise fun x y => x.okey ≠ y.okey := List.pairwise_map.1 hn
  refine List.Pairwise.imp_of_mem (fun {a b} ha hb h9 => ?_) (hr.and hn2)
  exact ahead_of (((hm a).1 ha).1.1.trans ((hm b).1 hb).1.1.symm) h9.2 h9.1
end
end Sto
end Go.Proofs.YtnnceaapodgfbaaGreatDoor
