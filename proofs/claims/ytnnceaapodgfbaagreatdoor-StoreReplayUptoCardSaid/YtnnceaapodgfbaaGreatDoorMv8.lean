/- Texts of ours joined. -/
import Derived.Lib.Hide
import Derived.IntWalk
import Derived.Deep.LoopGhost
import Derived.Shelf.SlLaysF0
import Derived.Test.YtnnceaapodgfbaaGreatDoorProg
import Derived.Test.YtnnceaapodgfbaaGreatDoorMv7
set_option linter.unusedVariables false
set_option linter.unusedSimpArgs false
namespace Go.Proofs.YtnnceaapodgfbaaGreatDoor
namespace Sto
open Go.RowKit
structure Home (w0 : World) (D : Dom) (w : World) : Prop where
  tab : TabOK w0
  max : ∃ m, MaxOK m w0
  bel : Below w0.heap.size w0 w
  own : ∀ b, D b → w0.heap.size ≤ b
theorem Home.only {w0 w w' : World} {D D' : Dom} (h : Home w0 D w) (hO : Only D w w') (hD : ∀ b, D' b → D b ∨ w.heap.size ≤ b) : Home w0 D' w' :=
  ⟨h.tab, h.max, h.bel.trans (hO.below h.own h.bel.size), fun b hb => (hD b hb).elim (h.own b) fun h9 => by have := h.bel.size; omega⟩
theorem Home.below {w0 w w' : World} {D : Dom} (h : Home w0 D w) (hb : Below w.heap.size w w') : Home w0 D w' := h.only (Only.of hb) fun _ h => .inl h
theorem Home.tabs {w0 w : World} {D : Dom} (h : Home w0 D w) : TabOK w := h.tab.below h.bel
theorem Home.maxs {w0 w : World} {D : Dom} (h : Home w0 D w) : ∃ m, MaxOK m w := let ⟨m, hm⟩ := h.max; ⟨m, hm.below h.bel⟩
def Did (D : Dom) (w : World) (g : Nat) (T : Told) (e : Ending) (w' : World) : Prop :=
  ∃ D' E u1 u2 u3, e = .returned (.tuple #[objW T.2.1 u1 u2 u3, .int .i64 T.2.2]) ∧ StoreAt D' w' g T.1 ∧ ObjIn E w' u1 u2 u3 T.2.1 ∧ (∀ b, E b → w.heap.size ≤ b ∧ b < w'.heap.size ∧ ¬ D' b) ∧ (∀ b, D' b → D b ∨ w.heap.size ≤ b) ∧ Only D w w'
theorem objIn_no (w : World) : ObjIn (fun _ => False) w nilS nilS nilS noObj := ⟨OwnX.nil, OwnX.nil, OwnX.nil⟩
theorem did_no {D : Dom} {w w' : World} {g : Nat} {S : St} {er : Int} (h : StoreAt D w g S) (hb : Below w.heap.size w w') {T : Told} (hT : T = (S, noObj, er)) : Did D w g T (.returned (.tuple #[.agg noA, .int .i64 er])) w' := by
  subst hT
  exact ⟨D, fun _ => False, nilS, nilS, nilS, rfl, h.belowW hb, objIn_no _, fun b hb => hb.elim, fun b hb => .inl hb, Only.of hb⟩
theorem put_did {D M I J : Dom} {w w7 w8 w9 : World} {g mb nn gr : Nat} {f : GKey → Option Value} {vlog : Value} {S : St} {kind : Int} {o : GObject} (h : StoreIn M I w g mb nn f vlog S) (hD : ∀ b, D b ↔ M b ∨ I b) (hb7 : Below w.heap.size w w7) (hgr : w.heap.size ≤ gr ∧ gr < w7.heap.size) (hJ : ∀ b, J b → I b ∨ (w.heap.size ≤ b ∧ b ≠ gr ∧ b < w7.heap.size))
    {E : Dom} {u1 u2 u3 : Value} {M' : Dom} {n' : Nat} {f' : GKey → Option Value} {vlog' : Value} (p1 : ObjIn E w8 u1 u2 u3 (putO (S.rev + 1) kind o)) (p2 : ∀ b, E b → w7.heap.size ≤ b ∧ b < w8.heap.size) (p3 : StoreIn M' (fun b => I b ∨ J b) w8 g mb n' f' vlog' (put S kind o)) (p4 : ∀ b, M' b → M b ∨ (w7.heap.size ≤ b ∧ ¬ E b)) (p5 : Only M w7 w8) (t9 : Touch gr w8 w9) :
    Did D w g (doPut S kind o) (.returned (.tuple #[objW (putO (S.rev + 1) kind o) u1 u2 u3, .int .i64 0])) w9 := by
  have s7 := hb7.size
  have s8 := p5.size
  have s9 := t9.size
  have hlow := h.low
  refine ⟨fun b => M' b ∨ I b ∨ J b, E, u1, u2, u3, rfl, ⟨M', fun b => I b ∨ J b, mb, n', f', vlog', p3.agree (fun b hb => t9.other b fun e => ?_) (by omega), fun b => Iff.rfl⟩, p1.agree fun b hb => t9.other b fun e => by have := (p2 b hb).1; omega, fun b hb => ⟨by have := (p2 b hb).1; omega, by have := (p2 b hb).2; omega, fun h9 => ?_⟩, fun b hb => ?_, ?_⟩
  · subst e
    rcases hb with hb | hb | hb
    · rcases p4 b hb with h1 | h1
      · have := hlow b (.inl h1); omega
      · omega
    · have := hlow b (.inr hb); omega
    · rcases hJ b hb with h1 | h1
      · have := hlow b (.inr h1); omega
      · exact h1.2.1 rfl
  · have he := p2 b hb
    rcases h9 with h9 | h9 | h9
    · rcases p4 b h9 with h1 | h1
      · have := hlow b (.inl h1); omega
      · exact h1.2 hb
    · have := hlow b (.inr h9); omega
    · rcases hJ b h9 with h1 | h1
      · have := hlow b (.inr h1); omega
      · omega
  · rcases hb with hb | hb | hb
    · rcases p4 b hb with h1 | h1
      · exact .inl ((hD b).2 (.inl h1))
      · exact .inr (by omega)
    · exact .inl ((hD b).2 (.inr hb))
    · rcases hJ b hb with h1 | h1
      · exact .inl ((hD b).2 (.inr h1))
      · exact .inr h1.1
  · have x1 : Only D w w8 := Only.after hb7 (p5.mono fun b hb => (hD b).2 (.inl hb))
    exact x1.trans (Only.touch (D := fun b => b = gr) t9 rfl) fun b hb hl => by omega
theorem results_two_obj {fn : Func} {p q : Tmp} (h : fn.results = #[.cell p 30, .tmp q]) (tmps : Array Value) (w : World) (g : Nat) (cs : Array Value) (hp : tmps.getD p undef = .pointer (some ⟨g, 0, none⟩)) (hg : w.heap[g]? = some (.cells cs 30 (0, 0))) (hs : cs.size = 10) :
    (results fn tmps).run Tryz.prog w = .ok (.tuple #[.agg cs, tmps.getD q undef]) w :=
  results_two_box h tmps w g _ cs (0, 0) _ hp hg Tryz.underlying30 rfl (by rw [hs]; exact Tryz.sizeObj)
theorem okObj_kept {o : GObject} (h : OkObj o) : OkObj (keptO o) :=
  ⟨h.kind, h.space, h.name, h.labels, h.owners, h.holds, by show (0 : Nat) ≤ _; omega, h.rev, by
    show (mkB _).size ≤ _
    rw [mkB_size]
    have := JP.canonT_le o.doc.data.toList
    omega⟩
theorem okKey_of {o : GObject} (h : OkObj o) : okKey o.okey := ⟨by have := h.kind; unfold maxLen; omega, by have := h.space; unfold maxLen; omega, by have := h.name; unfold maxLen; omega⟩
theorem cur_mem {l : List GEvent} {k : GKey} {o : GObject} (h : cur l k = some o) : ∃ e ∈ l, e.object = o := by
  unfold cur at h
  cases hg : (hits l k).getLast? with
  | none => rw [hg] at h; cases h
  | some e =>
    rw [hg] at h
    dsimp only at h
    split at h
    · cases h
    · cases h
      have := List.mem_of_getLast? hg
      unfold hits at this
      exact ⟨e, (List.mem_filter.1 this).1, rfl⟩
theorem live_low {S : St} (h : Good S) : -4194304 ≤ live S.log ∧ live S.log ≤ 4194304 := by
  have h1 := h.full
  have h2 := live_keys h.fitAll [] List.nodup_nil (fun _ h => by cases h)
  have h3 : (([] : List GKey).length : Int) = 0 := rfl
  omega
set_option maxRecDepth 100000 in
set_option maxHeartbeats 6400000 in
theorem create_any {D : Dom} {w0 w : World} {g : Nat} {S : St} (h : StoreAt D w g S) (hH : Home w0 D w) (hS : OkSt S) (hrv : S.rev ≤ 4194303) (o : GObject) (v1 v2 v3 : Value) (hl : RowAt LabelR 2 w v1 o.labels) (ho : StrAt w v2 o.owners) (hh : StrAt w v3 o.holds) (hok : OkObj o) :
    Calls Tryz.prog 60 #[.pointer (some ⟨g, 0, none⟩), objW o v1 v2 v3] w (Did D w g (create S o)) := by
  obtain ⟨M, I, mb, nn, f, vlog, hin, hD⟩ := h
  obtain ⟨a1, c1, rfl, -, -⟩ := hl.len
  obtain ⟨a2, c2, rfl, -, -⟩ := ho.row.len
  obtain ⟨a3, c3, rfl, -, -⟩ := hh.row.len
  obtain ⟨n1, Hn1⟩ : ∃ n, Hid (o.labels.length = n) := ⟨_, Lib.hid rfl⟩
  obtain ⟨n2, Hn2⟩ : ∃ n, Hid (o.owners.length = n) := ⟨_, Lib.hid rfl⟩
  obtain ⟨n3, Hn3⟩ : ∃ n, Hid (o.holds.length = n) := ⟨_, Lib.hid rfl⟩
  rw [Hn1.out] at hl
  rw [Hn2.out] at ho
  rw [Hn3.out] at hh
  rw [Hn1.out, Hn2.out, Hn3.out]
  obtain ⟨er, Her⟩ : ∃ x, Hid (objE o = x) := ⟨_, Lib.hid rfl⟩
  obtain ⟨T, HT⟩ : ∃ T, Hid (create S o = T) := ⟨_, Lib.hid rfl⟩
  rw [HT.out]
  have HIn := Lib.hid hin
  have HD := Lib.hid hD
  have HH := Lib.hid hH
  have HS := Lib.hid hS
  have Hok := Lib.hid hok
  obtain ⟨w1, hw1⟩ : ∃ w1, w1 = (w.alloc (.cells #[.string o.okey.kind, .string o.okey.space, .string o.okey.name, .slice a1 n1 c1, .slice a2 n2 c2, .slice a3 n3 c3, .bool o.ending, .string o.uid, .int .i64 o.rev, .string o.doc] 30)).alloc (.cells noA 30) := ⟨_, rfl⟩
  obtain ⟨gb, hgb⟩ : ∃ gb, gb = w.heap.size := ⟨_, rfl⟩
  obtain ⟨gr, hgr⟩ : ∃ gr, gr = w.heap.size + 1 := ⟨_, rfl⟩
  have B1 : Hid (w1.heap[gb]? = some (.cells #[.string o.okey.kind, .string o.okey.space, .string o.okey.name, .slice a1 n1 c1, .slice a2 n2 c2, .slice a3 n3 c3, .bool o.ending, .string o.uid, .int .i64 o.rev, .string o.doc] 30 (0, 0))) := Lib.hid (by rw [hw1, hgb]; exact heap_alloc_old (heap_alloc_new w _))
  have R1 : Hid (w1.heap[gr]? = some (.cells noA 30 (0, 0))) := Lib.hid (by rw [hw1, hgr]; exact heap_alloc_at (World.size_alloc _ _).symm)
  have hb1 : Below w.heap.size w w1 := by rw [hw1]; exact ((Below.refl _ w).alloc (Nat.le_refl _) _).alloc (by rw [World.size_alloc]; omega) _
  have hs1 : w1.heap.size = w.heap.size + 2 := by rw [hw1, World.size_alloc, World.size_alloc]
  have Hb1 := Lib.hid hb1
  have hne : gb ≠ gr := by omega
  have hwb : w.heap.size ≤ gb := by omega
  have hwr : w.heap.size ≤ gr := by omega
  have hrl : gr < w.heap.size + 2 := by omega
  have hbl : gb < w.heap.size + 2 := by omega
  have HC := Lib.hid (checkObj_any o (.slice a1 n1 c1) (.slice a2 n2 c2) (.slice a3 n3 c3) w1 (hl.below stays_label hb1) (ho.below hb1) (hh.below hb1) hok (hH.below hb1).tabs (hH.below hb1).maxs)
  rw [Her.out, show objW o (.slice a1 n1 c1) (.slice a2 n2 c2) (.slice a3 n3 c3) = .agg #[.string o.okey.kind, .string o.okey.space, .string o.okey.name, .slice a1 n1 c1, .slice a2 n2 c2, .slice a3 n3 c3, .bool o.ending, .string o.uid, .int .i64 o.rev, .string o.doc] from rfl] at HC
  have HL := Lib.hid hl
  have HO := Lib.hid ho
  have HHh := Lib.hid hh
  have hgl := hin.low g (.inl hin.gM)
  clear hl ho hh hok hb1 hin hD hH hS
  rw [show objW o (.slice a1 n1 c1) (.slice a2 n2 c2) (.slice a3 n3 c3) = .agg #[.string o.okey.kind, .string o.okey.space, .string o.okey.name, .slice a1 n1 c1, .slice a2 n2 c2, .slice a3 n3 c3, .bool o.ending, .string o.uid, .int .i64 o.rev, .string o.doc] from rfl]
  go_enter Tryz.func60, Tryz.ntmps60
  go_upto_region 1 with fail
  have hex : ((w.alloc (.cells #[.string o.okey.kind, .string o.okey.space, .string o.okey.name, .slice a1 n1 c1, .slice a2 n2 c2, .slice a3 n3 c3, .bool o.ending, .string o.uid, .int .i64 o.rev, .string o.doc] 30)).alloc (.cells #[.string { data := #[] }, .string { data := #[] }, .string { data := #[] }, .slice none 0 0, .slice none 0 0, .slice none 0 0, .bool false, .string { data := #[] }, .int .i64 0, .string { data := #[] }] 30)) = w1 := hw1.symm
  rw [hex]
  try rw [← hgr]
  rw [← hgb]
  clear hw1 hex hgb hgr
  have cc := fun i => cell_block B1.out i
  go_wp2_with fail
  refine HC.out.mono ?_
  rintro E w2 ⟨rfl, hb2⟩
  have B2 := Lib.hid (below_block hb2 B1.out)
  have R2 := Lib.hid (below_block hb2 R1.out)
  have Hb2 := Lib.hid (Hb1.out.trans (hb2.mono (by omega)))
  have hs2 := hb2.size
  clear hb2 HC cc B1 R1
  by_cases her : er = 0
  · subst her
    have cc := fun i => cell_block B2.out i
    have HLa := Lib.hid (last_any (HIn.out.belowW Hb2.out) o.okey (okKey_of Hok.out) HS.out.rev)
    go_wp2_with fail
    refine HLa.out.mono ?_
    rintro E w3 ⟨hb3, hlast⟩
    have B3 := Lib.hid (below_block hb3 B2.out)
    have R3 := Lib.hid (below_block hb3 R2.out)
    have Hb3 := Lib.hid (Hb2.out.trans (hb3.mono (by omega)))
    have hs3 := hb3.size
    clear hb3 cc B2 R2 HLa
    rcases hlast with ⟨hc, rfl⟩ | ⟨was, v1', v2', v3', hc, rfl, hwo⟩
    · have Hc := Lib.hid hc
      have hT0 := HT.out
      unfold create at hT0
      rw [Her.out, if_neg (fun h => h rfl), Hc.out, if_neg (by decide)] at hT0
      have HT0 := Lib.hid hT0.symm
      rw [show noW = .agg noA from rfl]
      clear hc HT hT0
      obtain ⟨g7, hg7⟩ : ∃ g7, g7 = w3.heap.size := ⟨_, rfl⟩
      have H7 := Lib.hid (heap_alloc_new w3 (.cells noA 30))
      have Hb4 := Lib.hid (Hb3.out.alloc (by omega) (.cells noA 30))
      have B4 := Lib.hid (below_block ((Below.refl _ w3).alloc (Nat.le_refl _) (.cells noA 30)) B3.out)
      have R4 := Lib.hid (below_block ((Below.refl _ w3).alloc (Nat.le_refl _) (.cells noA 30)) R3.out)
      have hs4 : (w3.alloc (.cells noA 30)).heap.size = w3.heap.size + 1 := World.size_alloc _ _
      have hg3 := hg7
      clear hg3
      go_wp2_with (refine wpList_store_box (by rfl) _ _ _ (by rfl) w3.heap.size noA (by rfl) (by rfl) _ _ (by exact H7.out) (by exact Tryz.sizeObj) (by rfl) (by simp [Value.oneCell', noA]) ?_)
      intro w5 b5 t5
      have Z5 := Lib.hid b5
      have B5 := Lib.hid (t5.block B4.out (by omega))
      have R5 := Lib.hid (t5.block R4.out (by omega))
      have Hb5 := Lib.hid (t5.below Hb4.out (by omega))
      have hs5 : w5.heap.size = w3.heap.size + 1 := t5.size.trans hs4
      clear b5 t5 hs4 H7 B4 R4 Hb4 hg7
      have hbx := (HIn.out.belowW Hb5.out).box
      have cg := fun i => cell_block hbx i
      obtain ⟨lv, Hlv⟩ : ∃ lv, Hid (live S.log = lv) := ⟨_, Lib.hid rfl⟩
      rw [Hlv.out] at cg HT0
      clear hbx Z5
      by_cases h60 : lv = 60
      · subst h60
        have HT1 : Hid (T = (S, noObj, 22)) := Lib.hid (by rw [HT0.out, if_pos rfl])
        clear HT0
        go_wp2_with (refine wpList_store_box (by rfl) _ _ _ (by rfl) gr noA (by rfl) (by rfl) _ _ (by exact R5.out) (by exact Tryz.sizeObj) (by rfl) (by simp [Value.oneCell', noA]) ?_)
        intro WF bF tF
        have BF := Lib.hid bF
        have HF := Lib.hid (tF.below Hb5.out hwr)
        clear bF tF
        go_wp2_with fail
        refine bodyPost_ret (v := .tuple #[.agg noA, .int .i64 22]) ?_ rfl ?_
        · exact results_two_obj Tryz.results60 _ _ gr _ (by rfl) BF.out rfl
        · exact did_no ⟨M, I, mb, nn, f, vlog, HIn.out, HD.out⟩ HF.out (HT1.out)
      · have q60 : (lv == 60) = false := by rw [beq_eq_false_iff_ne]; exact h60
        have HTE : Hid (T = doPut S 1 { keptO o with ending := false }) := Lib.hid (by rw [HT0.out, if_neg h60])
        clear h60 HT0
        have cc := fun i => cell_block B5.out i
        have HK := Lib.hid (kept_any o (.slice a1 n1 c1) (.slice a2 n2 c2) (.slice a3 n3 c3) w5 (by rw [← Hn1.out]; rw [Hn1.out]; exact HL.out.below stays_label Hb5.out) (HO.out.below Hb5.out) (HHh.out.below Hb5.out) Hok.out (HH.out.below Hb5.out).tabs)
        rw [show objW o (.slice a1 n1 c1) (.slice a2 n2 c2) (.slice a3 n3 c3) = .agg #[.string o.okey.kind, .string o.okey.space, .string o.okey.name, .slice a1 n1 c1, .slice a2 n2 c2, .slice a3 n3 c3, .bool o.ending, .string o.uid, .int .i64 o.rev, .string o.doc] from rfl] at HK
        go_wp2_with fail
        refine HK.out.mono ?_
        rintro E w6 ⟨EK, x1, x2, x3, rfl, ko, kE, hb6⟩
        obtain ⟨d1, e1, rfl, -, -⟩ := ko.labels.own.row.len
        obtain ⟨d2, e2, rfl, -, -⟩ := ko.owners.own.row.len
        obtain ⟨d3, e3, rfl, -, -⟩ := ko.holds.own.row.len
        obtain ⟨m1, Hm1⟩ : ∃ n, Hid ((keptO o).labels.length = n) := ⟨_, Lib.hid rfl⟩
        obtain ⟨m2, Hm2⟩ : ∃ n, Hid ((keptO o).owners.length = n) := ⟨_, Lib.hid rfl⟩
        obtain ⟨m3, Hm3⟩ : ∃ n, Hid ((keptO o).holds.length = n) := ⟨_, Lib.hid rfl⟩
        rw [Hm1.out, Hm2.out, Hm3.out] at ko ⊢
        have KO := Lib.hid ko
        have KE := Lib.hid kE
        have B6 := Lib.hid (below_block hb6 B5.out)
        have R6 := Lib.hid (below_block hb6 R5.out)
        have Hb6 := Lib.hid (Hb5.out.trans (hb6.mono (by omega)))
        have hs6 := hb6.size
        clear ko kE hb6 cc HK B5 R5
        obtain ⟨K, HK⟩ : ∃ K, Hid (keptO o = K) := ⟨_, Lib.hid rfl⟩
        rw [HK.out] at KO ⊢
        rw [show objW K (.slice d1 m1 e1) (.slice d2 m2 e2) (.slice d3 m3 e3) = .agg #[.string K.okey.kind, .string K.okey.space, .string K.okey.name, .slice d1 m1 e1, .slice d2 m2 e2, .slice d3 m3 e3, .bool K.ending, .string K.uid, .int .i64 K.rev, .string K.doc] from rfl]
        go_wp2_with (refine wpList_store_box (by rfl) _ _ _ (by rfl) gb #[.string K.okey.kind, .string K.okey.space, .string K.okey.name, .slice d1 m1 e1, .slice d2 m2 e2, .slice d3 m3 e3, .bool K.ending, .string K.uid, .int .i64 K.rev, .string K.doc] (by rfl) (by rfl) _ _ (by exact B6.out) (by exact Tryz.sizeObj) (by rfl) (by simp [Value.oneCell']) ?_)
        intro w7 b7 t7
        have B7 := Lib.hid b7
        have R7 := Lib.hid (t7.block R6.out (Ne.symm hne))
        have Hb7 := Lib.hid (t7.below Hb6.out hwb)
        have hs7 := t7.size
        have KO7 := Lib.hid (KO.out.agree fun b hb => t7.other b fun e => by have := (KE.out b hb).1; omega)
        clear b7 t7 B6 R6 KO
        have fb := fun i => free_block B7.out i
        have cb := fun i => cell_block B7.out i
        obtain ⟨w8, hw8⟩ : ∃ w8, w7.setCell ⟨gb, 6, none⟩ (.bool false) = w8 := ⟨_, rfl⟩
        have t1 := touch_setCell (i := 6) (v := .bool false) B7.out
        rw [hw8] at t1
        have B8 : Hid (w8.heap[gb]? = some (.cells #[.string K.okey.kind, .string K.okey.space, .string K.okey.name, .slice d1 m1 e1, .slice d2 m2 e2, .slice d3 m3 e3, .bool false, .string K.uid, .int .i64 K.rev, .string K.doc] 30 (0, 0))) := Lib.hid t1.1
        have R8 := Lib.hid (t1.2.block R7.out (Ne.symm hne))
        have Hb8 := Lib.hid (t1.2.below Hb7.out hwb)
        have hs8 := t1.2.size
        have KO8 := Lib.hid (KO7.out.agree fun b hb => t1.2.other b fun e => by have := (KE.out b hb).1; omega)
        go_upto_region 11 with fail
        try rw [hw8]
        clear t1 hw8 fb cb B7 R7 Hb7 KO7
        obtain ⟨O, HOe⟩ : ∃ O : GObject, Hid (O = { K with ending := false }) := ⟨_, Lib.hid rfl⟩
        have KO9 : Hid (ObjIn EK w8 (.slice d1 m1 e1) (.slice d2 m2 e2) (.slice d3 m3 e3) O) := Lib.hid (by rw [HOe.out]; exact KO8.out.other rfl rfl rfl)
        have hJ : ∀ b, EK b → b < w8.heap.size ∧ ¬ M b := fun b hb => ⟨by have := (KE.out b hb).2; omega, fun hm => by have := HIn.out.low b (.inl hm); have := (KE.out b hb).1; omega⟩
        have hokO : OkObj O := by
          have h9 := okObj_kept Hok.out
          rw [HK.out] at h9
          rw [HOe.out]
          exact ⟨h9.kind, h9.space, h9.name, h9.labels, h9.owners, h9.holds, h9.uid, h9.rev, h9.doc⟩
        have HP := Lib.hid (put_any (HIn.out.belowW Hb8.out) hrv (live_low HS.out.good) (fun w' hO => HH.out.tab.below ((HH.out.below Hb8.out).bel.trans (hO.below (fun b hb => HH.out.own b ((HD.out b).2 (.inl hb))) (by have := HH.out.bel.size; have := Hb8.out.size; omega)))) 1 (.inl rfl) O (.slice d1 m1 e1) (.slice d2 m2 e2) (.slice d3 m3 e3) KO9.out hJ hokO)
        rw [show objW O (.slice d1 m1 e1) (.slice d2 m2 e2) (.slice d3 m3 e3) = .agg #[.string O.okey.kind, .string O.okey.space, .string O.okey.name, .slice d1 m1 e1, .slice d2 m2 e2, .slice d3 m3 e3, .bool O.ending, .string O.uid, .int .i64 O.rev, .string O.doc] from rfl] at HP
        have BO : Hid (w8.heap[gb]? = some (.cells #[.string O.okey.kind, .string O.okey.space, .string O.okey.name, .slice d1 m1 e1, .slice d2 m2 e2, .slice d3 m3 e3, .bool O.ending, .string O.uid, .int .i64 O.rev, .string O.doc] 30 (0, 0))) := Lib.hid (by rw [HOe.out]; exact B8.out)
        have cb := fun i => cell_block BO.out i
        clear hJ hokO B8
        go_wp2_with fail
        refine HP.out.mono ?_
        rintro E w9 ⟨E9, y1, y2, y3, M', n', f', vlog', rfl, p1, p2, p3, p4, p5⟩
        have R9 : Hid (w9.heap[gr]? = some (.cells noA 30 (0, 0))) := Lib.hid ((p5.block gr (by omega) fun hm => by have := HIn.out.low gr (.inl hm); omega).trans R8.out)
        have P1 := Lib.hid p1
        have P2 := Lib.hid p2
        have P3 := Lib.hid p3
        have P4 := Lib.hid p4
        have P5 := Lib.hid p5
        obtain ⟨PO, HPO⟩ : ∃ PO, Hid (putO (S.rev + 1) 1 O = PO) := ⟨_, Lib.hid rfl⟩
        rw [HPO.out] at P1 ⊢
        clear p1 p2 p3 p4 p5 cb HP R8
        go_wp2_with (refine wpList_store_box (by rfl) _ _ _ (by rfl) gr (objCs PO y1 y2 y3).toArray (by rfl) (by rfl) _ _ (by exact R9.out) (by exact Tryz.sizeObj) (by rfl) (objA_ones P1.out) ?_)
        intro w10 b10 t10
        have B10 := Lib.hid b10
        have T10 := Lib.hid t10
        clear b10 t10
        go_wp2_with fail
        refine bodyPost_ret (v := .tuple #[objW PO y1 y2 y3, .int .i64 0]) ?_ rfl ?_
        · exact results_two_obj Tryz.results60 _ _ gr _ (by rfl) B10.out rfl
        · have h9 := put_did (kind := 1) (o := O) HIn.out HD.out Hb8.out ⟨hwr, by omega⟩ (fun b hb => .inr ⟨by have := (KE.out b hb).1; omega, fun e => by have := (KE.out b hb).1; omega, by have := (KE.out b hb).2; omega⟩) (by rw [HPO.out]; exact P1.out) P2.out P3.out P4.out P5.out T10.out
          rw [HPO.out] at h9
          rw [HTE.out, HK.out, ← HOe.out]
          exact h9
    · have Hc := Lib.hid hc
      have hT0 := HT.out
      unfold create at hT0
      rw [Her.out, if_neg (fun h => h rfl), Hc.out, if_pos (show (some was).isSome = true from rfl)] at hT0
      have HT0 := Lib.hid hT0.symm
      have HW := Lib.hid hwo
      clear hc HT hT0 hwo
      obtain ⟨g7, hg7⟩ : ∃ g7, g7 = w3.heap.size := ⟨_, rfl⟩
      have H7 := Lib.hid (heap_alloc_new w3 (.cells noA 30))
      have Hb4 := Lib.hid (Hb3.out.alloc (by omega) (.cells noA 30))
      have B4 := Lib.hid (below_block ((Below.refl _ w3).alloc (Nat.le_refl _) (.cells noA 30)) B3.out)
      have R4 := Lib.hid (below_block ((Below.refl _ w3).alloc (Nat.le_refl _) (.cells noA 30)) R3.out)
      have hs4 : (w3.alloc (.cells noA 30)).heap.size = w3.heap.size + 1 := World.size_alloc _ _
      go_wp2_with (refine wpList_store_box (by rfl) _ _ _ (by rfl) w3.heap.size (objCs was v1' v2' v3').toArray (by rfl) (by rfl) _ _ (by exact H7.out) (by exact Tryz.sizeObj) (by rfl) (objA_ones HW.out) ?_)
      intro w5 b5 t5
      have Z5 := Lib.hid b5
      have B5 := Lib.hid (t5.block B4.out (by omega))
      have R5 := Lib.hid (t5.block R4.out (by omega))
      have Hb5 := Lib.hid (t5.below Hb4.out (by omega))
      have hs5 : w5.heap.size = w3.heap.size + 1 := t5.size.trans hs4
      clear b5 t5 hs4 H7 B4 R4 Hb4 hg7
      go_wp2_with (refine wpList_store_box (by rfl) _ _ _ (by rfl) gr noA (by rfl) (by rfl) _ _ (by exact R5.out) (by exact Tryz.sizeObj) (by rfl) (by simp [Value.oneCell', noA]) ?_)
      intro WF bF tF
      have BF := Lib.hid bF
      have HF := Lib.hid (tF.below Hb5.out hwr)
      clear bF tF
      go_wp2_with fail
      refine bodyPost_ret (v := .tuple #[.agg noA, .int .i64 5]) ?_ rfl ?_
      · exact results_two_obj Tryz.results60 _ _ gr _ (by rfl) BF.out rfl
      · exact did_no ⟨M, I, mb, nn, f, vlog, HIn.out, HD.out⟩ HF.out (HT0.out)
  · have q0 : (er == 0) = false := by rw [beq_eq_false_iff_ne]; exact her
    have hT0 := HT.out
    unfold create at hT0
    rw [Her.out, if_pos her] at hT0
    have HT0 := Lib.hid hT0.symm
    clear her HT hT0
    go_wp2_with (refine wpList_store_box (by rfl) _ _ _ (by rfl) gr noA (by rfl) (by rfl) _ _ (by exact R2.out) (by exact Tryz.sizeObj) (by rfl) (by simp [Value.oneCell', noA]) ?_)
    intro WF bF tF
    have BF := Lib.hid bF
    have HF := Lib.hid (tF.below Hb2.out hwr)
    clear bF tF
    go_wp2_with fail
    refine bodyPost_ret (v := .tuple #[.agg noA, .int .i64 er]) ?_ rfl ?_
    · exact results_two_obj Tryz.results60 _ _ gr _ (by rfl) BF.out rfl
    · exact did_no ⟨M, I, mb, nn, f, vlog, HIn.out, HD.out⟩ HF.out (HT0.out)
set_option maxRecDepth 100000 in
set_option maxHeartbeats 6400000 in
theorem update_any {D : Dom} {w0 w : World} {g : Nat} {S : St} (h : StoreAt D w g S) (hH : Home w0 D w) (hS : OkSt S) (hrv : S.rev ≤ 4194303) (o : GObject) (v1 v2 v3 : Value) (hl : RowAt LabelR 2 w v1 o.labels) (ho : StrAt w v2 o.owners) (hh : StrAt w v3 o.holds) (hok : OkObj o) :
    Calls Tryz.prog 17 #[.pointer (some ⟨g, 0, none⟩), objW o v1 v2 v3] w (Did D w g (update S o)) := by
  obtain ⟨M, I, mb, nn, f, vlog, hin, hD⟩ := h
  obtain ⟨a1, c1, rfl, -, -⟩ := hl.len
  obtain ⟨a2, c2, rfl, -, -⟩ := ho.row.len
  obtain ⟨a3, c3, rfl, -, -⟩ := hh.row.len
  obtain ⟨n1, Hn1⟩ : ∃ n, Hid (o.labels.length = n) := ⟨_, Lib.hid rfl⟩
  obtain ⟨n2, Hn2⟩ : ∃ n, Hid (o.owners.length = n) := ⟨_, Lib.hid rfl⟩
  obtain ⟨n3, Hn3⟩ : ∃ n, Hid (o.holds.length = n) := ⟨_, Lib.hid rfl⟩
  rw [Hn1.out] at hl
  rw [Hn2.out] at ho
  rw [Hn3.out] at hh
  rw [Hn1.out, Hn2.out, Hn3.out]
  obtain ⟨er, Her⟩ : ∃ x, Hid (objE o = x) := ⟨_, Lib.hid rfl⟩
  obtain ⟨T, HT⟩ : ∃ T, Hid (update S o = T) := ⟨_, Lib.hid rfl⟩
  rw [HT.out]
  have HIn := Lib.hid hin
  have HD := Lib.hid hD
  have HH := Lib.hid hH
  have HS := Lib.hid hS
  have Hok := Lib.hid hok
  obtain ⟨w1, hw1⟩ : ∃ w1, w1 = (w.alloc (.cells #[.string o.okey.kind, .string o.okey.space, .string o.okey.name, .slice a1 n1 c1, .slice a2 n2 c2, .slice a3 n3 c3, .bool o.ending, .string o.uid, .int .i64 o.rev, .string o.doc] 30)).alloc (.cells noA 30) := ⟨_, rfl⟩
  obtain ⟨gb, hgb⟩ : ∃ gb, gb = w.heap.size := ⟨_, rfl⟩
  obtain ⟨gr, hgr⟩ : ∃ gr, gr = w.heap.size + 1 := ⟨_, rfl⟩
  have B1 : Hid (w1.heap[gb]? = some (.cells #[.string o.okey.kind, .string o.okey.space, .string o.okey.name, .slice a1 n1 c1, .slice a2 n2 c2, .slice a3 n3 c3, .bool o.ending, .string o.uid, .int .i64 o.rev, .string o.doc] 30 (0, 0))) := Lib.hid (by rw [hw1, hgb]; exact heap_alloc_old (heap_alloc_new w _))
  have R1 : Hid (w1.heap[gr]? = some (.cells noA 30 (0, 0))) := Lib.hid (by rw [hw1, hgr]; exact heap_alloc_at (World.size_alloc _ _).symm)
  have hb1 : Below w.heap.size w w1 := by rw [hw1]; exact ((Below.refl _ w).alloc (Nat.le_refl _) _).alloc (by rw [World.size_alloc]; omega) _
  have hs1 : w1.heap.size = w.heap.size + 2 := by rw [hw1, World.size_alloc, World.size_alloc]
  have Hb1 := Lib.hid hb1
  have hne : gb ≠ gr := by omega
  have hwb : w.heap.size ≤ gb := by omega
  have hwr : w.heap.size ≤ gr := by omega
  have hrl : gr < w.heap.size + 2 := by omega
  have hbl : gb < w.heap.size + 2 := by omega
  have HC := Lib.hid (checkObj_any o (.slice a1 n1 c1) (.slice a2 n2 c2) (.slice a3 n3 c3) w1 (hl.below stays_label hb1) (ho.below hb1) (hh.below hb1) hok (hH.below hb1).tabs (hH.below hb1).maxs)
  rw [Her.out, show objW o (.slice a1 n1 c1) (.slice a2 n2 c2) (.slice a3 n3 c3) = .agg #[.string o.okey.kind, .string o.okey.space, .string o.okey.name, .slice a1 n1 c1, .slice a2 n2 c2, .slice a3 n3 c3, .bool o.ending, .string o.uid, .int .i64 o.rev, .string o.doc] from rfl] at HC
  have HL := Lib.hid hl
  have HO := Lib.hid ho
  have HHh := Lib.hid hh
  have hgl := hin.low g (.inl hin.gM)
  clear hl ho hh hok hb1 hin hD hH hS
  rw [show objW o (.slice a1 n1 c1) (.slice a2 n2 c2) (.slice a3 n3 c3) = .agg #[.string o.okey.kind, .string o.okey.space, .string o.okey.name, .slice a1 n1 c1, .slice a2 n2 c2, .slice a3 n3 c3, .bool o.ending, .string o.uid, .int .i64 o.rev, .string o.doc] from rfl]
  go_enter Tryz.func17, Tryz.ntmps17
  go_upto_region 1 with fail
  have hex : ((w.alloc (.cells #[.string o.okey.kind, .string o.okey.space, .string o.okey.name, .slice a1 n1 c1, .slice a2 n2 c2, .slice a3 n3 c3, .bool o.ending, .string o.uid, .int .i64 o.rev, .string o.doc] 30)).alloc (.cells #[.string { data := #[] }, .string { data := #[] }, .string { data := #[] }, .slice none 0 0, .slice none 0 0, .slice none 0 0, .bool false, .string { data := #[] }, .int .i64 0, .string { data := #[] }] 30)) = w1 := hw1.symm
  rw [hex]
  try rw [← hgr]
  rw [← hgb]
  clear hw1 hex hgb hgr
  have cc := fun i => cell_block B1.out i
  go_wp2_with fail
  refine HC.out.mono ?_
  rintro E w2 ⟨rfl, hb2⟩
  have B2 := Lib.hid (below_block hb2 B1.out)
  have R2 := Lib.hid (below_block hb2 R1.out)
  have Hb2 := Lib.hid (Hb1.out.trans (hb2.mono (by omega)))
  have hs2 := hb2.size
  clear hb2 HC cc B1 R1
  by_cases her : er = 0
  · subst her
    have cc := fun i => cell_block B2.out i
    have HLa := Lib.hid (last_any (HIn.out.belowW Hb2.out) o.okey (okKey_of Hok.out) HS.out.rev)
    go_wp2_with fail
    refine HLa.out.mono ?_
    rintro E w3 ⟨hb3, hlast⟩
    have B3 := Lib.hid (below_block hb3 B2.out)
    have R3 := Lib.hid (below_block hb3 R2.out)
    have Hb3 := Lib.hid (Hb2.out.trans (hb3.mono (by omega)))
    have hs3 := hb3.size
    clear hb3 cc B2 R2 HLa
    rcases hlast with ⟨hc, rfl⟩ | ⟨was, v1', v2', v3', hc, rfl, hwo⟩
    · have Hc := Lib.hid hc
      have hT0 := HT.out
      unfold update at hT0
      rw [Her.out, if_neg (fun h => h rfl), Hc.out] at hT0
      have HT0 := Lib.hid hT0.symm
      rw [show noW = .agg noA from rfl]
      clear hc HT hT0
      obtain ⟨g7, hg7⟩ : ∃ g7, g7 = w3.heap.size := ⟨_, rfl⟩
      have H7 := Lib.hid (heap_alloc_new w3 (.cells noA 30))
      have Hb4 := Lib.hid (Hb3.out.alloc (by omega) (.cells noA 30))
      have B4 := Lib.hid (below_block ((Below.refl _ w3).alloc (Nat.le_refl _) (.cells noA 30)) B3.out)
      have R4 := Lib.hid (below_block ((Below.refl _ w3).alloc (Nat.le_refl _) (.cells noA 30)) R3.out)
      have hs4 : (w3.alloc (.cells noA 30)).heap.size = w3.heap.size + 1 := World.size_alloc _ _
      go_wp2_with (refine wpList_store_box (by rfl) _ _ _ (by rfl) w3.heap.size noA (by rfl) (by rfl) _ _ (by exact H7.out) (by exact Tryz.sizeObj) (by rfl) (by simp [Value.oneCell', noA]) ?_)
      intro w5 b5 t5
      have Z5 := Lib.hid b5
      have B5 := Lib.hid (t5.block B4.out (by omega))
      have R5 := Lib.hid (t5.block R4.out (by omega))
      have Hb5 := Lib.hid (t5.below Hb4.out (by omega))
      have hs5 : w5.heap.size = w3.heap.size + 1 := t5.size.trans hs4
      clear b5 t5 hs4 H7 B4 R4 Hb4 hg7
      go_wp2_with (refine wpList_store_box (by rfl) _ _ _ (by rfl) gr noA (by rfl) (by rfl) _ _ (by exact R5.out) (by exact Tryz.sizeObj) (by rfl) (by simp [Value.oneCell', noA]) ?_)
      intro WF bF tF
      have BF := Lib.hid bF
      have HF := Lib.hid (tF.below Hb5.out hwr)
      clear bF tF
      go_wp2_with fail
      refine bodyPost_ret (v := .tuple #[.agg noA, .int .i64 7]) ?_ rfl ?_
      · exact results_two_obj Tryz.results17 _ _ gr _ (by rfl) BF.out rfl
      · exact did_no ⟨M, I, mb, nn, f, vlog, HIn.out, HD.out⟩ HF.out (HT0.out)
    · have Hc := Lib.hid hc
      have hT0 := HT.out
      unfold update at hT0
      rw [Her.out, if_neg (fun h => h rfl), Hc.out] at hT0
      dsimp only at hT0
      have HT0 := Lib.hid hT0.symm
      have HW := Lib.hid hwo
      clear hc HT hT0 hwo
      obtain ⟨g7, hg7⟩ : ∃ g7, g7 = w3.heap.size := ⟨_, rfl⟩
      have H7 := Lib.hid (heap_alloc_new w3 (.cells noA 30))
      have Hb4 := Lib.hid (Hb3.out.alloc (by omega) (.cells noA 30))
      have B4 := Lib.hid (below_block ((Below.refl _ w3).alloc (Nat.le_refl _) (.cells noA 30)) B3.out)
      have R4 := Lib.hid (below_block ((Below.refl _ w3).alloc (Nat.le_refl _) (.cells noA 30)) R3.out)
      have hs4 : (w3.alloc (.cells noA 30)).heap.size = w3.heap.size + 1 := World.size_alloc _ _
      go_wp2_with (refine wpList_store_box (by rfl) _ _ _ (by rfl) w3.heap.size (objCs was v1' v2' v3').toArray (by rfl) (by rfl) _ _ (by exact H7.out) (by exact Tryz.sizeObj) (by rfl) (objA_ones HW.out) ?_)
      intro w5 b5 t5
      have Z5 := Lib.hid b5
      have B5 := Lib.hid (t5.block B4.out (by omega))
      have R5 := Lib.hid (t5.block R4.out (by omega))
      have Hb5 := Lib.hid (t5.below Hb4.out (by omega))
      have hs5 : w5.heap.size = w3.heap.size + 1 := t5.size.trans hs4
      clear b5 t5 hs4 H7 B4 R4 Hb4 hg7
      obtain ⟨we, Hwe⟩ : ∃ we, Hid (was.ending = we) := ⟨_, Lib.hid rfl⟩
      obtain ⟨g9, hg9⟩ : ∃ g9, w3.heap.size = g9 := ⟨_, rfl⟩
      have ZE : Hid (w5.heap[g9]? = some (.cells #[.string was.okey.kind, .string was.okey.space, .string was.okey.name, v1', v2', v3', .bool we, .string was.uid, .int .i64 was.rev, .string was.doc] 30 (0, 0))) := Lib.hid (by rw [← Hwe.out, ← hg9]; exact Z5.out)
      have hg9l : g9 < w5.heap.size := by omega
      have hg9b : w.heap.size + 2 ≤ g9 := by omega
      rw [hg9]
      clear hg9 Z5
      rw [Hwe.out] at HT0
      obtain ⟨oe, Hoe⟩ : ∃ oe, Hid (o.ending = oe) := ⟨_, Lib.hid rfl⟩
      have HT1 : Hid (T = if o.rev ≠ was.rev then (S, noObj, 12) else if we = true ∧ oe = false then (S, noObj, 1) else doPut S 2 { keptO o with uid := was.uid }) := Lib.hid (by rw [HT0.out, Hoe.out])
      have cc := fun i => cell_block B5.out i
      have cz := fun i => cell_block ZE.out i
      clear HT0
      by_cases hr : o.rev = was.rev
      · have q1 : (o.rev == was.rev) = true := by rw [beq_iff_eq]; exact hr
        have HT2 : Hid (T = if we = true ∧ oe = false then (S, noObj, 1) else doPut S 2 { keptO o with uid := was.uid }) := Lib.hid (by rw [HT1.out, if_neg (fun h => h hr)])
        clear hr HT1
        by_cases hen : we = true ∧ oe = false
        · obtain ⟨rfl, rfl⟩ := hen
          have HT3 : Hid (T = (S, noObj, 1)) := Lib.hid (by rw [HT2.out, if_pos ⟨rfl, rfl⟩])
          have hoe := Hoe.out
          clear HT2
          go_wp2_with (refine wpList_store_box (by rfl) _ _ _ (by rfl) gr noA (by rfl) (by rfl) _ _ (by exact R5.out) (by exact Tryz.sizeObj) (by rfl) (by simp [Value.oneCell', noA]) ?_)
          intro WF bF tF
          have BF := Lib.hid bF
          have HF := Lib.hid (tF.below Hb5.out hwr)
          clear bF tF
          go_wp2_with fail
          refine bodyPost_ret (v := .tuple #[.agg noA, .int .i64 1]) ?_ rfl ?_
          · exact results_two_obj Tryz.results17 _ _ gr _ (by rfl) BF.out rfl
          · exact did_no ⟨M, I, mb, nn, f, vlog, HIn.out, HD.out⟩ HF.out (HT3.out)
        · have HTE : Hid (T = doPut S 2 { keptO o with uid := was.uid }) := Lib.hid (by rw [HT2.out, if_neg hen])
          have hoe := Hoe.out
          clear HT2
          clear hoe
          cases we with
          | false =>
            go_upto_region 11 with fail
            obtain ⟨ev, hev1, hev2⟩ := cur_mem Hc.out
            have HWok : Hid (OkObj was) := Lib.hid (hev2 ▸ HS.out.obj ev hev1)
            clear hev1 hev2 cz q1
            have cc := fun i => cell_block B5.out i
            have HK := Lib.hid (kept_any o (.slice a1 n1 c1) (.slice a2 n2 c2) (.slice a3 n3 c3) w5 (by rw [← Hn1.out]; rw [Hn1.out]; exact HL.out.below stays_label Hb5.out) (HO.out.below Hb5.out) (HHh.out.below Hb5.out) Hok.out (HH.out.below Hb5.out).tabs)
            rw [show objW o (.slice a1 n1 c1) (.slice a2 n2 c2) (.slice a3 n3 c3) = .agg #[.string o.okey.kind, .string o.okey.space, .string o.okey.name, .slice a1 n1 c1, .slice a2 n2 c2, .slice a3 n3 c3, .bool o.ending, .string o.uid, .int .i64 o.rev, .string o.doc] from rfl] at HK
            go_wp2_with fail
            refine HK.out.mono ?_
            rintro E w6 ⟨EK, x1, x2, x3, rfl, ko, kE, hb6⟩
            obtain ⟨d1, e1, rfl, -, -⟩ := ko.labels.own.row.len
            obtain ⟨d2, e2, rfl, -, -⟩ := ko.owners.own.row.len
            obtain ⟨d3, e3, rfl, -, -⟩ := ko.holds.own.row.len
            obtain ⟨m1, Hm1⟩ : ∃ n, Hid ((keptO o).labels.length = n) := ⟨_, Lib.hid rfl⟩
            obtain ⟨m2, Hm2⟩ : ∃ n, Hid ((keptO o).owners.length = n) := ⟨_, Lib.hid rfl⟩
            obtain ⟨m3, Hm3⟩ : ∃ n, Hid ((keptO o).holds.length = n) := ⟨_, Lib.hid rfl⟩
            rw [Hm1.out, Hm2.out, Hm3.out] at ko ⊢
            have KO := Lib.hid ko
            have KE := Lib.hid kE
            have B6 := Lib.hid (below_block hb6 B5.out)
            have R6 := Lib.hid (below_block hb6 R5.out)
            have Z6 := Lib.hid (below_block hb6 ZE.out)
            have Hb6 := Lib.hid (Hb5.out.trans (hb6.mono (by omega)))
            have hs6 := hb6.size
            clear ko kE hb6 cc HK B5 R5
            obtain ⟨K, HK⟩ : ∃ K, Hid (keptO o = K) := ⟨_, Lib.hid rfl⟩
            rw [HK.out] at KO ⊢
            rw [show objW K (.slice d1 m1 e1) (.slice d2 m2 e2) (.slice d3 m3 e3) = .agg #[.string K.okey.kind, .string K.okey.space, .string K.okey.name, .slice d1 m1 e1, .slice d2 m2 e2, .slice d3 m3 e3, .bool K.ending, .string K.uid, .int .i64 K.rev, .string K.doc] from rfl]
            go_wp2_with (refine wpList_store_box (by rfl) _ _ _ (by rfl) gb #[.string K.okey.kind, .string K.okey.space, .string K.okey.name, .slice d1 m1 e1, .slice d2 m2 e2, .slice d3 m3 e3, .bool K.ending, .string K.uid, .int .i64 K.rev, .string K.doc] (by rfl) (by rfl) _ _ (by exact B6.out) (by exact Tryz.sizeObj) (by rfl) (by simp [Value.oneCell']) ?_)
            intro w7 b7 t7
            have B7 := Lib.hid b7
            have R7 := Lib.hid (t7.block R6.out (Ne.symm hne))
            have Z7 := Lib.hid (t7.block Z6.out (by omega))
            have Hb7 := Lib.hid (t7.below Hb6.out hwb)
            have hs7 := t7.size
            have KO7 := Lib.hid (KO.out.agree fun b hb => t7.other b fun e => by have := (KE.out b hb).1; omega)
            clear b7 t7 B6 R6 KO
            have cz := fun i => cell_block Z7.out i
            have fb := fun i => free_block B7.out i
            have cb := fun i => cell_block B7.out i
            obtain ⟨w8, hw8⟩ : ∃ w8, w7.setCell ⟨gb, 7, none⟩ (.string was.uid) = w8 := ⟨_, rfl⟩
            have t1 := touch_setCell (i := 7) (v := .string was.uid) B7.out
            rw [hw8] at t1
            have B8 : Hid (w8.heap[gb]? = some (.cells #[.string K.okey.kind, .string K.okey.space, .string K.okey.name, .slice d1 m1 e1, .slice d2 m2 e2, .slice d3 m3 e3, .bool K.ending, .string was.uid, .int .i64 K.rev, .string K.doc] 30 (0, 0))) := Lib.hid t1.1
            have R8 := Lib.hid (t1.2.block R7.out (Ne.symm hne))
            have Hb8 := Lib.hid (t1.2.below Hb7.out hwb)
            have hs8 := t1.2.size
            have KO8 := Lib.hid (KO7.out.agree fun b hb => t1.2.other b fun e => by have := (KE.out b hb).1; omega)
            go_upto_region 13 with fail
            try rw [hw8]
            clear cz t1 hw8 fb cb B7 R7 Hb7 KO7
            obtain ⟨O, HOe⟩ : ∃ O : GObject, Hid (O = { K with uid := was.uid }) := ⟨_, Lib.hid rfl⟩
            have KO9 : Hid (ObjIn EK w8 (.slice d1 m1 e1) (.slice d2 m2 e2) (.slice d3 m3 e3) O) := Lib.hid (by rw [HOe.out]; exact KO8.out.other rfl rfl rfl)
            have hJ : ∀ b, EK b → b < w8.heap.size ∧ ¬ M b := fun b hb => ⟨by have := (KE.out b hb).2; omega, fun hm => by have := HIn.out.low b (.inl hm); have := (KE.out b hb).1; omega⟩
            have hokO : OkObj O := by
              have h9 := okObj_kept Hok.out
              rw [HK.out] at h9
              rw [HOe.out]
              exact ⟨h9.kind, h9.space, h9.name, h9.labels, h9.owners, h9.holds, HWok.out.uid, h9.rev, h9.doc⟩
            have HP := Lib.hid (put_any (HIn.out.belowW Hb8.out) hrv (live_low HS.out.good) (fun w' hO => HH.out.tab.below ((HH.out.below Hb8.out).bel.trans (hO.below (fun b hb => HH.out.own b ((HD.out b).2 (.inl hb))) (by have := HH.out.bel.size; have := Hb8.out.size; omega)))) 2 (.inr (.inl rfl)) O (.slice d1 m1 e1) (.slice d2 m2 e2) (.slice d3 m3 e3) KO9.out hJ hokO)
            rw [show objW O (.slice d1 m1 e1) (.slice d2 m2 e2) (.slice d3 m3 e3) = .agg #[.string O.okey.kind, .string O.okey.space, .string O.okey.name, .slice d1 m1 e1, .slice d2 m2 e2, .slice d3 m3 e3, .bool O.ending, .string O.uid, .int .i64 O.rev, .string O.doc] from rfl] at HP
            have BO : Hid (w8.heap[gb]? = some (.cells #[.string O.okey.kind, .string O.okey.space, .string O.okey.name, .slice d1 m1 e1, .slice d2 m2 e2, .slice d3 m3 e3, .bool O.ending, .string O.uid, .int .i64 O.rev, .string O.doc] 30 (0, 0))) := Lib.hid (by rw [HOe.out]; exact B8.out)
            have cb := fun i => cell_block BO.out i
            clear hJ hokO B8
            go_wp2_with fail
            refine HP.out.mono ?_
            rintro E w9 ⟨E9, y1, y2, y3, M', n', f', vlog', rfl, p1, p2, p3, p4, p5⟩
            have R9 : Hid (w9.heap[gr]? = some (.cells noA 30 (0, 0))) := Lib.hid ((p5.block gr (by omega) fun hm => by have := HIn.out.low gr (.inl hm); omega).trans R8.out)
            have P1 := Lib.hid p1
            have P2 := Lib.hid p2
            have P3 := Lib.hid p3
            have P4 := Lib.hid p4
            have P5 := Lib.hid p5
            obtain ⟨PO, HPO⟩ : ∃ PO, Hid (putO (S.rev + 1) 2 O = PO) := ⟨_, Lib.hid rfl⟩
            rw [HPO.out] at P1 ⊢
            clear p1 p2 p3 p4 p5 cb HP R8
            go_wp2_with (refine wpList_store_box (by rfl) _ _ _ (by rfl) gr (objCs PO y1 y2 y3).toArray (by rfl) (by rfl) _ _ (by exact R9.out) (by exact Tryz.sizeObj) (by rfl) (objA_ones P1.out) ?_)
            intro w10 b10 t10
            have B10 := Lib.hid b10
            have T10 := Lib.hid t10
            clear b10 t10
            go_wp2_with fail
            refine bodyPost_ret (v := .tuple #[objW PO y1 y2 y3, .int .i64 0]) ?_ rfl ?_
            · exact results_two_obj Tryz.results17 _ _ gr _ (by rfl) B10.out rfl
            · have h9 := put_did (kind := 2) (o := O) HIn.out HD.out Hb8.out ⟨hwr, by omega⟩ (fun b hb => .inr ⟨by have := (KE.out b hb).1; omega, fun e => by have := (KE.out b hb).1; omega, by have := (KE.out b hb).2; omega⟩) (by rw [HPO.out]; exact P1.out) P2.out P3.out P4.out P5.out T10.out
              rw [HPO.out] at h9
              rw [HTE.out, HK.out, ← HOe.out]
              exact h9
          | true =>
            cases oe with
            | false => exact absurd ⟨rfl, rfl⟩ hen
            | true =>
              have hoe := Hoe.out
              have BT : Hid (w5.heap[gb]? = some (.cells #[.string o.okey.kind, .string o.okey.space, .string o.okey.name, .slice a1 n1 c1, .slice a2 n2 c2, .slice a3 n3 c3, .bool true, .string o.uid, .int .i64 o.rev, .string o.doc] 30 (0, 0))) := Lib.hid (by rw [← hoe]; exact B5.out)
              clear B5 cc
              have cc := fun i => cell_block BT.out i
              go_upto_region 11 with fail
              clear cc hoe
              have B5 := BT
              obtain ⟨ev, hev1, hev2⟩ := cur_mem Hc.out
              have HWok : Hid (OkObj was) := Lib.hid (hev2 ▸ HS.out.obj ev hev1)
              clear hev1 hev2 cz q1
              have cc := fun i => cell_block B5.out i
              have HK := Lib.hid (kept_any o (.slice a1 n1 c1) (.slice a2 n2 c2) (.slice a3 n3 c3) w5 (by rw [← Hn1.out]; rw [Hn1.out]; exact HL.out.below stays_label Hb5.out) (HO.out.below Hb5.out) (HHh.out.below Hb5.out) Hok.out (HH.out.below Hb5.out).tabs)
              rw [show objW o (.slice a1 n1 c1) (.slice a2 n2 c2) (.slice a3 n3 c3) = .agg #[.string o.okey.kind, .string o.okey.space, .string o.okey.name, .slice a1 n1 c1, .slice a2 n2 c2, .slice a3 n3 c3, .bool o.ending, .string o.uid, .int .i64 o.rev, .string o.doc] from rfl, Hoe.out] at HK
              go_wp2_with fail
              refine HK.out.mono ?_
              rintro E w6 ⟨EK, x1, x2, x3, rfl, ko, kE, hb6⟩
              obtain ⟨d1, e1, rfl, -, -⟩ := ko.labels.own.row.len
              obtain ⟨d2, e2, rfl, -, -⟩ := ko.owners.own.row.len
              obtain ⟨d3, e3, rfl, -, -⟩ := ko.holds.own.row.len
              obtain ⟨m1, Hm1⟩ : ∃ n, Hid ((keptO o).labels.length = n) := ⟨_, Lib.hid rfl⟩
              obtain ⟨m2, Hm2⟩ : ∃ n, Hid ((keptO o).owners.length = n) := ⟨_, Lib.hid rfl⟩
              obtain ⟨m3, Hm3⟩ : ∃ n, Hid ((keptO o).holds.length = n) := ⟨_, Lib.hid rfl⟩
              rw [Hm1.out, Hm2.out, Hm3.out] at ko ⊢
              have KO := Lib.hid ko
              have KE := Lib.hid kE
              have B6 := Lib.hid (below_block hb6 B5.out)
              have R6 := Lib.hid (below_block hb6 R5.out)
              have Z6 := Lib.hid (below_block hb6 ZE.out)
              have Hb6 := Lib.hid (Hb5.out.trans (hb6.mono (by omega)))
              have hs6 := hb6.size
              clear ko kE hb6 cc HK B5 R5
              obtain ⟨K, HK⟩ : ∃ K, Hid (keptO o = K) := ⟨_, Lib.hid rfl⟩
              rw [HK.out] at KO ⊢
              rw [show objW K (.slice d1 m1 e1) (.slice d2 m2 e2) (.slice d3 m3 e3) = .agg #[.string K.okey.kind, .string K.okey.space, .string K.okey.name, .slice d1 m1 e1, .slice d2 m2 e2, .slice d3 m3 e3, .bool K.ending, .string K.uid, .int .i64 K.rev, .string K.doc] from rfl]
              go_wp2_with (refine wpList_store_box (by rfl) _ _ _ (by rfl) gb #[.string K.okey.kind, .string K.okey.space, .string K.okey.name, .slice d1 m1 e1, .slice d2 m2 e2, .slice d3 m3 e3, .bool K.ending, .string K.uid, .int .i64 K.rev, .string K.doc] (by rfl) (by rfl) _ _ (by exact B6.out) (by exact Tryz.sizeObj) (by rfl) (by simp [Value.oneCell']) ?_)
              intro w7 b7 t7
              have B7 := Lib.hid b7
              have R7 := Lib.hid (t7.block R6.out (Ne.symm hne))
              have Z7 := Lib.hid (t7.block Z6.out (by omega))
              have Hb7 := Lib.hid (t7.below Hb6.out hwb)
              have hs7 := t7.size
              have KO7 := Lib.hid (KO.out.agree fun b hb => t7.other b fun e => by have := (KE.out b hb).1; omega)
              clear b7 t7 B6 R6 KO
              have cz := fun i => cell_block Z7.out i
              have fb := fun i => free_block B7.out i
              have cb := fun i => cell_block B7.out i
              obtain ⟨w8, hw8⟩ : ∃ w8, w7.setCell ⟨gb, 7, none⟩ (.string was.uid) = w8 := ⟨_, rfl⟩
              have t1 := touch_setCell (i := 7) (v := .string was.uid) B7.out
              rw [hw8] at t1
              have B8 : Hid (w8.heap[gb]? = some (.cells #[.string K.okey.kind, .string K.okey.space, .string K.okey.name, .slice d1 m1 e1, .slice d2 m2 e2, .slice d3 m3 e3, .bool K.ending, .string was.uid, .int .i64 K.rev, .string K.doc] 30 (0, 0))) := Lib.hid t1.1
              have R8 := Lib.hid (t1.2.block R7.out (Ne.symm hne))
              have Hb8 := Lib.hid (t1.2.below Hb7.out hwb)
              have hs8 := t1.2.size
              have KO8 := Lib.hid (KO7.out.agree fun b hb => t1.2.other b fun e => by have := (KE.out b hb).1; omega)
              go_upto_region 13 with fail
              try rw [hw8]
              clear cz t1 hw8 fb cb B7 R7 Hb7 KO7
              obtain ⟨O, HOe⟩ : ∃ O : GObject, Hid (O = { K with uid := was.uid }) := ⟨_, Lib.hid rfl⟩
              have KO9 : Hid (ObjIn EK w8 (.slice d1 m1 e1) (.slice d2 m2 e2) (.slice d3 m3 e3) O) := Lib.hid (by rw [HOe.out]; exact KO8.out.other rfl rfl rfl)
              have hJ : ∀ b, EK b → b < w8.heap.size ∧ ¬ M b := fun b hb => ⟨by have := (KE.out b hb).2; omega, fun hm => by have := HIn.out.low b (.inl hm); have := (KE.out b hb).1; omega⟩
              have hokO : OkObj O := by
                have h9 := okObj_kept Hok.out
                rw [HK.out] at h9
                rw [HOe.out]
                exact ⟨h9.kind, h9.space, h9.name, h9.labels, h9.owners, h9.holds, HWok.out.uid, h9.rev, h9.doc⟩
              have HP := Lib.hid (put_any (HIn.out.belowW Hb8.out) hrv (live_low HS.out.good) (fun w' hO => HH.out.tab.below ((HH.out.below Hb8.out).bel.trans (hO.below (fun b hb => HH.out.own b ((HD.out b).2 (.inl hb))) (by have := HH.out.bel.size; have := Hb8.out.size; omega)))) 2 (.inr (.inl rfl)) O (.slice d1 m1 e1) (.slice d2 m2 e2) (.slice d3 m3 e3) KO9.out hJ hokO)
              rw [show objW O (.slice d1 m1 e1) (.slice d2 m2 e2) (.slice d3 m3 e3) = .agg #[.string O.okey.kind, .string O.okey.space, .string O.okey.name, .slice d1 m1 e1, .slice d2 m2 e2, .slice d3 m3 e3, .bool O.ending, .string O.uid, .int .i64 O.rev, .string O.doc] from rfl] at HP
              have BO : Hid (w8.heap[gb]? = some (.cells #[.string O.okey.kind, .string O.okey.space, .string O.okey.name, .slice d1 m1 e1, .slice d2 m2 e2, .slice d3 m3 e3, .bool O.ending, .string O.uid, .int .i64 O.rev, .string O.doc] 30 (0, 0))) := Lib.hid (by rw [HOe.out]; exact B8.out)
              have cb := fun i => cell_block BO.out i
              clear hJ hokO B8
              go_wp2_with fail
              refine HP.out.mono ?_
              rintro E w9 ⟨E9, y1, y2, y3, M', n', f', vlog', rfl, p1, p2, p3, p4, p5⟩
              have R9 : Hid (w9.heap[gr]? = some (.cells noA 30 (0, 0))) := Lib.hid ((p5.block gr (by omega) fun hm => by have := HIn.out.low gr (.inl hm); omega).trans R8.out)
              have P1 := Lib.hid p1
              have P2 := Lib.hid p2
              have P3 := Lib.hid p3
              have P4 := Lib.hid p4
              have P5 := Lib.hid p5
              obtain ⟨PO, HPO⟩ : ∃ PO, Hid (putO (S.rev + 1) 2 O = PO) := ⟨_, Lib.hid rfl⟩
              rw [HPO.out] at P1 ⊢
              clear p1 p2 p3 p4 p5 cb HP R8
              go_wp2_with (refine wpList_store_box (by rfl) _ _ _ (by rfl) gr (objCs PO y1 y2 y3).toArray (by rfl) (by rfl) _ _ (by exact R9.out) (by exact Tryz.sizeObj) (by rfl) (objA_ones P1.out) ?_)
              intro w10 b10 t10
              have B10 := Lib.hid b10
              have T10 := Lib.hid t10
              clear b10 t10
              go_wp2_with fail
              refine bodyPost_ret (v := .tuple #[objW PO y1 y2 y3, .int .i64 0]) ?_ rfl ?_
              · exact results_two_obj Tryz.results17 _ _ gr _ (by rfl) B10.out rfl
              · have h9 := put_did (kind := 2) (o := O) HIn.out HD.out Hb8.out ⟨hwr, by omega⟩ (fun b hb => .inr ⟨by have := (KE.out b hb).1; omega, fun e => by have := (KE.out b hb).1; omega, by have := (KE.out b hb).2; omega⟩) (by rw [HPO.out]; exact P1.out) P2.out P3.out P4.out P5.out T10.out
                rw [HPO.out] at h9
                rw [HTE.out, HK.out, ← HOe.out]
                exact h9
      · have q1 : (o.rev == was.rev) = false := by rw [beq_eq_false_iff_ne]; exact hr
        have HT2 : Hid (T = (S, noObj, 12)) := Lib.hid (by rw [HT1.out, if_pos hr])
        clear hr HT1
        go_wp2_with (refine wpList_store_box (by rfl) _ _ _ (by rfl) gr noA (by rfl) (by rfl) _ _ (by exact R5.out) (by exact Tryz.sizeObj) (by rfl) (by simp [Value.oneCell', noA]) ?_)
        intro WF bF tF
        have BF := Lib.hid bF
        have HF := Lib.hid (tF.below Hb5.out hwr)
        clear bF tF
        go_wp2_with fail
        refine bodyPost_ret (v := .tuple #[.agg noA, .int .i64 12]) ?_ rfl ?_
        · exact results_two_obj Tryz.results17 _ _ gr _ (by rfl) BF.out rfl
        · exact did_no ⟨M, I, mb, nn, f, vlog, HIn.out, HD.out⟩ HF.out (HT2.out)
  · have q0 : (er == 0) = false := by rw [beq_eq_false_iff_ne]; exact her
    have hT0 := HT.out
    unfold update at hT0
    rw [Her.out, if_pos her] at hT0
    have HT0 := Lib.hid hT0.symm
    clear her HT hT0
    go_wp2_with (refine wpList_store_box (by rfl) _ _ _ (by rfl) gr noA (by rfl) (by rfl) _ _ (by exact R2.out) (by exact Tryz.sizeObj) (by rfl) (by simp [Value.oneCell', noA]) ?_)
    intro WF bF tF
    have BF := Lib.hid bF
    have HF := Lib.hid (tF.below Hb2.out hwr)
    clear bF tF
    go_wp2_with fail
    refine bodyPost_ret (v := .tuple #[.agg noA, .int .i64 er]) ?_ rfl ?_
    · exact results_two_obj Tryz.results17 _ _ gr _ (by rfl) BF.out rfl
    · exact did_no ⟨M, I, mb, nn, f, vlog, HIn.out, HD.out⟩ HF.out (HT0.out)
set_option maxRecDepth 100000 in
set_option maxHeartbeats 6400000 in
theorem remove_any {D : Dom} {w0 w : World} {g : Nat} {S : St} (h : StoreAt D w g S) (hH : Home w0 D w) (hS : OkSt S) (hrv : S.rev ≤ 4194303) (k : GKey) (rev : Int) (hk : k.kind.size ≤ 1048576 ∧ k.space.size ≤ 1048576 ∧ k.name.size ≤ 1048576) :
    Calls Tryz.prog 15 #[.pointer (some ⟨g, 0, none⟩), .agg #[.string k.kind, .string k.space, .string k.name], .int .i64 rev] w (Did D w g (remove S k rev)) := by
  obtain ⟨M, I, mb, nn, f, vlog, hin, hD⟩ := h
  obtain ⟨er, Her⟩ : ∃ x, Hid (keyK k = x) := ⟨_, Lib.hid rfl⟩
  obtain ⟨T, HT⟩ : ∃ T, Hid (remove S k rev = T) := ⟨_, Lib.hid rfl⟩
  rw [HT.out]
  have hokk : okKey k := ⟨by unfold maxLen; omega, by unfold maxLen; omega, by unfold maxLen; omega⟩
  have HIn := Lib.hid hin
  have HD := Lib.hid hD
  have HH := Lib.hid hH
  have HS := Lib.hid hS
  obtain ⟨w1, hw1⟩ : ∃ w1, w1 = (w.alloc (.cells #[.string k.kind, .string k.space, .string k.name] 24)).alloc (.cells noA 30) := ⟨_, rfl⟩
  obtain ⟨gb, hgb⟩ : ∃ gb, gb = w.heap.size := ⟨_, rfl⟩
  obtain ⟨gr, hgr⟩ : ∃ gr, gr = w.heap.size + 1 := ⟨_, rfl⟩
  have B1 : Hid (w1.heap[gb]? = some (.cells #[.string k.kind, .string k.space, .string k.name] 24 (0, 0))) := Lib.hid (by rw [hw1, hgb]; exact heap_alloc_old (heap_alloc_new w _))
  have R1 : Hid (w1.heap[gr]? = some (.cells noA 30 (0, 0))) := Lib.hid (by rw [hw1, hgr]; exact heap_alloc_at (World.size_alloc _ _).symm)
  have hb1 : Below w.heap.size w w1 := by rw [hw1]; exact ((Below.refl _ w).alloc (Nat.le_refl _) _).alloc (by rw [World.size_alloc]; omega) _
  have hs1 : w1.heap.size = w.heap.size + 2 := by rw [hw1, World.size_alloc, World.size_alloc]
  have Hb1 := Lib.hid hb1
  have hne : gb ≠ gr := by omega
  have hwb : w.heap.size ≤ gb := by omega
  have hwr : w.heap.size ≤ gr := by omega
  have hrl : gr < w.heap.size + 2 := by omega
  have hbl : gb < w.heap.size + 2 := by omega
  have HC := Lib.hid (key_any k.kind k.space k.name w1 (by omega) (by omega) (by omega))
  have her0 : AuP.keyE k.kind.data.toList k.space.data.toList k.name.data.toList = er := Her.out
  rw [her0] at HC
  have hgl := hin.low g (.inl hin.gM)
  clear hb1 hin hD hH hS her0 hk
  go_enter Tryz.func15, Tryz.ntmps15
  go_upto_region 1 with fail
  have hex : ((w.alloc (.cells #[.string k.kind, .string k.space, .string k.name] 24)).alloc (.cells #[.string { data := #[] }, .string { data := #[] }, .string { data := #[] }, .slice none 0 0, .slice none 0 0, .slice none 0 0, .bool false, .string { data := #[] }, .int .i64 0, .string { data := #[] }] 30)) = w1 := hw1.symm
  rw [hex]
  try rw [← hgr]
  rw [← hgb]
  clear hw1 hex hgb hgr
  have cc := fun i => cell_block B1.out i
  go_wp2_with fail
  refine HC.out.mono ?_
  rintro E w2 ⟨rfl, hb2⟩
  have B2 := Lib.hid (below_block hb2 B1.out)
  have R2 := Lib.hid (below_block hb2 R1.out)
  have Hb2 := Lib.hid (Hb1.out.trans (hb2.mono (by omega)))
  have hs2 := hb2.size
  clear hb2 HC cc B1 R1
  by_cases her : er = 0
  · subst her
    have cc := fun i => cell_block B2.out i
    have HLa := Lib.hid (last_any (HIn.out.belowW Hb2.out) k hokk HS.out.rev)
    go_wp2_with fail
    refine HLa.out.mono ?_
    rintro E w3 ⟨hb3, hlast⟩
    have B3 := Lib.hid (below_block hb3 B2.out)
    have R3 := Lib.hid (below_block hb3 R2.out)
    have Hb3 := Lib.hid (Hb2.out.trans (hb3.mono (by omega)))
    have hb23 := Lib.hid hb3
    have hs3 := hb3.size
    clear hb3 cc B2 R2 HLa
    rcases hlast with ⟨hc, rfl⟩ | ⟨was, v1', v2', v3', hc, rfl, hwo⟩
    · have Hc := Lib.hid hc
      have hT0 := HT.out
      unfold remove at hT0
      rw [Her.out, if_neg (fun h => h rfl), Hc.out] at hT0
      have HT0 := Lib.hid hT0.symm
      rw [show noW = .agg noA from rfl]
      clear hc HT hT0
      obtain ⟨g7, hg7⟩ : ∃ g7, g7 = w3.heap.size := ⟨_, rfl⟩
      have H7 := Lib.hid (heap_alloc_new w3 (.cells noA 30))
      have Hb4 := Lib.hid (Hb3.out.alloc (by omega) (.cells noA 30))
      have B4 := Lib.hid (below_block ((Below.refl _ w3).alloc (Nat.le_refl _) (.cells noA 30)) B3.out)
      have R4 := Lib.hid (below_block ((Below.refl _ w3).alloc (Nat.le_refl _) (.cells noA 30)) R3.out)
      have hs4 : (w3.alloc (.cells noA 30)).heap.size = w3.heap.size + 1 := World.size_alloc _ _
      go_wp2_with (refine wpList_store_box (by rfl) _ _ _ (by rfl) w3.heap.size noA (by rfl) (by rfl) _ _ (by exact H7.out) (by exact Tryz.sizeObj) (by rfl) (by simp [Value.oneCell', noA]) ?_)
      intro w5 b5 t5
      have Z5 := Lib.hid b5
      have B5 := Lib.hid (t5.block B4.out (by omega))
      have R5 := Lib.hid (t5.block R4.out (by omega))
      have Hb5 := Lib.hid (t5.below Hb4.out (by omega))
      have hs5 : w5.heap.size = w3.heap.size + 1 := t5.size.trans hs4
      have HW5 : Hid (Below w2.heap.size w2 w5) := Lib.hid (t5.below (hb23.out.trans (((Below.refl w3.heap.size w3).alloc (Nat.le_refl _) (.cells noA 30)).mono hs3)) (by omega))
      clear b5 t5 hs4 H7 B4 R4 Hb4 hg7
      go_wp2_with (refine wpList_store_box (by rfl) _ _ _ (by rfl) gr noA (by rfl) (by rfl) _ _ (by exact R5.out) (by exact Tryz.sizeObj) (by rfl) (by simp [Value.oneCell', noA]) ?_)
      intro WF bF tF
      have BF := Lib.hid bF
      have HF := Lib.hid (tF.below Hb5.out hwr)
      clear bF tF
      go_wp2_with fail
      refine bodyPost_ret (v := .tuple #[.agg noA, .int .i64 7]) ?_ rfl ?_
      · exact results_two_obj Tryz.results15 _ _ gr _ (by rfl) BF.out rfl
      · exact did_no ⟨M, I, mb, nn, f, vlog, HIn.out, HD.out⟩ HF.out (HT0.out)
    · have Hc := Lib.hid hc
      have hT0 := HT.out
      unfold remove at hT0
      rw [Her.out, if_neg (fun h => h rfl), Hc.out] at hT0
      dsimp only at hT0
      have HT0 := Lib.hid hT0.symm
      have HW := Lib.hid hwo
      clear hc HT hT0 hwo
      obtain ⟨g7, hg7⟩ : ∃ g7, g7 = w3.heap.size := ⟨_, rfl⟩
      have H7 := Lib.hid (heap_alloc_new w3 (.cells noA 30))
      have Hb4 := Lib.hid (Hb3.out.alloc (by omega) (.cells noA 30))
      have B4 := Lib.hid (below_block ((Below.refl _ w3).alloc (Nat.le_refl _) (.cells noA 30)) B3.out)
      have R4 := Lib.hid (below_block ((Below.refl _ w3).alloc (Nat.le_refl _) (.cells noA 30)) R3.out)
      have hs4 : (w3.alloc (.cells noA 30)).heap.size = w3.heap.size + 1 := World.size_alloc _ _
      go_wp2_with (refine wpList_store_box (by rfl) _ _ _ (by rfl) w3.heap.size (objCs was v1' v2' v3').toArray (by rfl) (by rfl) _ _ (by exact H7.out) (by exact Tryz.sizeObj) (by rfl) (objA_ones HW.out) ?_)
      intro w5 b5 t5
      have Z5 := Lib.hid b5
      have B5 := Lib.hid (t5.block B4.out (by omega))
      have R5 := Lib.hid (t5.block R4.out (by omega))
      have Hb5 := Lib.hid (t5.below Hb4.out (by omega))
      have hs5 : w5.heap.size = w3.heap.size + 1 := t5.size.trans hs4
      have HW5 : Hid (Below w2.heap.size w2 w5) := Lib.hid (t5.below (hb23.out.trans (((Below.refl w3.heap.size w3).alloc (Nat.le_refl _) (.cells noA 30)).mono hs3)) (by omega))
      clear b5 t5 hs4 H7 B4 R4 Hb4 hg7
      obtain ⟨g9, hg9⟩ : ∃ g9, w3.heap.size = g9 := ⟨_, rfl⟩
      have ZE : Hid (w5.heap[g9]? = some (.cells #[.string was.okey.kind, .string was.okey.space, .string was.okey.name, v1', v2', v3', .bool was.ending, .string was.uid, .int .i64 was.rev, .string was.doc] 30 (0, 0))) := Lib.hid (by rw [← hg9]; exact Z5.out)
      have hg9l : g9 < w5.heap.size := by omega
      have hg9b : w.heap.size + 2 ≤ g9 := by omega
      rw [hg9]
      clear hg9 Z5
      have cz := fun i => cell_block ZE.out i
      by_cases hr : rev ≠ 0 ∧ rev ≠ was.rev
      · obtain ⟨h1, h2⟩ := hr
        have q1 : (rev != 0) = true := bne_iff_ne.2 h1
        have q2 : (rev != was.rev) = true := bne_iff_ne.2 h2
        have HT2 : Hid (T = (S, noObj, 12)) := Lib.hid (by rw [HT0.out, if_pos ⟨h1, h2⟩])
        clear h1 h2 HT0
        go_wp2_with (refine wpList_store_box (by rfl) _ _ _ (by rfl) gr noA (by rfl) (by rfl) _ _ (by exact R5.out) (by exact Tryz.sizeObj) (by rfl) (by simp [Value.oneCell', noA]) ?_)
        intro WF bF tF
        have BF := Lib.hid bF
        have HF := Lib.hid (tF.below Hb5.out hwr)
        clear bF tF
        go_wp2_with fail
        refine bodyPost_ret (v := .tuple #[.agg noA, .int .i64 12]) ?_ rfl ?_
        · exact results_two_obj Tryz.results15 _ _ gr _ (by rfl) BF.out rfl
        · exact did_no ⟨M, I, mb, nn, f, vlog, HIn.out, HD.out⟩ HF.out (HT2.out)
      · have HTE : Hid (T = doPut S 3 was) := Lib.hid (by rw [HT0.out, if_neg hr])
        clear HT0
        obtain ⟨evv, hev1, hev2⟩ := cur_mem Hc.out
        have HWok : Hid (OkObj was) := Lib.hid (hev2 ▸ HS.out.obj evv hev1)
        have Hw5 : Hid (Below w2.heap.size w2 w5) := HW5
        have HO5 : Hid (ObjIn I w5 v1' v2' v3' was) := Lib.hid (HW.out.agree fun b hb => Hw5.out.block b (by have := HIn.out.low b (.inr hb); omega))
        have HP := Lib.hid (put_any (HIn.out.belowW Hb5.out) hrv (live_low HS.out.good) (fun w' hO => HH.out.tab.below ((HH.out.below Hb5.out).bel.trans (hO.below (fun b hb => HH.out.own b ((HD.out b).2 (.inl hb))) (by have := HH.out.bel.size; have := Hb5.out.size; omega)))) 3 (.inr (.inr rfl)) was v1' v2' v3' HO5.out (fun b hb => ⟨by have := HIn.out.low b (.inr hb); omega, fun hm => HIn.out.apart b hm hb⟩) HWok.out)
        rw [show objW was v1' v2' v3' = .agg #[.string was.okey.kind, .string was.okey.space, .string was.okey.name, v1', v2', v3', .bool was.ending, .string was.uid, .int .i64 was.rev, .string was.doc] from rfl] at HP
        clear hev1 hev2
        by_cases h0 : rev = 0
        · subst h0
          clear hr
          go_wp2_with fail
          refine HP.out.mono ?_
          rintro E w9 ⟨E9, y1, y2, y3, M', n', f', vlog', rfl, p1, p2, p3, p4, p5⟩
          have R9 : Hid (w9.heap[gr]? = some (.cells noA 30 (0, 0))) := Lib.hid ((p5.block gr (by omega) fun hm => by have := HIn.out.low gr (.inl hm); omega).trans R5.out)
          have P1 := Lib.hid p1
          have P2 := Lib.hid p2
          have P3 := Lib.hid p3
          have P4 := Lib.hid p4
          have P5 := Lib.hid p5
          obtain ⟨PO, HPO⟩ : ∃ PO, Hid (putO (S.rev + 1) 3 was = PO) := ⟨_, Lib.hid rfl⟩
          rw [HPO.out] at P1 ⊢
          clear p1 p2 p3 p4 p5 cz HP R5
          go_wp2_with (refine wpList_store_box (by rfl) _ _ _ (by rfl) gr (objCs PO y1 y2 y3).toArray (by rfl) (by rfl) _ _ (by exact R9.out) (by exact Tryz.sizeObj) (by rfl) (objA_ones P1.out) ?_)
          intro w10 b10 t10
          have B10 := Lib.hid b10
          have T10 := Lib.hid t10
          clear b10 t10
          go_wp2_with fail
          refine bodyPost_ret (v := .tuple #[objW PO y1 y2 y3, .int .i64 0]) ?_ rfl ?_
          · exact results_two_obj Tryz.results15 _ _ gr _ (by rfl) B10.out rfl
          · have h9 := put_did (kind := 3) (o := was) HIn.out HD.out Hb5.out ⟨hwr, by omega⟩ (J := I) (fun b hb => .inl hb) (by rw [HPO.out]; exact P1.out) P2.out P3.out P4.out P5.out T10.out
            rw [HPO.out] at h9
            rw [HTE.out]
            exact h9
        · have q1 : (rev != 0) = true := bne_iff_ne.2 h0
          have q2 : (rev != was.rev) = false := by rw [Classical.byContradiction (fun h => hr ⟨h0, h⟩ : ¬ ¬ rev = was.rev)]; exact bne_self_eq_false _
          clear hr h0
          go_wp2_with fail
          refine HP.out.mono ?_
          rintro E w9 ⟨E9, y1, y2, y3, M', n', f', vlog', rfl, p1, p2, p3, p4, p5⟩
          have R9 : Hid (w9.heap[gr]? = some (.cells noA 30 (0, 0))) := Lib.hid ((p5.block gr (by omega) fun hm => by have := HIn.out.low gr (.inl hm); omega).trans R5.out)
          have P1 := Lib.hid p1
          have P2 := Lib.hid p2
          have P3 := Lib.hid p3
          have P4 := Lib.hid p4
          have P5 := Lib.hid p5
          obtain ⟨PO, HPO⟩ : ∃ PO, Hid (putO (S.rev + 1) 3 was = PO) := ⟨_, Lib.hid rfl⟩
          rw [HPO.out] at P1 ⊢
          clear p1 p2 p3 p4 p5 cz HP R5
          go_wp2_with (refine wpList_store_box (by rfl) _ _ _ (by rfl) gr (objCs PO y1 y2 y3).toArray (by rfl) (by rfl) _ _ (by exact R9.out) (by exact Tryz.sizeObj) (by rfl) (objA_ones P1.out) ?_)
          intro w10 b10 t10
          have B10 := Lib.hid b10
          have T10 := Lib.hid t10
          clear b10 t10
          go_wp2_with fail
          refine bodyPost_ret (v := .tuple #[objW PO y1 y2 y3, .int .i64 0]) ?_ rfl ?_
          · exact results_two_obj Tryz.results15 _ _ gr _ (by rfl) B10.out rfl
          · have h9 := put_did (kind := 3) (o := was) HIn.out HD.out Hb5.out ⟨hwr, by omega⟩ (J := I) (fun b hb => .inl hb) (by rw [HPO.out]; exact P1.out) P2.out P3.out P4.out P5.out T10.out
            rw [HPO.out] at h9
            rw [HTE.out]
            exact h9
  · have q0 : (er == 0) = false := by rw [beq_eq_false_iff_ne]; exact her
    have hT0 := HT.out
    unfold remove at hT0
    rw [Her.out, if_pos her] at hT0
    have HT0 := Lib.hid hT0.symm
    clear her HT hT0
    go_wp2_with (refine wpList_store_box (by rfl) _ _ _ (by rfl) gr noA (by rfl) (by rfl) _ _ (by exact R2.out) (by exact Tryz.sizeObj) (by rfl) (by simp [Value.oneCell', noA]) ?_)
    intro WF bF tF
    have BF := Lib.hid bF
    have HF := Lib.hid (tF.below Hb2.out hwr)
    clear bF tF
    go_wp2_with fail
    refine bodyPost_ret (v := .tuple #[.agg noA, .int .i64 er]) ?_ rfl ?_
    · exact results_two_obj Tryz.results15 _ _ gr _ (by rfl) BF.out rfl
    · exact did_no ⟨M, I, mb, nn, f, vlog, HIn.out, HD.out⟩ HF.out (HT0.out)
end Sto
end Go.Proofs.YtnnceaapodgfbaaGreatDoor
namespace Go.Proofs.YtnnceaapodgfbaaGreatDoor
namespace Sto
open Go.RowKit
open JP (Bs)
theorem timeE0 (S : St) : timeE S 0 = 0 := by
  unfold timeE
  have : ¬ ((0 : Int) < 0 ∨ (S.rev : Int) < 0) := by omega
  rw [if_neg this, if_pos rfl]
theorem timeT0 (S : St) : timeT S 0 = S.rev := by unfold timeT; rw [timeE0]; simp
theorem take_rev (S : St) : S.log.take S.rev = S.log := List.take_length
structure PastIs (S S' : St) (kind space : ByteArray) (k : GKey) : Prop where
  none : S.rev = 0 → getE S k 0 ≠ 0 ∧ ∀ a, ListTold S kind space 0 a → a = []
  gone : ∀ b, ListTold S' kind space S.rev b → (listE S' kind space S.rev = 13 ∨ getE S' k S.rev = 13) → b = [] ∧ listE S' kind space S.rev ≠ 0 ∧ getE S' k S.rev ≠ 0
  same : ∀ a b, ListTold S kind space 0 a → ListTold S' kind space S.rev b → S.rev ≠ 0 → listE S' kind space S.rev ≠ 13 → getE S' k S.rev ≠ 13 →
    listE S kind space 0 = listE S' kind space S.rev ∧ a = b ∧ getE S k 0 = getE S' k S.rev ∧ getO S k 0 = getO S' k S.rev
end Sto
end Go.Proofs.YtnnceaapodgfbaaGreatDoor
namespace Go.Proofs.YtnnceaapodgfbaaGreatDoor
namespace Sto
open Go.RowKit
open JP (Bs)
structure OnceIs (S : St) (k : GKey) (doc other : ByteArray) : Prop where
  no : getE S k 0 ≠ 0 → (remove S k 0).2.2 = getE S k 0
  yes : getE S k 0 = 0 → ∀ o Ua Ub, o = getO S k 0 → Ua = update S { o with doc := doc } → Ub = update Ua.1 { o with doc := other } →
    getE Ub.1 k 0 = 0 ∧ (Ua.2.2 = 0 → (Ub.2.2 = 12 ∨ objE { o with doc := other } = Ub.2.2) ∧ Ub.2.2 ≠ 0 ∧ Ub.1.rev = S.rev + 1 ∧ getO Ub.1 k 0 = Ua.2.1 ∧ Ua.2.1.rev = (S.rev : Int) + 1) ∧
    (Ua.2.2 ≠ 0 → Ub.2.2 = 0 → Ub.1.rev = S.rev + 1 ∧ getO Ub.1 k 0 = Ub.2.1) ∧ (Ua.2.2 ≠ 0 → Ub.2.2 ≠ 0 → Ub.1.rev = S.rev ∧ (getO Ub.1 k 0).rev = o.rev)
theorem replay_step {S : St} (h : Good S) {i : Nat} {e : GEvent} (he : S.log[i]? = some e) :
    e.rev = (i : Int) + 1 ∧ e.object.rev = (i : Int) + 1 ∧ ((cur (S.log.take i) e.object.okey).isSome = !decide (e.kind = 1)) ∧ ∀ k, cur (S.log.take (i + 1)) k = if e.object.okey = k then shown e else cur (S.log.take i) k := by
  obtain ⟨h1, h2, h3⟩ := h.step i e he
  have hl := (List.getElem?_eq_some_iff.1 he).1
  rw [List.length_take, Nat.min_eq_left (by omega)] at h1 h2
  refine ⟨h1, h2, ?_, fun k => by rw [take_snoc he, cur_snoc]⟩
  rcases h3 with ⟨g1, g2, _⟩ | ⟨g1, o, g2, _⟩
  · rw [g2, g1]; rfl
  · rw [g2]
    have : ¬ e.kind = 1 := by omega
    rw [decide_eq_false this]; rfl
theorem comp_run {S : St} (l : List GStoreStep) (h : ∀ x ∈ l, modI x.kind 4 ≠ 3) (h0 : S.comp = 0) : (run S l).comp = 0 := by
  induction l generalizing S with
  | nil => exact h0
  | cons x r ih =>
    refine ih (fun y hy => h y (List.mem_cons_of_mem _ hy)) ?_
    have hx := h x (List.mem_cons_self ..)
    have hm : 0 ≤ modI x.kind 4 ∧ modI x.kind 4 < 4 := ⟨Int.emod_nonneg _ (by decide), Int.emod_lt_of_pos _ (by decide)⟩
    have hp : ∀ kind o, (put S kind o).comp = S.comp := fun _ _ => rfl
    unfold doS
    split
    · rcases create_cases S x.o with ⟨e, _⟩ | ⟨e, _⟩
      · rw [e]; exact h0
      · rw [e]; exact h0
    · split
      · rcases update_cases S x.o with ⟨e, _⟩ | ⟨was, e, _⟩
        · rw [e]; exact h0
        · rw [e]; exact h0
      · split
        · rcases remove_cases S x.o.okey x.rev with ⟨e, _⟩ | ⟨was, e, _⟩
          · rw [e]; exact h0
          · rw [e]; exact h0
        · omega
end Sto
end Go.Proofs.YtnnceaapodgfbaaGreatDoor
namespace Go.Proofs.YtnnceaapodgfbaaGreatDoor
open Go.RowKit
def restOf (a b : Int) : Int := if a.tmod b < 0 then a.tmod b + b else a.tmod b
theorem rest_any (a b : Int) (w : World) (hb : 0 < b) (hb2 : b ≤ 1073741824) : Calls Tryz.prog 29 #[.int .i64 a, .int .i64 b] w fun e w' => e = .returned (.int .i64 (restOf a b)) ∧ w = w' := by
  have h1 := Int.tmod_lt_of_pos a hb
  have h2 : -b < a.tmod b := by
    have := Int.lt_tmod_of_pos a hb
    omega
  have hb0 : (b == 0) = false := by rw [beq_eq_false_iff_ne]; omega
  by_cases h : a.tmod b < 0
  · have hr : restOf a b = a.tmod b + b := by unfold restOf; rw [if_pos h]
    have Hr := Lib.hid hr
    have q1 : IntKind.i64.wrap (a.tmod b) = a.tmod b := IntWalk.i64_in _ (by omega)
    have q2 : IntKind.i64.wrap (a.tmod b + b) = a.tmod b + b := IntWalk.i64_in _ (by omega)
    clear hr
    go_enter Tryz.func29, Tryz.ntmps29
    go_wp2_with fail
    go_ret
    exact ⟨congrArg (fun x => Ending.returned (Value.int .i64 x)) Hr.out.symm, rfl⟩
  · have hr : restOf a b = a.tmod b := by unfold restOf; rw [if_neg h]
    have Hr := Lib.hid hr
    have q1 : IntKind.i64.wrap (a.tmod b) = a.tmod b := IntWalk.i64_in _ (by omega)
    clear hr
    go_enter Tryz.func29, Tryz.ntmps29
    go_wp2_with fail
    go_ret
    exact ⟨congrArg (fun x => Ending.returned (Value.int .i64 x)) Hr.out.symm, rfl⟩
end Go.Proofs.YtnnceaapodgfbaaGreatDoor
namespace Go.Proofs.YtnnceaapodgfbaaGreatDoor
namespace Sto
open Go.RowKit
theorem restOf_mod {a b : Int} (hb : 0 < b) : restOf a b = a % b := by
  unfold restOf
  rw [Int.tmod_eq_emod]
  have h1 := Int.emod_nonneg a (by omega : b ≠ 0)
  have h2 := Int.emod_lt_of_pos a hb
  have h3 : (b.natAbs : Int) = b := by omega
  (repeat' split) <;> omega
theorem step_any (a b : Int) (w : World) (hb : 0 < b) (hb2 : b ≤ 1073741824) : Calls Tryz.prog 21 #[.int .i64 a, .int .i64 b] w fun e w' => e = .returned (.int .i64 (modI a b)) ∧ w = w' := by
  have H := Lib.hid (rest_any a b w hb hb2)
  rw [restOf_mod hb] at H
  have h1 := Int.emod_nonneg a (by omega : b ≠ 0)
  have h2 := Int.emod_lt_of_pos a hb
  have q1 : IntKind.i64.wrap (a % b) = a % b := IntWalk.i64_in _ (by omega)
  clear h1 h2
  go_enter Tryz.func21, Tryz.ntmps21
  go_wp2_with fail
  refine H.out.mono ?_
  rintro E w1 ⟨rfl, rfl⟩
  go_wp2_with fail
  go_ret
  exact ⟨rfl, rfl⟩
theorem did_box {D D' E : Dom} {w w2 w3 w4 : World} {g go : Nat} {T : Told} {u1 u2 u3 : Value} (hb : Below w.heap.size w w2) (hD : ∀ b, D b → b < w.heap.size) (hgo : w.heap.size ≤ go ∧ go < w2.heap.size) (h1 : StoreAt D' w3 g T.1) (h2 : ObjIn E w3 u1 u2 u3 T.2.1) (h3 : ∀ b, E b → w2.heap.size ≤ b ∧ b < w3.heap.size ∧ ¬ D' b) (h4 : ∀ b, D' b → D b ∨ w2.heap.size ≤ b) (h5 : Only D w2 w3) (ht : Touch go w3 w4) :
    Did D w g T (.returned (.tuple #[objW T.2.1 u1 u2 u3, .int .i64 T.2.2])) w4 := by
  have s1 := hb.size
  have s2 := ht.size
  have n1 : ∀ b, D' b → b ≠ go := fun b hb9 e => by
    rcases h4 b hb9 with h | h
    · have := hD b h; omega
    · omega
  refine ⟨D', E, u1, u2, u3, rfl, h1.agree (fun b hb9 => ht.other b (n1 b hb9)) (by omega), h2.agree fun b hb9 => ht.other b fun e => by have := (h3 b hb9).1; omega, fun b hb9 => ?_, fun b hb9 => ?_, ?_⟩
  · obtain ⟨e1, e2, e3⟩ := h3 b hb9
    exact ⟨by omega, by omega, e3⟩
  · rcases h4 b hb9 with h | h
    · exact .inl h
    · exact .inr (by omega)
  · have x1 : Only D w w3 := Only.after hb h5
    exact x1.trans (Only.touch (D := fun b => b = go) ht rfl) fun b hb hl => by omega
def stepW (x : GStoreStep) (v1 v2 v3 : Value) : Value := .agg (.int .i64 x.kind :: .int .i64 x.rev :: objCs x.o v1 v2 v3).toArray
set_option maxRecDepth 100000 in
set_option maxHeartbeats 3200000 in
theorem do_any {D : Dom} {w0 w : World} {g : Nat} {S : St} (h : StoreAt D w g S) (hH : Home w0 D w) (hS : OkSt S) (hrv : S.rev ≤ 4194303) (x : GStoreStep) (v1 v2 v3 : Value) (hl : RowAt LabelR 2 w v1 x.o.labels) (ho : StrAt w v2 x.o.owners) (hh : StrAt w v3 x.o.holds) (hok : OkObj x.o) :
    Calls Tryz.prog 20 #[.pointer (some ⟨g, 0, none⟩), stepW x v1 v2 v3] w (Did D w g (doS S x)) := by
  obtain ⟨a1, c1, rfl, -, -⟩ := hl.len
  obtain ⟨a2, c2, rfl, -, -⟩ := ho.row.len
  obtain ⟨a3, c3, rfl, -, -⟩ := hh.row.len
  obtain ⟨n1, Hn1⟩ : ∃ n, Hid (x.o.labels.length = n) := ⟨_, Lib.hid rfl⟩
  obtain ⟨n2, Hn2⟩ : ∃ n, Hid (x.o.owners.length = n) := ⟨_, Lib.hid rfl⟩
  obtain ⟨n3, Hn3⟩ : ∃ n, Hid (x.o.holds.length = n) := ⟨_, Lib.hid rfl⟩
  rw [Hn1.out] at hl
  rw [Hn2.out] at ho
  rw [Hn3.out] at hh
  rw [Hn1.out, Hn2.out, Hn3.out]
  obtain ⟨T, HT⟩ : ∃ T, Hid (doS S x = T) := ⟨_, Lib.hid rfl⟩
  rw [HT.out]
  obtain ⟨w1, hw1⟩ : ∃ w1, w1 = (w.alloc (.cells #[.int .i64 x.kind, .int .i64 x.rev, .string x.o.okey.kind, .string x.o.okey.space, .string x.o.okey.name, .slice a1 n1 c1, .slice a2 n2 c2, .slice a3 n3 c3, .bool x.o.ending, .string x.o.uid, .int .i64 x.o.rev, .string x.o.doc] 40)).alloc (.cells noA 30) := ⟨_, rfl⟩
  obtain ⟨gx, hgx⟩ : ∃ gx, gx = w.heap.size := ⟨_, rfl⟩
  obtain ⟨go, hgo⟩ : ∃ go, go = w.heap.size + 1 := ⟨_, rfl⟩
  have XO : Hid (w1.heap[gx]? = some (.cells #[.int .i64 x.kind, .int .i64 x.rev, .string x.o.okey.kind, .string x.o.okey.space, .string x.o.okey.name, .slice a1 n1 c1, .slice a2 n2 c2, .slice a3 n3 c3, .bool x.o.ending, .string x.o.uid, .int .i64 x.o.rev, .string x.o.doc] 40 (0, 0))) := Lib.hid (by rw [hw1, hgx]; exact heap_alloc_old (heap_alloc_new w _))
  have RO : Hid (w1.heap[go]? = some (.cells noA 30 (0, 0))) := Lib.hid (by rw [hw1, hgo]; exact heap_alloc_at (World.size_alloc _ _).symm)
  have hb1 : Below w.heap.size w w1 := by rw [hw1]; exact ((Below.refl _ w).alloc (Nat.le_refl _) _).alloc (by rw [World.size_alloc]; omega) _
  have hgw : w.heap.size ≤ go := by omega
  have hs1 : go < w1.heap.size := by rw [hw1, World.size_alloc, World.size_alloc]; omega
  have HB := Lib.hid hb1
  have HS := Lib.hid hS
  have HA := Lib.hid h
  have HH := Lib.hid (hH.below hb1)
  have HA1 := Lib.hid (h.belowW hb1)
  have HL := Lib.hid (hl.below stays_label hb1)
  have HO := Lib.hid (ho.below hb1)
  have HHh := Lib.hid (hh.below hb1)
  have Hok := Lib.hid hok
  have HSt := fun w => Lib.hid (step_any x.kind 4 w (by decide) (by decide))
  obtain ⟨kd, Hkd⟩ : ∃ kd, Hid (modI x.kind 4 = kd) := ⟨_, Lib.hid rfl⟩
  rw [Hkd.out] at HSt
  clear hb1 h hS hH hl ho hh hok
  rw [show stepW x (.slice a1 n1 c1) (.slice a2 n2 c2) (.slice a3 n3 c3) = .agg #[.int .i64 x.kind, .int .i64 x.rev, .string x.o.okey.kind, .string x.o.okey.space, .string x.o.okey.name, .slice a1 n1 c1, .slice a2 n2 c2, .slice a3 n3 c3, .bool x.o.ending, .string x.o.uid, .int .i64 x.o.rev, .string x.o.doc] from rfl]
  go_enter Tryz.func20, Tryz.ntmps20
  go_upto_region 1 with fail
  have hex : ((w.alloc (.cells #[.int .i64 x.kind, .int .i64 x.rev, .string x.o.okey.kind, .string x.o.okey.space, .string x.o.okey.name, .slice a1 n1 c1, .slice a2 n2 c2, .slice a3 n3 c3, .bool x.o.ending, .string x.o.uid, .int .i64 x.o.rev, .string x.o.doc] 40)).alloc (.cells #[.string { data := #[] }, .string { data := #[] }, .string { data := #[] }, .slice none 0 0, .slice none 0 0, .slice none 0 0, .bool false, .string { data := #[] }, .int .i64 0, .string { data := #[] }] 30)) = w1 := hw1.symm
  rw [hex]
  try rw [← hgo]
  rw [← hgx]
  clear hw1 hex hgx hgo
  have cc := fun i => cell_block XO.out i
  go_wp2_with fail
  refine (HSt _).out.mono ?_
  rintro E w2 ⟨rfl, hw2⟩
  subst hw2
  clear HSt
  by_cases hk0 : kd = 0
  · subst hk0
    have HTE : Hid (T = create S x.o) := Lib.hid (by rw [← HT.out]; unfold doS; rw [Hkd.out, if_pos rfl])
    have HX := Lib.hid (by have h9 := create_any HA1.out HH.out HS.out hrv x.o (.slice a1 n1 c1) (.slice a2 n2 c2) (.slice a3 n3 c3) HL.out HO.out HHh.out Hok.out; rw [show objW x.o (.slice a1 n1 c1) (.slice a2 n2 c2) (.slice a3 n3 c3) = .agg #[.string x.o.okey.kind, .string x.o.okey.space, .string x.o.okey.name, .slice a1 n1 c1, .slice a2 n2 c2, .slice a3 n3 c3, .bool x.o.ending, .string x.o.uid, .int .i64 x.o.rev, .string x.o.doc] from rfl] at h9; exact h9)
    clear HT
    go_wp2_with fail
    refine HX.out.mono ?_
    rintro E w3 ⟨D9, E9, u1, u2, u3, rfl, k1, k2, k3, k4, k5⟩
    have K1 := Lib.hid k1
    have K2 := Lib.hid k2
    have K3 := Lib.hid k3
    have K4 := Lib.hid k4
    have K5 := Lib.hid k5
    have R3 : Hid (w3.heap[go]? = some (.cells noA 30 (0, 0))) := Lib.hid ((k5.block go (by omega) fun hm => by have := HA.out.low hm; omega).trans RO.out)
    clear k1 k2 k3 k4 k5 HX
    rw [← HTE.out] at K1 K2 ⊢
    obtain ⟨TO9, HTO⟩ : ∃ y, Hid (T.2.1 = y) := ⟨_, Lib.hid rfl⟩
    obtain ⟨TE9, HTE9⟩ : ∃ y, Hid (T.2.2 = y) := ⟨_, Lib.hid rfl⟩
    rw [HTO.out, HTE9.out]
    go_wp2_with (refine wpList_store_box (by rfl) _ _ _ (by rfl) go (objCs TO9 u1 u2 u3).toArray (by rfl) (by rfl) _ _ (by exact R3.out) (by exact Tryz.sizeObj) (by rfl) (by rw [← HTO.out]; exact objA_ones K2.out) ?_)
    intro WF bF tF
    have BF := Lib.hid bF
    have TF := Lib.hid tF
    clear bF tF
    go_wp2_with fail
    refine bodyPost_ret (v := .tuple #[objW TO9 u1 u2 u3, .int .i64 TE9]) ?_ rfl ?_
    · exact results_two_obj Tryz.results20 _ _ go _ (by rfl) BF.out rfl
    · rw [← HTO.out, ← HTE9.out]
      exact did_box HB.out (fun b hb => HA.out.low hb) ⟨hgw, hs1⟩ K1.out K2.out K3.out K4.out K5.out TF.out
  · have p0 : (kd == 0) = false := by rw [beq_eq_false_iff_ne]; exact hk0
    by_cases hk1 : kd = 1
    · subst hk1
      clear p0
      have HTE : Hid (T = update S x.o) := Lib.hid (by rw [← HT.out]; unfold doS; rw [Hkd.out, if_neg (by decide), if_pos rfl])
      have HX := Lib.hid (by have h9 := update_any HA1.out HH.out HS.out hrv x.o (.slice a1 n1 c1) (.slice a2 n2 c2) (.slice a3 n3 c3) HL.out HO.out HHh.out Hok.out; rw [show objW x.o (.slice a1 n1 c1) (.slice a2 n2 c2) (.slice a3 n3 c3) = .agg #[.string x.o.okey.kind, .string x.o.okey.space, .string x.o.okey.name, .slice a1 n1 c1, .slice a2 n2 c2, .slice a3 n3 c3, .bool x.o.ending, .string x.o.uid, .int .i64 x.o.rev, .string x.o.doc] from rfl] at h9; exact h9)
      clear HT
      go_wp2_with fail
      refine HX.out.mono ?_
      rintro E w3 ⟨D9, E9, u1, u2, u3, rfl, k1, k2, k3, k4, k5⟩
      have K1 := Lib.hid k1
      have K2 := Lib.hid k2
      have K3 := Lib.hid k3
      have K4 := Lib.hid k4
      have K5 := Lib.hid k5
      have R3 : Hid (w3.heap[go]? = some (.cells noA 30 (0, 0))) := Lib.hid ((k5.block go (by omega) fun hm => by have := HA.out.low hm; omega).trans RO.out)
      clear k1 k2 k3 k4 k5 HX
      rw [← HTE.out] at K1 K2 ⊢
      obtain ⟨TO9, HTO⟩ : ∃ y, Hid (T.2.1 = y) := ⟨_, Lib.hid rfl⟩
      obtain ⟨TE9, HTE9⟩ : ∃ y, Hid (T.2.2 = y) := ⟨_, Lib.hid rfl⟩
      rw [HTO.out, HTE9.out]
      go_wp2_with (refine wpList_store_box (by rfl) _ _ _ (by rfl) go (objCs TO9 u1 u2 u3).toArray (by rfl) (by rfl) _ _ (by exact R3.out) (by exact Tryz.sizeObj) (by rfl) (by rw [← HTO.out]; exact objA_ones K2.out) ?_)
      intro WF bF tF
      have BF := Lib.hid bF
      have TF := Lib.hid tF
      clear bF tF
      go_wp2_with fail
      refine bodyPost_ret (v := .tuple #[objW TO9 u1 u2 u3, .int .i64 TE9]) ?_ rfl ?_
      · exact results_two_obj Tryz.results20 _ _ go _ (by rfl) BF.out rfl
      · rw [← HTO.out, ← HTE9.out]
        exact did_box HB.out (fun b hb => HA.out.low hb) ⟨hgw, hs1⟩ K1.out K2.out K3.out K4.out K5.out TF.out
    · have p1 : (kd == 1) = false := by rw [beq_eq_false_iff_ne]; exact hk1
      by_cases hk2 : kd = 2
      · subst hk2
        clear p0 p1
        have HTE : Hid (T = remove S x.o.okey x.rev) := Lib.hid (by rw [← HT.out]; unfold doS; rw [Hkd.out, if_neg (by decide), if_neg (by decide), if_pos rfl])
        have HX := Lib.hid (remove_any HA1.out HH.out HS.out hrv x.o.okey x.rev ⟨Hok.out.kind, Hok.out.space, Hok.out.name⟩)
        clear HT
        go_wp2_with fail
        refine HX.out.mono ?_
        rintro E w3 ⟨D9, E9, u1, u2, u3, rfl, k1, k2, k3, k4, k5⟩
        have K1 := Lib.hid k1
        have K2 := Lib.hid k2
        have K3 := Lib.hid k3
        have K4 := Lib.hid k4
        have K5 := Lib.hid k5
        have R3 : Hid (w3.heap[go]? = some (.cells noA 30 (0, 0))) := Lib.hid ((k5.block go (by omega) fun hm => by have := HA.out.low hm; omega).trans RO.out)
        clear k1 k2 k3 k4 k5 HX
        rw [← HTE.out] at K1 K2 ⊢
        obtain ⟨TO9, HTO⟩ : ∃ y, Hid (T.2.1 = y) := ⟨_, Lib.hid rfl⟩
        obtain ⟨TE9, HTE9⟩ : ∃ y, Hid (T.2.2 = y) := ⟨_, Lib.hid rfl⟩
        rw [HTO.out, HTE9.out]
        go_wp2_with (refine wpList_store_box (by rfl) _ _ _ (by rfl) go (objCs TO9 u1 u2 u3).toArray (by rfl) (by rfl) _ _ (by exact R3.out) (by exact Tryz.sizeObj) (by rfl) (by rw [← HTO.out]; exact objA_ones K2.out) ?_)
        intro WF bF tF
        have BF := Lib.hid bF
        have TF := Lib.hid tF
        clear bF tF
        go_wp2_with fail
        refine bodyPost_ret (v := .tuple #[objW TO9 u1 u2 u3, .int .i64 TE9]) ?_ rfl ?_
        · exact results_two_obj Tryz.results20 _ _ go _ (by rfl) BF.out rfl
        · rw [← HTO.out, ← HTE9.out]
          exact did_box HB.out (fun b hb => HA.out.low hb) ⟨hgw, hs1⟩ K1.out K2.out K3.out K4.out K5.out TF.out
      · have p2 : (kd == 2) = false := by rw [beq_eq_false_iff_ne]; exact hk2
        obtain ⟨rv, Hrv⟩ : ∃ rv, Hid (modI x.rev 3 = rv) := ⟨_, Lib.hid rfl⟩
        have HTE : Hid (T = (compact S rv, noObj, compactE S rv)) := Lib.hid (by rw [← HT.out, ← Hrv.out]; unfold doS; rw [Hkd.out, if_neg hk0, if_neg hk1, if_neg hk2])
        have HRe := fun w => Lib.hid (rest_any x.rev 3 w (by decide) (by decide))
        rw [restOf_mod (by decide), show x.rev % 3 = rv from Hrv.out] at HRe
        have HC := Lib.hid (compact_any HA1.out rv)
        have hr1 : 0 ≤ rv ∧ rv < 3 := by rw [← Hrv.out]; exact ⟨Int.emod_nonneg _ (by decide), Int.emod_lt_of_pos _ (by decide)⟩
        have q1 : IntKind.i64.wrap rv = rv := IntWalk.i64_in _ (by omega)
        clear HT hk0 hk1 hk2 hr1
        go_wp2_with fail
        refine (HRe _).out.mono ?_
        rintro E w2 ⟨rfl, hw2⟩
        subst hw2
        go_wp2_with fail
        refine HC.out.mono ?_
        rintro E w3 ⟨rfl, k1, k5⟩
        have K1 := Lib.hid k1
        have K5 := Lib.hid k5
        have R3 : Hid (w3.heap[go]? = some (.cells noA 30 (0, 0))) := Lib.hid ((k5.block go (by omega) fun hm => by have := HA.out.low hm; omega).trans RO.out)
        clear k1 k5 HC HRe q1
        go_wp2_with (refine wpList_store_box (by rfl) _ _ _ (by rfl) go noA (by rfl) (by rfl) _ _ (by exact R3.out) (by exact Tryz.sizeObj) (by rfl) (by simp [Value.oneCell', noA]) ?_)
        intro WF bF tF
        have BF := Lib.hid bF
        have TF := Lib.hid tF
        clear bF tF
        go_wp2_with fail
        refine bodyPost_ret (v := .tuple #[.agg noA, .int .i64 (compactE S rv)]) ?_ rfl ?_
        · exact results_two_obj Tryz.results20 _ _ go _ (by rfl) BF.out rfl
        · rw [HTE.out]
          exact did_box (T := (compact S rv, noObj, compactE S rv)) (u1 := nilS) (u2 := nilS) (u3 := nilS) (E := fun _ => False) HB.out (fun b hb => HA.out.low hb) ⟨hgw, hs1⟩ K1.out (objIn_no _) (fun b hb => hb.elim) (fun b hb => .inl hb) K5.out TF.out
end Sto
end Go.Proofs.YtnnceaapodgfbaaGreatDoor
namespace Go.Proofs.YtnnceaapodgfbaaGreatDoor
namespace Sto
open Go.RowKit
def cmpI (a b : Int) : Int := if a < b then -1 else if b < a then 1 else 0
theorem nan_any (x : Int) (w : World) : Calls Tryz.prog 111 #[.int .i64 x] w fun e w' => e = .returned (.bool false) ∧ w = w' := by
  go_enter Tryz.func111, Tryz.ntmps111
  go_wp2_with fail
  go_ret
  exact ⟨by simp, rfl⟩
theorem cmpI_any (a b : Int) (w : World) : Calls Tryz.prog 85 #[.int .i64 a, .int .i64 b] w fun e w' => e = .returned (.int .i64 (cmpI a b)) ∧ w = w' := by
  have H := fun x (w : World) => Lib.hid (nan_any x w)
  go_enter Tryz.func85, Tryz.ntmps85
  go_wp2_with fail
  refine (H a w).out.mono ?_
  rintro E w1 ⟨rfl, rfl⟩
  go_wp2_with fail
  refine (H b w).out.mono ?_
  rintro E w1 ⟨rfl, rfl⟩
  by_cases h1 : a < b
  · have hc : Hid (cmpI a b = -1) := Lib.hid (by unfold cmpI; rw [if_pos h1])
    go_wp2_with fail
    go_ret
    exact ⟨by rw [hc.out]; rfl, rfl⟩
  · by_cases h2 : b < a
    · have hc : Hid (cmpI a b = 1) := Lib.hid (by unfold cmpI; rw [if_neg h1, if_pos h2])
      go_wp2_with fail
      go_ret
      exact ⟨by rw [hc.out]; rfl, rfl⟩
    · have hc : Hid (cmpI a b = 0) := Lib.hid (by unfold cmpI; rw [if_neg h1, if_neg h2])
      go_wp2_with fail
      go_ret
      exact ⟨by rw [hc.out]; rfl, rfl⟩
theorem at1_any (a rev : Int) (v0 v1 v2 v3 v4 v5 v6 v7 v8 v9 v10 : Value) (w : World) : Calls Tryz.prog 84 #[.agg #[.int .i64 a, v0, v1, v2, v3, v4, v5, v6, v7, v8, v9, v10], .int .i64 rev] w fun e w' => e = .returned (.int .i64 (cmpI a rev)) ∧ Below w.heap.size w w' := by
  have H := fun (w : World) => Lib.hid (cmpI_any a rev w)
  go_enter Tryz.func84, Tryz.ntmps84
  go_wp2_with fail
  refine (H _).out.mono ?_
  rintro E w1 ⟨rfl, rfl⟩
  go_wp2_with fail
  go_ret
  refine ⟨rfl, ?_⟩
  exact (Below.refl _ w).alloc (Nat.le_refl _) _
theorem cmpI_neg {a b : Int} : cmpI a b < 0 ↔ a < b := by unfold cmpI; (repeat' split) <;> omega
theorem cmpI_nil {a b : Int} : cmpI a b = 0 ↔ a = b := by unfold cmpI; (repeat' split) <;> omega
theorem ver_cells {I : Dom} {w w' : World} {va : Option Addr} {vn vc : Nat} {T : TypeId} {vs : List GEvent} (h : OwnAt (VerX I w) 12 w 0 T (.slice va vn vc) vs) (hn : vn = vs.length) (hb : Below w.heap.size w w') {m : Nat} {e : GEvent} (he : vs[m]? = some e) :
    ∃ b o v1 v2 v3, va = some ⟨b, o, none⟩ ∧ ObjIn I w v1 v2 v3 e.object ∧ ∀ i u, (Value.int .i64 e.rev :: (objCs e.object v1 v2 v3 ++ [.bool (decide (e.kind = 3))]))[i]? = some u → w'.cell? ⟨b, o + m * 12 + i, none⟩ = some u := by
  have hm := (List.getElem?_eq_some_iff.1 he).1
  obtain ⟨b, o, c', hv, _, _, hbs, hcell⟩ := h.row.form (by omega) (by omega)
  injection hv with u1 u2 u3
  obtain ⟨ds, _, hcc, v1, v2, v3, rfl, hobj⟩ := hcell m e he
  exact ⟨b, o, v1, v2, v3, u1, hobj, fun i u hu => (hb.cell (p := ⟨b, _, none⟩) hbs).trans (hcc i u hu)⟩
set_option maxRecDepth 100000 in
set_option maxHeartbeats 1600000 in
theorem bsearch_any {I : Dom} {w : World} {va : Option Addr} {vn vc : Nat} {T : TypeId} {vs : List GEvent} (h : OwnAt (VerX I w) 12 w 0 T (.slice va vn vc) vs) (hn : vn = vs.length) (hsz : vn ≤ 4194304) (hrise : ∀ (a b : Nat) (x y : GEvent), a < b → vs[a]? = some x → vs[b]? = some y → x.rev < y.rev) (rev : Int) :
    Calls Tryz.prog 83 #[.slice va vn vc, .int .i64 rev, .func (.func 84) #[] #[]] w fun e w' => Below w.heap.size w w' ∧ ∃ i is, e = .returned (.tuple #[.int .i64 (i : Nat), .bool is]) ∧ i ≤ vn ∧ (∀ t x, t < i → vs[t]? = some x → x.rev < rev) ∧ (∀ t x, i ≤ t → vs[t]? = some x → rev ≤ x.rev) ∧ (is = true ↔ ∃ x, vs[i]? = some x ∧ x.rev = rev) := by
  have HR := Lib.hid h
  have HM := Lib.hid hrise
  have HN := Lib.hid hn
  clear h hrise
  clear hn
  go_enter Tryz.func83, Tryz.ntmps83
  go_wp2_with fail
  go_loopg [9, 10] vn (fun kx s9 s10 wr => ∃ lo hi : Nat, s9 = .int .i64 lo ∧ s10 = .int .i64 hi ∧ lo ≤ hi ∧ hi ≤ vn ∧ hi - lo ≤ kx ∧ Hid (Below w.heap.size w wr) ∧ Hid ((∀ t x, t < lo → vs[t]? = some x → x.rev < rev) ∧ (∀ t x, hi ≤ t → vs[t]? = some x → rev ≤ x.rev)))
  case atStart => exact ⟨0, vn, rfl, rfl, Nat.zero_le _, Nat.le_refl _, by omega, Lib.hid (Below.refl _ w), Lib.hid ⟨fun t x ht => absurd ht (Nat.not_lt_zero _), fun t x h1 h2 => by have := (List.getElem?_eq_some_iff.1 h2).1; have := HN.out; omega⟩⟩
  case round =>
    obtain ⟨lo, hi, rfl, rfl, hlh, hin, hg, HB, HF⟩ := hrel
    by_cases hlt : lo < hi
    · obtain ⟨md, Hmd⟩ : ∃ md : Nat, Hid (md = (lo + hi) / 2) := ⟨_, Lib.hid rfl⟩
      have m1 : lo ≤ md ∧ md < hi := by have := Hmd.out; omega
      obtain ⟨e, he⟩ : ∃ e, vs[md]? = some e := ⟨vs[md]'(by have := HN.out; omega), List.getElem?_eq_getElem _⟩
      obtain ⟨b, o, v1, v2, v3, hva, hobj, ec⟩ := ver_cells HR.out HN.out HB.out he
      have HE := Lib.hid he
      have hmd : ((lo : Int) + (hi : Int)) / 2 = (md : Int) := by rw [Hmd.out]; omega
      obtain ⟨rv, Hrv⟩ : ∃ rv, Hid (e.rev = rv) := ⟨_, Lib.hid rfl⟩
      rw [Hrv.out] at ec
      have f0 := ec 0 _ rfl
      have f1 := ec 1 _ rfl
      have f2 := ec 2 _ rfl
      have f3 := ec 3 _ rfl
      have f4 := ec 4 _ rfl
      have f5 := ec 5 _ rfl
      have f6 := ec 6 _ rfl
      have f7 := ec 7 _ rfl
      have f8 := ec 8 _ rfl
      have f9 := ec 9 _ rfl
      have f10 := ec 10 _ rfl
      have f11 := ec 11 _ rfl
      rw [Nat.add_zero] at f0
      subst hva
      clear ec hobj he
      have HA := fun wr => Lib.hid (at1_any rv rev (.string e.object.okey.kind) (.string e.object.okey.space) (.string e.object.okey.name) v1 v2 v3 (.bool e.object.ending) (.string e.object.uid) (.int .i64 e.object.rev) (.string e.object.doc) (.bool (decide (e.kind = 3))) wr)
      by_cases hc : cmpI rv rev < 0
      · have Hc := Lib.hid (cmpI_neg.1 hc)
        go_wp2_with fail
        refine (HA _).out.mono ?_
        rintro E w' ⟨rfl, hb⟩
        have HB' := Lib.hid (HB.out.trans (hb.mono HB.out.size))
        clear hb
        go_wp2_with fail
        go_roundg (hi - (md + 1))
        case measure => omega
        case rel =>
          exact ⟨md + 1, hi, by simp, rfl, by omega, hin, Nat.le_refl _, HB', Lib.hid ⟨fun t x ht hx => by
            rcases Nat.lt_or_ge t md with h1 | h1
            · have := HM.out t md x e h1 hx HE.out; have := Hrv.out; have := Hc.out; omega
            · have h2 : t = md := by omega
              rw [h2, HE.out] at hx
              cases hx
              rw [Hrv.out]
              exact Hc.out, HF.out.2⟩⟩
      · have Hc : Hid (rev ≤ rv) := Lib.hid (Int.not_lt.1 fun h => hc (cmpI_neg.2 h))
        go_wp2_with fail
        refine (HA _).out.mono ?_
        rintro E w' ⟨rfl, hb⟩
        have HB' := Lib.hid (HB.out.trans (hb.mono HB.out.size))
        clear hb
        go_wp2_with fail
        go_roundg (md - lo)
        case measure => omega
        case rel =>
          exact ⟨lo, md, rfl, rfl, by omega, by omega, Nat.le_refl _, HB', Lib.hid ⟨HF.out.1, fun t x ht hx => by
            rcases Nat.lt_or_ge md t with h1 | h1
            · have := HM.out md t e x h1 HE.out hx; have := Hrv.out; have := Hc.out; omega
            · have h2 : t = md := by omega
              rw [h2, HE.out] at hx
              cases hx
              rw [Hrv.out]
              exact Hc.out⟩⟩
    · obtain rfl : hi = lo := by omega
      by_cases hn : hi < vn
      · obtain ⟨e, he⟩ : ∃ e, vs[hi]? = some e := ⟨vs[hi]'(by have := HN.out; omega), List.getElem?_eq_getElem _⟩
        obtain ⟨b, o, v1, v2, v3, hva, hobj, ec⟩ := ver_cells HR.out HN.out HB.out he
        have HE := Lib.hid he
        obtain ⟨rv, Hrv⟩ : ∃ rv, Hid (e.rev = rv) := ⟨_, Lib.hid rfl⟩
        rw [Hrv.out] at ec
        have f0 := ec 0 _ rfl
        have f1 := ec 1 _ rfl
        have f2 := ec 2 _ rfl
        have f3 := ec 3 _ rfl
        have f4 := ec 4 _ rfl
        have f5 := ec 5 _ rfl
        have f6 := ec 6 _ rfl
        have f7 := ec 7 _ rfl
        have f8 := ec 8 _ rfl
        have f9 := ec 9 _ rfl
        have f10 := ec 10 _ rfl
        have f11 := ec 11 _ rfl
        rw [Nat.add_zero] at f0
        subst hva
        clear ec hobj he
        have HA := fun wr => Lib.hid (at1_any rv rev (.string e.object.okey.kind) (.string e.object.okey.space) (.string e.object.okey.name) v1 v2 v3 (.bool e.object.ending) (.string e.object.uid) (.int .i64 e.object.rev) (.string e.object.doc) (.bool (decide (e.kind = 3))) wr)
        go_wp2_with fail
        refine (HA _).out.mono ?_
        rintro E w' ⟨rfl, hb⟩
        have HB' := Lib.hid (HB.out.trans (hb.mono HB.out.size))
        clear hb
        go_wp2_with fail
        go_ret2
        exact ⟨HB'.out, hi, cmpI rv rev == 0, rfl, hin, HF.out.1, HF.out.2, ⟨fun h => ⟨e, HE.out, by rw [Hrv.out]; exact cmpI_nil.1 (eq_of_beq h)⟩, fun ⟨x, h1, h2⟩ => by rw [HE.out] at h1; cases h1; rw [← h2, Hrv.out]; exact beq_iff_eq.2 (cmpI_nil.2 rfl)⟩⟩
      · go_wp2_with fail
        go_ret2
        exact ⟨HB.out, hi, false, rfl, hin, HF.out.1, HF.out.2, ⟨fun h => (by cases h), fun ⟨x, h1, h2⟩ => by have := (List.getElem?_eq_some_iff.1 h1).1; have := HN.out; omega⟩⟩
end Sto
end Go.Proofs.YtnnceaapodgfbaaGreatDoor
namespace Go.Proofs.YtnnceaapodgfbaaGreatDoor
namespace Sto
open Go.RowKit
theorem filter_split {α : Type} {p : α → Bool} : ∀ {l : List α} {j : Nat}, (∀ (t : Nat) (x : α), t < j → l[t]? = some x → p x = true) → (∀ (t : Nat) (x : α), j ≤ t → l[t]? = some x → p x = false) → l.filter p = l.take j
  | [], j, _, _ => by rw [List.take_nil]; rfl
  | a :: l, 0, _, h2 => by
    rw [List.filter_cons_of_neg (by rw [h2 0 a (Nat.le_refl _) rfl]; decide), filter_split (l := l) (j := 0) (fun t x ht => absurd ht (Nat.not_lt_zero _)) fun t x _ hx => h2 (t + 1) x (Nat.zero_le _) (by rw [List.getElem?_cons_succ]; exact hx)]
    rfl
  | a :: l, j + 1, h1, h2 => by
    rw [List.filter_cons_of_pos (h1 0 a (by omega) rfl), filter_split (l := l) (j := j) (fun t x ht hx => h1 (t + 1) x (by omega) (by rw [List.getElem?_cons_succ]; exact hx)) fun t x ht hx => h2 (t + 1) x (by omega) (by rw [List.getElem?_cons_succ]; exact hx)]
    rfl
theorem Good.revAt {S : St} (h : Good S) {i : Nat} {e : GEvent} (he : S.log[i]? = some e) : e.rev = (i : Int) + 1 := by
  have h1 := (h.step i e he).1
  rw [List.length_take, Nat.min_eq_left (by have := (List.getElem?_eq_some_iff.1 he).1; omega)] at h1
  exact h1
theorem hits_take {S : St} (h : Good S) (n : Nat) (k : GKey) : hits (S.log.take n) k = (hits S.log k).filter fun e => decide (e.rev ≤ (n : Int)) := by
  have h0 : S.log.take n = S.log.filter fun e => decide (e.rev ≤ (n : Int)) := (filter_split (fun t x ht hx => decide_eq_true (by have := h.revAt hx; omega)) fun t x ht hx => decide_eq_false (by have := h.revAt hx; omega)).symm
  rw [h0]
  unfold hits
  rw [List.filter_filter, List.filter_filter]
  congr 1
  funext e
  exact Bool.and_comm _ _
theorem hits_rise {S : St} (h : Good S) (k : GKey) : ∀ (a b : Nat) (x y : GEvent), a < b → (hits S.log k)[a]? = some x → (hits S.log k)[b]? = some y → x.rev < y.rev := by
  have h1 : S.log.Pairwise fun x y => x.rev < y.rev := List.pairwise_iff_getElem.2 fun i j hi hj hij => by
    have := h.revAt (List.getElem?_eq_getElem hi)
    have := h.revAt (List.getElem?_eq_getElem hj)
    omega
  have h2 : (hits S.log k).Pairwise fun x y => x.rev < y.rev := h1.filter _
  intro a b x y hab hx hy
  obtain ⟨ha, rfl⟩ := List.getElem?_eq_some_iff.1 hx
  obtain ⟨hb, rfl⟩ := List.getElem?_eq_some_iff.1 hy
  exact List.pairwise_iff_getElem.1 h2 a b ha hb hab
theorem at_find {S : St} (h : Good S) {k : GKey} {n i : Nat} {is : Bool} (h1 : ∀ (t : Nat) (x : GEvent), t < i → (hits S.log k)[t]? = some x → x.rev < (n : Int)) (h2 : ∀ (t : Nat) (x : GEvent), i ≤ t → (hits S.log k)[t]? = some x → (n : Int) ≤ x.rev) (h3 : is = true ↔ ∃ x, (hits S.log k)[i]? = some x ∧ x.rev = (n : Int)) :
    hits (S.log.take n) k = (hits S.log k).take (if is = true then i + 1 else i) := by
  rw [hits_take h]
  cases is with
  | true =>
    rw [if_pos rfl]
    obtain ⟨x, hx, hn⟩ := h3.1 rfl
    refine filter_split (fun t y ht hy => decide_eq_true ?_) fun t y ht hy => decide_eq_false ?_
    · rcases Nat.lt_or_ge t i with h4 | h4
      · have := h1 t y h4 hy; omega
      · have h5 : t = i := by omega
        rw [h5, hx] at hy; cases hy; omega
    · have := hits_rise h k i t x y (by omega) hx hy; omega
  | false =>
    rw [if_neg (by decide)]
    refine filter_split (fun t y ht hy => decide_eq_true ?_) fun t y ht hy => decide_eq_false ?_
    · have := h1 t y ht hy; omega
    · have h4 := h2 t y ht hy
      intro h5
      have h6 : y.rev = n := by omega
      rcases Nat.lt_or_ge i t with h7 | h7
      · obtain ⟨x, hx⟩ : ∃ x, (hits S.log k)[i]? = some x := ⟨_, List.getElem?_eq_getElem (by have := (List.getElem?_eq_some_iff.1 hy).1; omega)⟩
        have := hits_rise h k i t x y h7 hx hy
        have := h2 i x (Nat.le_refl _) hx
        omega
      · have h8 : t = i := by omega
        rw [h8] at hy
        have := h3.2 ⟨y, hy, h6⟩
        cases this
theorem at_none {S : St} {k : GKey} {n : Nat} (h : hits (S.log.take n) k = []) : atR S k n = none := by unfold atR cur; rw [h]; rfl
theorem at_some {S : St} {k : GKey} {n m : Nat} {e : GEvent} (h : hits (S.log.take n) k = (hits S.log k).take (m + 1)) (he : (hits S.log k)[m]? = some e) : atR S k n = shown e := by
  unfold atR
  refine curL_last ?_
  rw [h, take_snoc he, List.getLast?_concat]
theorem copyO_any {I : Dom} {v1 v2 v3 : Value} {w : World} {o : GObject} (h : ObjIn I w v1 v2 v3 o) (hok : OkObj o) :
    Calls Tryz.prog 65 #[objW o v1 v2 v3] w fun e w' => ∃ E u1 u2 u3, e = .returned (objW o u1 u2 u3) ∧ ObjIn E w' u1 u2 u3 o ∧ (∀ b, E b → w.heap.size ≤ b ∧ b < w'.heap.size) ∧ Below w.heap.size w w' := by
  refine (storeCopy_any o.okey v1 v2 v3 o.ending o.uid o.rev o.doc o.labels o.owners o.holds w h.rowL h.rowO h.rowH (by have := hok.labels.1; omega) (by have := hok.owners.1; omega) (by have := hok.holds.1; omega)).mono ?_
  rintro E w' ⟨u1, u2, u3, rfl, k1, k2, k3, -, hb⟩
  refine ⟨fun b => u1.ownBlock = some b ∨ u2.ownBlock = some b ∨ u3.ownBlock = some b, u1, u2, u3, rfl, ⟨OwnX.ofFlat k1 fun b hb => .inl hb, OwnX.ofFlat k2 fun b hb => .inr (.inl hb), OwnX.ofFlat k3 fun b hb => .inr (.inr hb)⟩, fun b hb9 => ?_, hb⟩
  rcases hb9 with h9 | h9 | h9
  · exact ⟨(k1.at h9).1, (k1.at h9).2.1⟩
  · exact ⟨(k2.at h9).1, (k2.at h9).2.1⟩
  · exact ⟨(k3.at h9).1, (k3.at h9).2.1⟩
theorem hobj9 {I : Dom} {w w' : World} {v1 v2 v3 : Value} {x : GObject} (h : ObjIn I w v1 v2 v3 x) (hb : Below w.heap.size w w') : ObjIn (fun _ => True) w' v1 v2 v3 x := by
  obtain ⟨⟨h1, -⟩, ⟨h2, -⟩, ⟨h3, -⟩⟩ := h
  exact ⟨⟨h1.stay flat_label fun b h9 => hb.block b (h1.at h9).2.1, fun _ _ => trivial⟩, ⟨h2.stay flat_string fun b h9 => hb.block b (h2.at h9).2.1, fun _ _ => trivial⟩, ⟨h3.stay flat_string fun b h9 => hb.block b (h3.at h9).2.1, fun _ _ => trivial⟩⟩
theorem row_on {I : Dom} {w w' : World} {T : TypeId} {v : Value} {vs : List GEvent} (h : OwnAt (VerX I w) 12 w 0 T v vs) (hb : Below w.heap.size w w') : OwnAt (VerX (fun _ => True) w') 12 w' 0 T v vs :=
  (h.stay (famVer.flat I w) fun b h9 => hb.block b (h.at h9).2.1).imp' fun cs x _ hx => by
    obtain ⟨v1, v2, v3, e1, e2⟩ := hx
    exact ⟨v1, v2, v3, e1, hobj9 e2 hb⟩
set_option maxRecDepth 100000 in
set_option maxHeartbeats 3200000 in
theorem at_any {D : Dom} {w : World} {g : Nat} {S : St} (h : StoreAt D w g S) (hS : OkSt S) (k : GKey) (hk : okKey k) (n : Nat) :
    Calls Tryz.prog 49 #[.pointer (some ⟨g, 0, none⟩), .agg #[.string k.kind, .string k.space, .string k.name], .int .i64 (n : Nat)] w fun e w' => Below w.heap.size w w' ∧ ((atR S k n = none ∧ e = .returned (.tuple #[noW, .bool false])) ∨ ∃ o E u1 u2 u3, atR S k n = some o ∧ e = .returned (.tuple #[objW o u1 u2 u3, .bool true]) ∧ ObjIn E w' u1 u2 u3 o ∧ ∀ b, E b → w.heap.size ≤ b ∧ b < w'.heap.size) := by
  obtain ⟨M, I, mb, nn, f, vlog, hin, -⟩ := h
  obtain ⟨va, vn, vc, hlook, hvn, hrow⟩ := hin.look k hk
  have hvl : vn ≤ 4194304 := by rw [hvn]; exact Nat.le_trans (List.length_filter_le _ _) hS.rev
  obtain ⟨w1, hw1⟩ : ∃ w1, w1 = (w.alloc (.cells #[.string k.kind, .string k.space, .string k.name] 24)).alloc (.cells noA 30) := ⟨_, rfl⟩
  obtain ⟨gk, hgk⟩ : ∃ gk, gk = w.heap.size := ⟨_, rfl⟩
  obtain ⟨go, hgo⟩ : ∃ go, go = w.heap.size + 1 := ⟨_, rfl⟩
  have bk : w1.heap[gk]? = some (.cells #[.string k.kind, .string k.space, .string k.name] 24 (0, 0)) := by rw [hw1, hgk]; exact heap_alloc_old (heap_alloc_new w _)
  have bo : w1.heap[go]? = some (.cells noA 30 (0, 0)) := by rw [hw1, hgo]; exact heap_alloc_at (World.size_alloc _ _).symm
  have hb1 : Below w.heap.size w w1 := by rw [hw1]; exact ((Below.refl _ w).alloc (Nat.le_refl _) _).alloc (by rw [World.size_alloc]; omega) _
  have bg := below_block hb1 hin.box
  have cg := fun i => cell_block bg i
  have ck := fun i => cell_block bk i
  have hgw : w.heap.size ≤ go := by omega
  have hs1 : go < w1.heap.size := by rw [hw1, World.size_alloc, World.size_alloc]; omega
  have Hlook := Lib.hid hlook
  have HR := Lib.hid hrow
  have Hvn := Lib.hid hvn
  have BO := Lib.hid bo
  have HB1 := Lib.hid hb1
  have HS := Lib.hid hS
  clear hin hk hlook hrow hvn bo hb1 bk bg hS
  go_enter Tryz.func49, Tryz.ntmps49
  go_upto_region 1 with fail
  have hex : ((w.alloc (.cells #[.string k.kind, .string k.space, .string k.name] 24)).alloc (.cells #[.string { data := #[] }, .string { data := #[] }, .string { data := #[] }, .slice none 0 0, .slice none 0 0, .slice none 0 0, .bool false, .string { data := #[] }, .int .i64 0, .string { data := #[] }] 30)) = w1 := hw1.symm
  rw [hex]
  try rw [← hgo]
  rw [← hgk]
  have hlk : ∀ n, (Instr.lookup 108 (.map (some mb)) (.agg #[.string k.kind, .string k.space, .string k.name]) false).run Tryz.prog (w1.drewN n) = .ok (.slice va vn vc) (w1.drewN n) := fun n => Hlook.out (w1.drewN n) (drewB HB1.out n)
  clear hw1 hex hgk hgo Hlook
  go_quiet (fail)
  have HB2 := Lib.hid (drewB HB1.out nq)
  have BO2 : Hid ((w1.drewN nq).heap[go]? = some (.cells noA 30 (0, 0))) := BO
  have hs2 : go < (w1.drewN nq).heap.size := hs1
  obtain ⟨w2, hw2⟩ : ∃ w2, w1.drewN nq = w2 := ⟨_, rfl⟩
  rw [hw2] at HB2 BO2 hs2 ⊢
  clear hw2 hlk cg ck HB1 BO hs1
  have HBS := Lib.hid (bsearch_any (row_on HR.out HB2.out) Hvn.out hvl (hits_rise HS.out.good k) (n : Int))
  go_wp2_with fail
  refine HBS.out.mono ?_
  rintro E w3 ⟨hb3, i, is, rfl, hin, hlo, hhi, his⟩
  have HT := Lib.hid (at_find HS.out.good hlo hhi his)
  have HI : Hid (is = true → i < vn) := Lib.hid fun h9 => by obtain ⟨x, hx, -⟩ := his.1 h9; have := (List.getElem?_eq_some_iff.1 hx).1; have := Hvn.out; omega
  have BO := Lib.hid (below_block hb3 BO2.out)
  have HB := Lib.hid (HB2.out.trans (hb3.mono HB2.out.size))
  have hs3 : go < w3.heap.size := by have := hb3.size; omega
  clear hb3 hlo hhi his HBS BO2 HB2 hs2
  cases is with
  | true =>
    have hiv := HI.out rfl
    rw [if_pos rfl] at HT
    obtain ⟨e, he⟩ : ∃ e, (hits S.log k)[i]? = some e := ⟨_, List.getElem?_eq_getElem (by have := Hvn.out; omega)⟩
    clear HI
    obtain ⟨b, o, v1, v2, v3, hva, hobj, ec⟩ := ver_cells HR.out Hvn.out HB.out he
    have Hc9 := Lib.hid (at_some HT.out he)
    have hmem : e ∈ S.log := (List.mem_filter.1 (List.mem_of_getElem? he)).1
    have Hok : Hid (OkObj e.object) := Lib.hid (HS.out.obj e hmem)
    have e11 := ec 11 _ rfl
    subst hva
    obtain ⟨x, Hx⟩ : ∃ x, Hid (e.object = x) := ⟨_, Lib.hid rfl⟩
    have hkk : shown e = if decide (e.kind = 3) = true then none else some e.object := by unfold shown; by_cases h : e.kind = 3 <;> simp [h]
    rw [hkk] at Hc9
    rw [Hx.out] at hobj ec Hok Hc9
    have f1 := ec 1 _ rfl
    have f2 := ec 2 _ rfl
    have f3 := ec 3 _ rfl
    have f4 := ec 4 _ rfl
    have f5 := ec 5 _ rfl
    have f6 := ec 6 _ rfl
    have f7 := ec 7 _ rfl
    have f8 := ec 8 _ rfl
    have f9 := ec 9 _ rfl
    have f10 := ec 10 _ rfl
    have Hobj := Lib.hid hobj
    clear ec hobj hmem hkk he
    cases hk3 : decide (e.kind = 3) with
    | true =>
      rw [hk3] at e11 Hc9
      have Hc : Hid (atR S k n = none) := Lib.hid (by rw [Hc9.out]; rfl)
      clear hk3 Hc9 f1 f2 f3 f4 f5 f6 f7 f8 f9 f10
      go_wp2_with (refine wpList_store_box (by rfl) _ _ _ (by rfl) go noA (by rfl) (by rfl) _ _ (by exact BO.out) (by exact Tryz.sizeObj) (by rfl) (by simp [Value.oneCell', noA]) ?_)
      intro WF bF tF
      have HF := Lib.hid (tF.below HB.out hgw)
      go_wp2_with fail
      refine bodyPost_ret (v := .tuple #[.agg noA, .bool false]) ?_ rfl ?_
      · exact results_two_box Tryz.results49 _ _ go _ _ _ _ (by rfl) bF Tryz.underlying30 rfl (by exact Tryz.sizeObj)
      · exact ⟨HF.out, .inl ⟨Hc.out, rfl⟩⟩
    | false =>
      rw [hk3] at e11 Hc9
      have Hc : Hid (atR S k n = some x) := Lib.hid (by rw [Hc9.out]; rfl)
      have HCo := Lib.hid (copyO_any (hobj9 Hobj.out HB.out) Hok.out)
      rw [show objW x v1 v2 v3 = .agg (objCs x v1 v2 v3).toArray from rfl] at HCo
      unfold objCs at HCo
      clear hk3 Hc9
      go_wp2_with fail
      refine HCo.out.mono ?_
      rintro E w3 ⟨D3, u1, u2, u3, rfl, k1, k2, hb3⟩
      have K1 := Lib.hid k1
      have K2 := Lib.hid k2
      have BO3 := Lib.hid (below_block hb3 BO.out)
      have HB3 := Lib.hid (HB.out.trans (hb3.mono HB.out.size))
      have hs3 := HB.out.size
      clear k1 k2 hb3 HCo BO HB
      go_wp2_with (refine wpList_store_box (by rfl) _ _ _ (by rfl) go (objCs x u1 u2 u3).toArray (by rfl) (by rfl) _ _ (by exact BO3.out) (by exact Tryz.sizeObj) (by rfl) (objA_ones K1.out) ?_)
      intro WF bF tF
      have HF := Lib.hid (tF.below HB3.out hgw)
      have K1F := Lib.hid (K1.out.agree fun b hb => tF.other b fun e9 => by have := (K2.out b hb).1; omega)
      have hsF := tF.size
      go_wp2_with fail
      refine bodyPost_ret (v := .tuple #[objW x u1 u2 u3, .bool true]) ?_ rfl ?_
      · exact results_two_box Tryz.results49 _ _ go _ _ _ _ (by rfl) bF Tryz.underlying30 rfl (by exact Tryz.sizeObj)
      · exact ⟨HF.out, .inr ⟨x, D3, u1, u2, u3, Hc.out, rfl, K1F.out, fun b hb => ⟨by have := (K2.out b hb).1; omega, by rw [hsF]; exact (K2.out b hb).2⟩⟩⟩
  | false =>
    rw [if_neg (by decide)] at HT
    clear HI
    by_cases h0 : i = 0
    · subst h0
      have Hc : Hid (atR S k n = none) := Lib.hid (at_none (by rw [HT.out]; rfl))
      clear HT
      go_wp2_with (refine wpList_store_box (by rfl) _ _ _ (by rfl) go noA (by rfl) (by rfl) _ _ (by exact BO.out) (by exact Tryz.sizeObj) (by rfl) (by simp [Value.oneCell', noA]) ?_)
      intro WF bF tF
      have HF := Lib.hid (tF.below HB.out hgw)
      go_wp2_with fail
      refine bodyPost_ret (v := .tuple #[.agg noA, .bool false]) ?_ rfl ?_
      · exact results_two_box Tryz.results49 _ _ go _ _ _ _ (by rfl) bF Tryz.underlying30 rfl (by exact Tryz.sizeObj)
      · exact ⟨HF.out, .inl ⟨Hc.out, rfl⟩⟩
    · obtain ⟨m, rfl⟩ : ∃ m, i = m + 1 := ⟨i - 1, by omega⟩
      obtain ⟨e, he⟩ : ∃ e, (hits S.log k)[m]? = some e := ⟨_, List.getElem?_eq_getElem (by have := Hvn.out; omega)⟩
      have q0 : ((m + 1 : Nat) : Int) - 1 = (m : Int) := by omega
      obtain ⟨b, o, v1, v2, v3, hva, hobj, ec⟩ := ver_cells HR.out Hvn.out HB.out he
      have Hc9 := Lib.hid (at_some HT.out he)
      have hmem : e ∈ S.log := (List.mem_filter.1 (List.mem_of_getElem? he)).1
      have Hok : Hid (OkObj e.object) := Lib.hid (HS.out.obj e hmem)
      have e11 := ec 11 _ rfl
      subst hva
      obtain ⟨x, Hx⟩ : ∃ x, Hid (e.object = x) := ⟨_, Lib.hid rfl⟩
      have hkk : shown e = if decide (e.kind = 3) = true then none else some e.object := by unfold shown; by_cases h : e.kind = 3 <;> simp [h]
      rw [hkk] at Hc9
      rw [Hx.out] at hobj ec Hok Hc9
      have f1 := ec 1 _ rfl
      have f2 := ec 2 _ rfl
      have f3 := ec 3 _ rfl
      have f4 := ec 4 _ rfl
      have f5 := ec 5 _ rfl
      have f6 := ec 6 _ rfl
      have f7 := ec 7 _ rfl
      have f8 := ec 8 _ rfl
      have f9 := ec 9 _ rfl
      have f10 := ec 10 _ rfl
      have Hobj := Lib.hid hobj
      clear ec hobj hmem hkk he
      cases hk3 : decide (e.kind = 3) with
      | true =>
        rw [hk3] at e11 Hc9
        have Hc : Hid (atR S k n = none) := Lib.hid (by rw [Hc9.out]; rfl)
        clear hk3 Hc9 f1 f2 f3 f4 f5 f6 f7 f8 f9 f10
        go_wp2_with (refine wpList_store_box (by rfl) _ _ _ (by rfl) go noA (by rfl) (by rfl) _ _ (by exact BO.out) (by exact Tryz.sizeObj) (by rfl) (by simp [Value.oneCell', noA]) ?_)
        intro WF bF tF
        have HF := Lib.hid (tF.below HB.out hgw)
        go_wp2_with fail
        refine bodyPost_ret (v := .tuple #[.agg noA, .bool false]) ?_ rfl ?_
        · exact results_two_box Tryz.results49 _ _ go _ _ _ _ (by rfl) bF Tryz.underlying30 rfl (by exact Tryz.sizeObj)
        · exact ⟨HF.out, .inl ⟨Hc.out, rfl⟩⟩
      | false =>
        rw [hk3] at e11 Hc9
        have Hc : Hid (atR S k n = some x) := Lib.hid (by rw [Hc9.out]; rfl)
        have HCo := Lib.hid (copyO_any (hobj9 Hobj.out HB.out) Hok.out)
        rw [show objW x v1 v2 v3 = .agg (objCs x v1 v2 v3).toArray from rfl] at HCo
        unfold objCs at HCo
        clear hk3 Hc9
        go_wp2_with fail
        refine HCo.out.mono ?_
        rintro E w3 ⟨D3, u1, u2, u3, rfl, k1, k2, hb3⟩
        have K1 := Lib.hid k1
        have K2 := Lib.hid k2
        have BO3 := Lib.hid (below_block hb3 BO.out)
        have HB3 := Lib.hid (HB.out.trans (hb3.mono HB.out.size))
        have hs3 := HB.out.size
        clear k1 k2 hb3 HCo BO HB
        go_wp2_with (refine wpList_store_box (by rfl) _ _ _ (by rfl) go (objCs x u1 u2 u3).toArray (by rfl) (by rfl) _ _ (by exact BO3.out) (by exact Tryz.sizeObj) (by rfl) (objA_ones K1.out) ?_)
        intro WF bF tF
        have HF := Lib.hid (tF.below HB3.out hgw)
        have K1F := Lib.hid (K1.out.agree fun b hb => tF.other b fun e9 => by have := (K2.out b hb).1; omega)
        have hsF := tF.size
        go_wp2_with fail
        refine bodyPost_ret (v := .tuple #[objW x u1 u2 u3, .bool true]) ?_ rfl ?_
        · exact results_two_box Tryz.results49 _ _ go _ _ _ _ (by rfl) bF Tryz.underlying30 rfl (by exact Tryz.sizeObj)
        · exact ⟨HF.out, .inr ⟨x, D3, u1, u2, u3, Hc.out, rfl, K1F.out, fun b hb => ⟨by have := (K2.out b hb).1; omega, by rw [hsF]; exact (K2.out b hb).2⟩⟩⟩
set_option maxRecDepth 100000 in
set_option maxHeartbeats 3200000 in
theorem get_any {D : Dom} {w : World} {g : Nat} {S : St} (h : StoreAt D w g S) (hS : OkSt S) (k : GKey) (hk : k.kind.size ≤ 1048576 ∧ k.space.size ≤ 1048576 ∧ k.name.size ≤ 1048576) (rev : Int) :
    Calls Tryz.prog 14 #[.pointer (some ⟨g, 0, none⟩), .agg #[.string k.kind, .string k.space, .string k.name], .int .i64 rev] w fun e w' => Below w.heap.size w w' ∧ ∃ E u1 u2 u3, e = .returned (.tuple #[objW (getO S k rev) u1 u2 u3, .int .i64 (getE S k rev)]) ∧ ObjIn E w' u1 u2 u3 (getO S k rev) ∧ ∀ b, E b → w.heap.size ≤ b ∧ b < w'.heap.size := by
  obtain ⟨er, Her⟩ : ∃ x, Hid (keyK k = x) := ⟨_, Lib.hid rfl⟩
  obtain ⟨ge, Hge⟩ : ∃ x, Hid (getE S k rev = x) := ⟨_, Lib.hid rfl⟩
  obtain ⟨gv, Hgv⟩ : ∃ x, Hid (getO S k rev = x) := ⟨_, Lib.hid rfl⟩
  rw [Hge.out, Hgv.out]
  have hokk : okKey k := ⟨by unfold maxLen; omega, by unfold maxLen; omega, by unfold maxLen; omega⟩
  obtain ⟨w1, hw1⟩ : ∃ w1, w1 = (w.alloc (.cells #[.string k.kind, .string k.space, .string k.name] 24)).alloc (.cells noA 30) := ⟨_, rfl⟩
  obtain ⟨gk, hgk⟩ : ∃ gk, gk = w.heap.size := ⟨_, rfl⟩
  obtain ⟨go, hgo⟩ : ∃ go, go = w.heap.size + 1 := ⟨_, rfl⟩
  have bk : Hid (w1.heap[gk]? = some (.cells #[.string k.kind, .string k.space, .string k.name] 24 (0, 0))) := Lib.hid (by rw [hw1, hgk]; exact heap_alloc_old (heap_alloc_new w _))
  have BO1 : Hid (w1.heap[go]? = some (.cells noA 30 (0, 0))) := Lib.hid (by rw [hw1, hgo]; exact heap_alloc_at (World.size_alloc _ _).symm)
  have hb1 : Below w.heap.size w w1 := by rw [hw1]; exact ((Below.refl _ w).alloc (Nat.le_refl _) _).alloc (by rw [World.size_alloc]; omega) _
  have hgw : w.heap.size ≤ go := by omega
  have hs1 : go < w1.heap.size := by rw [hw1, World.size_alloc, World.size_alloc]; omega
  have HB1 := Lib.hid hb1
  have HS := Lib.hid hS
  have HA := Lib.hid h
  have HC := Lib.hid (key_any k.kind k.space k.name w1 (by omega) (by omega) (by omega))
  have her0 : AuP.keyE k.kind.data.toList k.space.data.toList k.name.data.toList = er := Her.out
  rw [her0] at HC
  clear hb1 h hS her0 hk
  go_enter Tryz.func14, Tryz.ntmps14
  go_upto_region 1 with fail
  have hex : ((w.alloc (.cells #[.string k.kind, .string k.space, .string k.name] 24)).alloc (.cells #[.string { data := #[] }, .string { data := #[] }, .string { data := #[] }, .slice none 0 0, .slice none 0 0, .slice none 0 0, .bool false, .string { data := #[] }, .int .i64 0, .string { data := #[] }] 30)) = w1 := hw1.symm
  rw [hex]
  try rw [← hgo]
  rw [← hgk]
  clear hw1 hex hgk hgo
  have cc := fun i => cell_block bk.out i
  go_wp2_with fail
  refine HC.out.mono ?_
  rintro E w2 ⟨rfl, hb2⟩
  have B2 := Lib.hid (below_block hb2 bk.out)
  have BO2 := Lib.hid (below_block hb2 BO1.out)
  have HB2 := Lib.hid (HB1.out.trans (hb2.mono HB1.out.size))
  have hs2 : go < w2.heap.size := by have := hb2.size; omega
  clear hb2 HC cc bk BO1 HB1 hs1
  by_cases her : er = 0
  · subst her
    have cc := fun i => cell_block B2.out i
    have HTi := Lib.hid (time_any (HA.out.belowW HB2.out) rev)
    go_wp2_with fail
    refine HTi.out.mono ?_
    rintro E w3 ⟨rfl, hw3⟩
    subst hw3
    clear HTi
    obtain ⟨te, Hte⟩ : ∃ x, Hid (timeE S rev = x) := ⟨_, Lib.hid rfl⟩
    obtain ⟨tt, Htt⟩ : ∃ x, Hid (timeT S rev = x) := ⟨_, Lib.hid rfl⟩
    rw [Hte.out, Htt.out]
    by_cases hte : te = 0
    · subst hte
      have HAt := Lib.hid (at_any (HA.out.belowW HB2.out) HS.out k hokk tt)
      go_wp2_with fail
      refine HAt.out.mono ?_
      rintro E w3 ⟨hb3, hat⟩
      have BO3 := Lib.hid (below_block hb3 BO2.out)
      have HB3 := Lib.hid (HB2.out.trans (hb3.mono HB2.out.size))
      have hs3 : go < w3.heap.size := by have := hb3.size; omega
      have hs32 := hb3.size
      have hw2 := HB2.out.size
      clear hb3 HAt cc B2 BO2 HB2
      rcases hat with ⟨hc, rfl⟩ | ⟨o, D3, u1, u2, u3, hc, rfl, ho, hD⟩
      · have Hge9 : Hid (ge = 7) := Lib.hid (by rw [← Hge.out]; unfold getE; rw [Her.out, if_neg (by decide), Hte.out, if_neg (by decide), Htt.out, hc]; rfl)
        have Hgv9 : Hid (gv = noObj) := Lib.hid (by rw [← Hgv.out]; unfold getO; rw [Hge.out, Hge9.out]; rfl)
        rw [show noW = .agg noA from rfl]
        clear hc Her Hte Htt Hge Hgv
        have H7 := Lib.hid (heap_alloc_new w3 (.cells noA 30))
        have HB4 := Lib.hid (HB3.out.alloc (by omega) (.cells noA 30))
        have BO4 := Lib.hid (below_block ((Below.refl _ w3).alloc (Nat.le_refl _) (.cells noA 30)) BO3.out)
        have hs4 : (w3.alloc (.cells noA 30)).heap.size = w3.heap.size + 1 := World.size_alloc _ _
        go_wp2_with (refine wpList_store_box (by rfl) _ _ _ (by rfl) w3.heap.size noA (by rfl) (by rfl) _ _ (by exact H7.out) (by exact Tryz.sizeObj) (by rfl) (by simp [Value.oneCell', noA]) ?_)
        intro w5 b5 t5
        have Z5 := Lib.hid b5
        have BO5 := Lib.hid (t5.block BO4.out (by omega))
        have HB5 := Lib.hid (t5.below HB4.out (by omega))
        have hs5 : w5.heap.size = w3.heap.size + 1 := t5.size.trans hs4
        clear b5 t5 hs4 H7 BO4 BO3 HB4 HB3
        go_wp2_with (refine wpList_store_box (by rfl) _ _ _ (by rfl) go noA (by rfl) (by rfl) _ _ (by exact BO5.out) (by exact Tryz.sizeObj) (by rfl) (by simp [Value.oneCell', noA]) ?_)
        intro WF bF tF
        have BF := Lib.hid bF
        have HF := Lib.hid (tF.below HB5.out hgw)
        clear bF tF
        go_wp2_with fail
        refine bodyPost_ret (v := .tuple #[.agg noA, .int .i64 7]) ?_ rfl ?_
        · exact results_two_obj Tryz.results14 _ _ go _ (by rfl) BF.out rfl
        · rw [Hge9.out, Hgv9.out]
          exact ⟨HF.out, fun _ => False, nilS, nilS, nilS, rfl, objIn_no _, fun b hb => hb.elim⟩
      · have Hge9 : Hid (ge = 0) := Lib.hid (by rw [← Hge.out]; unfold getE; rw [Her.out, if_neg (by decide), Hte.out, if_neg (by decide), Htt.out, hc]; rfl)
        have Hgv9 : Hid (gv = o) := Lib.hid (by rw [← Hgv.out]; unfold getO; rw [Hge.out, Hge9.out, if_pos rfl, Htt.out, hc]; rfl)
        have HO := Lib.hid ho
        have HDd := Lib.hid hD
        clear hc ho hD Her Hte Htt Hge Hgv
        have H7 := Lib.hid (heap_alloc_new w3 (.cells noA 30))
        have HB4 := Lib.hid (HB3.out.alloc (by omega) (.cells noA 30))
        have BO4 := Lib.hid (below_block ((Below.refl _ w3).alloc (Nat.le_refl _) (.cells noA 30)) BO3.out)
        have hs4 : (w3.alloc (.cells noA 30)).heap.size = w3.heap.size + 1 := World.size_alloc _ _
        have K4 := Lib.hid (HO.out.agree fun b hb => ((Below.refl _ w3).alloc (Nat.le_refl _) (.cells noA 30)).block b (HDd.out b hb).2)
        go_wp2_with (refine wpList_store_box (by rfl) _ _ _ (by rfl) w3.heap.size (objCs o u1 u2 u3).toArray (by rfl) (by rfl) _ _ (by exact H7.out) (by exact Tryz.sizeObj) (by rfl) (objA_ones HO.out) ?_)
        intro w5 b5 t5
        have Z5 := Lib.hid b5
        have BO5 := Lib.hid (t5.block BO4.out (by omega))
        have HB5 := Lib.hid (t5.below HB4.out (by omega))
        have K5 := Lib.hid (K4.out.agree fun b hb => t5.other b fun e9 => by have := (HDd.out b hb).2; omega)
        have hs5 : w5.heap.size = w3.heap.size + 1 := t5.size.trans hs4
        clear b5 t5 hs4 H7 BO4 BO3 HB4 HB3
        obtain ⟨g9, hg9⟩ : ∃ g9, w3.heap.size = g9 := ⟨_, rfl⟩
        have ZE : Hid (w5.heap[g9]? = some (.cells (objCs o u1 u2 u3).toArray 30 (0, 0))) := Lib.hid (by rw [← hg9]; exact Z5.out)
        have hOw : ∀ b, D3 b → b < g9 := fun b hb => by have := (HDd.out b hb).2; omega
        rw [hg9]
        unfold objCs at ZE
        have cz := fun i => cell_block ZE.out i
        clear Z5 hg9
        go_wp2_with (refine wpList_store_box (by rfl) _ _ _ (by rfl) go (objCs o u1 u2 u3).toArray (by rfl) (by rfl) _ _ (by exact BO5.out) (by exact Tryz.sizeObj) (by rfl) (objA_ones HO.out) ?_)
        intro WF bF tF
        have HF := Lib.hid (tF.below HB5.out hgw)
        have K1F := Lib.hid (K5.out.agree fun b hb => tF.other b fun e9 => by have := (HDd.out b hb).1; omega)
        have hsF := tF.size
        have HD9 : Hid (∀ b, D3 b → w.heap.size ≤ b ∧ b < WF.heap.size) := Lib.hid fun b hb => ⟨by have := (HDd.out b hb).1; omega, by have := (HDd.out b hb).2; omega⟩
        go_wp2_with fail
        refine bodyPost_ret (v := .tuple #[objW o u1 u2 u3, .int .i64 0]) ?_ rfl ?_
        · exact results_two_obj Tryz.results14 _ _ go _ (by rfl) bF rfl
        · rw [Hge9.out, Hgv9.out]
          exact ⟨HF.out, D3, u1, u2, u3, rfl, K1F.out, HD9.out⟩
    · have q0 : (te == 0) = false := by rw [beq_eq_false_iff_ne]; exact hte
      have q1 : (te != 0) = true := bne_iff_ne.2 hte
      have Hge9 : Hid (ge = te) := Lib.hid (by rw [← Hge.out]; unfold getE; rw [Her.out, if_neg (by decide), Hte.out, if_pos hte])
      have Hgv9 : Hid (gv = noObj) := Lib.hid (by rw [← Hgv.out]; unfold getO; rw [Hge.out, Hge9.out, if_neg hte])
      have BO5 := BO2
      have HB5 := HB2
      clear hte Her Hte Htt Hge Hgv cc
      go_wp2_with (refine wpList_store_box (by rfl) _ _ _ (by rfl) go noA (by rfl) (by rfl) _ _ (by exact BO5.out) (by exact Tryz.sizeObj) (by rfl) (by simp [Value.oneCell', noA]) ?_)
      intro WF bF tF
      have BF := Lib.hid bF
      have HF := Lib.hid (tF.below HB5.out hgw)
      clear bF tF
      go_wp2_with fail
      refine bodyPost_ret (v := .tuple #[.agg noA, .int .i64 te]) ?_ rfl ?_
      · exact results_two_obj Tryz.results14 _ _ go _ (by rfl) BF.out rfl
      · rw [Hge9.out, Hgv9.out]
        exact ⟨HF.out, fun _ => False, nilS, nilS, nilS, rfl, objIn_no _, fun b hb => hb.elim⟩
  · have q0 : (er == 0) = false := by rw [beq_eq_false_iff_ne]; exact her
    have q1 : (er != 0) = true := bne_iff_ne.2 her
    have Hge9 : Hid (ge = er) := Lib.hid (by rw [← Hge.out]; unfold getE; rw [Her.out, if_pos her])
    have Hgv9 : Hid (gv = noObj) := Lib.hid (by rw [← Hgv.out]; unfold getO; rw [Hge.out, Hge9.out, if_neg her])
    have BO5 := BO2
    have HB5 := HB2
    clear her Her Hge Hgv
    go_wp2_with (refine wpList_store_box (by rfl) _ _ _ (by rfl) go noA (by rfl) (by rfl) _ _ (by exact BO5.out) (by exact Tryz.sizeObj) (by rfl) (by simp [Value.oneCell', noA]) ?_)
    intro WF bF tF
    have BF := Lib.hid bF
    have HF := Lib.hid (tF.below HB5.out hgw)
    clear bF tF
    go_wp2_with fail
    refine bodyPost_ret (v := .tuple #[.agg noA, .int .i64 er]) ?_ rfl ?_
    · exact results_two_obj Tryz.results14 _ _ go _ (by rfl) BF.out rfl
    · rw [Hge9.out, Hgv9.out]
      exact ⟨HF.out, fun _ => False, nilS, nilS, nilS, rfl, objIn_no _, fun b hb => hb.elim⟩
end Sto
end Go.Proofs.YtnnceaapodgfbaaGreatDoor
namespace Go.Proofs.YtnnceaapodgfbaaGreatDoor
namespace Sto
open Go.RowKit
theorem uidOf_size (n : Nat) (h : n ≤ 4194304) : (uidOf n).size ≤ 32 := by
  unfold uidOf
  rw [mkB_size, List.length_cons]
  have := Lib.itoa_length_le (n : Int) (by omega) (by omega)
  omega
theorem okObj_put {n : Nat} {kind : Int} {o : GObject} (h : OkObj o) (hn : n ≤ 4194304) : OkObj (putO n kind o) :=
  ⟨h.kind, h.space, h.name, h.labels, h.owners, h.holds, by
    unfold putO
    dsimp only
    split
    · have := uidOf_size n hn; omega
    · exact h.uid, by unfold putO i64; dsimp only; exact decide_eq_true (by have h1 : IntKind.i64.max = 9223372036854775807 := rfl; have h2 : IntKind.i64.min = -9223372036854775808 := rfl; omega), h.doc⟩
theorem okSt0 : OkSt St0 := ⟨fun _ h => (by cases h), by decide, good0⟩
theorem okSt_put {S : St} {kind : Int} {o : GObject} (h : OkSt S) (ho : OkObj o) (hr : S.rev ≤ 4194303) : ∀ e ∈ (put S kind o).log, OkObj e.object := fun e he => by
  unfold put at he
  rcases List.mem_append.1 he with he | he
  · exact h.obj e he
  · rw [List.mem_singleton] at he
    subst he
    exact okObj_put ho (by omega)
theorem okSt_do {S : St} (h : OkSt S) {x : GStoreStep} (hx : OkObj x.o) (hr : S.rev ≤ 4194303) : OkSt (doS S x).1 := by
  refine ⟨?_, by have := (rev_do S x).2; omega, good_do h.good x⟩
  have hk := okObj_kept hx
  unfold doS
  split
  · rcases create_cases S x.o with ⟨h1, _⟩ | ⟨h1, _⟩
    · rw [h1]; exact h.obj
    · rw [h1]; exact okSt_put h ⟨hk.kind, hk.space, hk.name, hk.labels, hk.owners, hk.holds, hk.uid, hk.rev, hk.doc⟩ hr
  · split
    · rcases update_cases S x.o with ⟨h1, _⟩ | ⟨was, h1, _, h2, _⟩
      · rw [h1]; exact h.obj
      · obtain ⟨e, he, h9⟩ := cur_mem h2
        have hw : OkObj was := h9 ▸ h.obj e he
        rw [h1]; exact okSt_put h ⟨hk.kind, hk.space, hk.name, hk.labels, hk.owners, hk.holds, hw.uid, hk.rev, hk.doc⟩ hr
    · split
      · rcases remove_cases S x.o.okey x.rev with ⟨h1, _⟩ | ⟨was, h1, h2⟩
        · rw [h1]; exact h.obj
        · obtain ⟨e, he, h9⟩ := cur_mem h2
          rw [h1]; exact okSt_put h (h9 ▸ h.obj e he) hr
      · show ∀ e ∈ (compact S _).log, _
        rw [grow_compact]; exact h.obj
theorem run_snoc (S : St) (l : List GStoreStep) (x : GStoreStep) : run S (l ++ [x]) = (doS (run S l) x).1 := by
  induction l generalizing S with
  | nil => rfl
  | cons a r ih => exact ih _
theorem okSt_run {S : St} (h : OkSt S) : ∀ (l : List GStoreStep), (∀ x ∈ l, OkObj x.o) → S.rev + l.length ≤ 4194303 → OkSt (run S l)
  | [], _, _ => h
  | x :: r, hl, hn => by
    rw [List.length_cons] at hn
    exact okSt_run (okSt_do h (hl x List.mem_cons_self) (by omega)) r (fun y hy => hl y (List.mem_cons_of_mem _ hy)) (by have := (rev_do S x).2; omega)
theorem Tryz.sizeStep : (Tryz.prog.info? 40).map (·.size) = some 12 := by kernel_rfl
theorem step_cells {w w' : World} {va : Option Addr} {vn vc : Nat} {l : List GStoreStep} (h : RowAt StoreStepR 12 w (.slice va vn vc) l) (hn : l.length = vn) (hb : Below w.heap.size w w') {m : Nat} {x : GStoreStep} (he : l[m]? = some x) :
    ∃ b o v1 v2 v3, va = some ⟨b, o, none⟩ ∧ RowAt LabelR 2 w' v1 x.o.labels ∧ StrAt w' v2 x.o.owners ∧ StrAt w' v3 x.o.holds ∧ ∀ i u, (Value.int .i64 x.kind :: .int .i64 x.rev :: objCs x.o v1 v2 v3)[i]? = some u → w'.cell? ⟨b, o + m * 12 + i, none⟩ = some u := by
  have hm := (List.getElem?_eq_some_iff.1 he).1
  obtain ⟨b, o, c', hv, _, _, hbs, hcell⟩ := h.form (by omega) (by omega)
  injection hv with u1 u2 u3
  obtain ⟨ds, _, hcc, c2, rfl, _, _, v1, v2, v3, rfl, g1, g2, g3, _⟩ := hcell m x he
  exact ⟨b, o, v1, v2, v3, u1, g1.below stays_label hb, g2.below hb, g3.below hb, fun i u hu => (hb.cell (p := ⟨b, _, none⟩) hbs).trans (hcc i u hu)⟩
set_option maxRecDepth 100000 in
set_option maxHeartbeats 3200000 in
theorem stored_any (v : Value) (l : List GStoreStep) (w : World) (h : RowAt StoreStepR 12 w v l) (hl : l.length ≤ 4194303) (hok : ∀ x ∈ l, OkObj x.o) (hE : Env w) :
    Calls Tryz.prog 13 #[v] w fun e w' => ∃ g D, e = .returned (.pointer (some ⟨g, 0, none⟩)) ∧ StoreAt D w' g (run St0 l) ∧ (∀ b, D b → w.heap.size ≤ b) ∧ Below w.heap.size w w' := by
  obtain ⟨a1, c1, rfl, -, -⟩ := h.len
  obtain ⟨n, hn⟩ : ∃ n, l.length = n := ⟨_, rfl⟩
  rw [hn] at h hl ⊢
  have HR := Lib.hid h
  have HN := Lib.hid hn
  have Hok := Lib.hid hok
  have HEn := Lib.hid hE
  have HNew := fun w => Lib.hid (new_any w)
  have HK : ∀ w, Hid (Calls Tryz.prog 47 #[.agg #[.string { data := #[] }, .string { data := #[] }, .string { data := #[] }]] w fun e w' => e = .returned (.int .i64 6) ∧ Below w.heap.size w w') := fun w => Lib.hid (key_any ByteArray.empty ByteArray.empty ByteArray.empty w (by decide) (by decide) (by decide))
  clear h hn hok hE
  go_enter Tryz.func13, Tryz.ntmps13
  go_wp2_with fail
  refine (HNew _).out.mono ?_
  rintro E w1 ⟨g, D, rfl, hst, hlow, hb1⟩
  have HA := Lib.hid hst
  have HD := Lib.hid hlow
  have HB := Lib.hid hb1
  clear hst hlow hb1 HNew
  go_wp2_with fail
  refine (HK _).out.mono ?_
  rintro E w2 ⟨rfl, hb2⟩
  have HA2 := Lib.hid (HA.out.belowW hb2)
  have HB2 := Lib.hid (HB.out.trans (hb2.mono HB.out.size))
  clear hb2 HK HA HB
  go_wp2_with fail
  go_loopg [16] n (fun k u16 wr => ∃ (i : Nat) (D' : Dom), i + k = n ∧ u16 = .int .i64 (i : Int) ∧ Hid (StoreAt D' wr g (run St0 (l.take i))) ∧ Hid (∀ b, D' b → w.heap.size ≤ b) ∧ Hid (Below w.heap.size w wr))
  case atStart => exact ⟨0, D, by omega, rfl, HA2, HD, HB2⟩
  case round =>
    clear HA2 HB2 HD
    obtain ⟨i, D', hik, rfl, HA, HD, HB⟩ := hrel
    cases gk with
    | zero =>
      obtain rfl : n = i := by omega
      have HA9 : Hid (StoreAt D' wr g (run St0 l)) := Lib.hid (by have h9 := HA.out; rw [← HN.out, List.take_length] at h9; exact h9)
      go_wp2_with fail
      go_ret
      exact ⟨g, D', rfl, HA9.out, HD.out, HB.out⟩
    | succ k =>
      have hil : i < n := by omega
      obtain ⟨x, hx⟩ : ∃ x, l[i]? = some x := ⟨l[i]'(by rw [HN.out]; exact hil), List.getElem?_eq_getElem _⟩
      obtain ⟨b, o, v1, v2, v3, hva, g1, g2, g3, ec⟩ := step_cells HR.out HN.out HB.out hx
      subst hva
      obtain ⟨a7, c7, rfl, -, -⟩ := g1.len
      obtain ⟨a8, c8, rfl, -, -⟩ := g2.row.len
      obtain ⟨a9, c9, rfl, -, -⟩ := g3.row.len
      obtain ⟨n7, Hn7⟩ : ∃ n, Hid (x.o.labels.length = n) := ⟨_, Lib.hid rfl⟩
      obtain ⟨n8, Hn8⟩ : ∃ n, Hid (x.o.owners.length = n) := ⟨_, Lib.hid rfl⟩
      obtain ⟨n9, Hn9⟩ : ∃ n, Hid (x.o.holds.length = n) := ⟨_, Lib.hid rfl⟩
      rw [Hn7.out] at g1 ec
      rw [Hn8.out] at g2 ec
      rw [Hn9.out] at g3 ec
      have f0 := ec 0 _ rfl
      have f1 := ec 1 _ rfl
      have f2 := ec 2 _ rfl
      have f3 := ec 3 _ rfl
      have f4 := ec 4 _ rfl
      have f5 := ec 5 _ rfl
      have f6 := ec 6 _ rfl
      have f7 := ec 7 _ rfl
      have f8 := ec 8 _ rfl
      have f9 := ec 9 _ rfl
      have f10 := ec 10 _ rfl
      have f11 := ec 11 _ rfl
      rw [Nat.add_zero] at f0
      have q1 : (0 : Int) ≤ (i : Int) := by omega
      have q2 : (i : Int) < (n : Int) := by omega
      have HX := Lib.hid hx
      have G1 := Lib.hid g1
      have G2 := Lib.hid g2
      have G3 := Lib.hid g3
      have H7 := Lib.hid (heap_alloc_new wr (.cells #[.int .i64 0, .int .i64 0, .string { data := #[] }, .string { data := #[] }, .string { data := #[] }, .slice none 0 0, .slice none 0 0, .slice none 0 0, .bool false, .string { data := #[] }, .int .i64 0, .string { data := #[] }] 40))
      have hb4 : Below wr.heap.size wr (wr.alloc (.cells #[.int .i64 0, .int .i64 0, .string { data := #[] }, .string { data := #[] }, .string { data := #[] }, .slice none 0 0, .slice none 0 0, .slice none 0 0, .bool false, .string { data := #[] }, .int .i64 0, .string { data := #[] }] 40)) := (Below.refl _ wr).alloc (Nat.le_refl _) _
      have HB4 := Lib.hid hb4
      have hs4 : (wr.alloc (.cells #[.int .i64 0, .int .i64 0, .string { data := #[] }, .string { data := #[] }, .string { data := #[] }, .slice none 0 0, .slice none 0 0, .slice none 0 0, .bool false, .string { data := #[] }, .int .i64 0, .string { data := #[] }] 40)).heap.size = wr.heap.size + 1 := World.size_alloc _ _
      have HokX : Hid (OkObj x.o) := Lib.hid (Hok.out x (List.mem_of_getElem? hx))
      have HSi : Hid (OkSt (run St0 (l.take i))) := Lib.hid (okSt_run okSt0 _ (fun y hy => Hok.out y (List.mem_of_mem_take hy)) (by show 0 + _ ≤ _; rw [List.length_take]; have := HN.out; omega))
      have Hrev : Hid ((run St0 (l.take i)).rev ≤ 4194303) := Lib.hid (by have h9 := rev_run St0 (l.take i); have h8 : St0.rev = 0 := rfl; rw [List.length_take] at h9; have := HN.out; omega)
      clear hx ec g1 g2 g3 hb4
      go_wp2_with (refine wpList_store_box (by rfl) _ _ _ (by rfl) wr.heap.size #[.int .i64 x.kind, .int .i64 x.rev, .string x.o.okey.kind, .string x.o.okey.space, .string x.o.okey.name, .slice a7 n7 c7, .slice a8 n8 c8, .slice a9 n9 c9, .bool x.o.ending, .string x.o.uid, .int .i64 x.o.rev, .string x.o.doc] (by rfl) (by rfl) _ _ (by exact H7.out) (by exact Tryz.sizeStep) (by rfl) (by simp [Value.oneCell']) ?_)
      intro w5 b5 t5
      have B5 := Lib.hid b5
      have hbb : Below wr.heap.size wr w5 := t5.below HB4.out (Nat.le_refl _)
      have HB5 := Lib.hid hbb
      have hs5 : w5.heap.size = wr.heap.size + 1 := t5.size.trans hs4
      have HDo := Lib.hid (do_any (w0 := w) (HA.out.belowW hbb) ⟨HEn.out.1, HEn.out.2.2, HB.out.trans (hbb.mono HB.out.size), HD.out⟩ HSi.out Hrev.out x (.slice a7 n7 c7) (.slice a8 n8 c8) (.slice a9 n9 c9) (G1.out.below stays_label hbb) (G2.out.below hbb) (G3.out.below hbb) HokX.out)
      rw [show stepW x (.slice a7 n7 c7) (.slice a8 n8 c8) (.slice a9 n9 c9) = .agg #[.int .i64 x.kind, .int .i64 x.rev, .string x.o.okey.kind, .string x.o.okey.space, .string x.o.okey.name, .slice a7 n7 c7, .slice a8 n8 c8, .slice a9 n9 c9, .bool x.o.ending, .string x.o.uid, .int .i64 x.o.rev, .string x.o.doc] from rfl] at HDo
      clear b5 t5 hs4 H7 HB4 hbb f0 f1 f2 f3 f4 f5 f6 f7 f8 f9 f10 f11
      have cc := fun i => cell_block B5.out i
      go_wp2_with fail
      refine HDo.out.mono ?_
      rintro E w6 ⟨D9, E9, u1, u2, u3, rfl, k1, k2, k3, k4, k5⟩
      have hw := HB.out.size
      have K1 : Hid (StoreAt D9 w6 g (run St0 (l.take (i + 1)))) := Lib.hid (by rw [take_snoc HX.out, run_snoc]; exact k1)
      have K4 : Hid (∀ b, D9 b → w.heap.size ≤ b) := Lib.hid fun b hb => (k4 b hb).elim (HD.out b) fun h9 => by omega
      have K5 : Hid (Below w.heap.size w w6) := Lib.hid ((HB.out.trans (HB5.out.mono hw)).trans (k5.below HD.out (by omega)))
      clear k1 k2 k3 k4 k5 HDo cc
      go_wp2_with fail
      go_roundg k
      case measure => omega
      case rel => exact ⟨i + 1, D9, by omega, by simp, K1, K4, K5⟩
end Sto
end Go.Proofs.YtnnceaapodgfbaaGreatDoor
namespace Go.Proofs.YtnnceaapodgfbaaGreatDoor
namespace Sto
open Go.RowKit
theorem sum_mem {α : Type} {f : α → Nat} : ∀ {l : List α} {x : α}, x ∈ l → f x ≤ (l.map f).sum
  | a :: r, x, h => by
    rw [List.map_cons, List.sum_cons]
    rcases List.mem_cons.1 h with rfl | h
    · omega
    · have := sum_mem (f := f) h; omega
theorem sum_length {α : Type} {f : α → Nat} {c : Nat} : ∀ {l : List α}, (∀ x ∈ l, c ≤ f x) → l.length * c ≤ (l.map f).sum
  | [], _ => by simp
  | a :: r, h => by
    rw [List.map_cons, List.sum_cons, List.length_cons, Nat.add_mul, Nat.one_mul]
    have h1 := sum_length (f := f) (c := c) (l := r) fun x hx => h x (List.mem_cons_of_mem _ hx)
    have h2 := h a List.mem_cons_self
    omega
theorem okObj_bulk {o : GObject} (h : objectB o ≤ 1048576) (hr : i64 o.rev) : OkObj o := by
  unfold objectB keyB at h
  have h1 := sum_length (f := labelB) (c := 1) (l := o.labels) fun x _ => by unfold labelB; omega
  have h2 := total_length o.owners
  have h3 := total_length o.holds
  exact ⟨by omega, by omega, by omega, ⟨by omega, fun r hr => by have h5 := sum_mem (f := labelB) hr; have h6 : labelB r = ((r.key.size + 1) + ((r.val.size + 1) + 0)) + 1 := rfl; unfold okLab; omega⟩, ⟨by omega, fun s hs => by have := total_mem hs; omega⟩, ⟨by omega, fun s hs => by have := total_mem hs; omega⟩, by omega, hr, by omega⟩
theorem okSteps_bulk {w : World} {v : Value} {l : List GStoreStep} (h : RowAt StoreStepR 12 w v l) (hb : (l.map storeStepB).sum ≤ 1048576) : (∀ x ∈ l, OkObj x.o) ∧ l.length ≤ 1048576 := by
  have h0 := sum_length (f := storeStepB) (c := 1) (l := l) fun x _ => by unfold storeStepB; omega
  refine ⟨fun x hx => ?_, by omega⟩
  have h1 := sum_mem (f := storeStepB) hx
  have h6 : storeStepB x = (1 + (1 + (objectB x.o + 0))) + 1 := rfl
  refine okObj_bulk (by omega) ?_
  obtain ⟨a, c, rfl, _, _⟩ := h.len
  obtain ⟨i, hi, he⟩ := List.getElem_of_mem hx
  obtain ⟨b, o, c', hv, _, _, hbs, hcell⟩ := h.form (by omega) (by omega)
  obtain ⟨ds, _, hcc, c2, rfl, _, _, v1, v2, v3, rfl, g1, g2, g3, g4⟩ := hcell i x (by rw [List.getElem?_eq_getElem hi, he])
  exact g4
end Sto
end Go.Proofs.YtnnceaapodgfbaaGreatDoor
namespace Go.Proofs.YtnnceaapodgfbaaGreatDoor
open Go.Shelf
def Tryz.objSort_ren : Go.Shelf.Ren := ⟨fun | 6 => 63 | 15 => 92 | 14 => 91 | 28 => 126 | 29 => 127 | 20 => 118 | 21 => 119 | 22 => 120 | 23 => 121 | 24 => 122 | 25 => 123 | 26 => 124 | 27 => 125 | 46 => 149 | 47 => 150 | 48 => 151 | 49 => 152 | 50 => 153 | 57 => 178 | n => n, fun | 22 => 45 | 24 => 30 | 25 => 123 | 3 => 3 | 39 => 170 | 0 => 0 | 53 => 219 | 55 => 221 | 4 => 4 | 46 => 213 | 45 => 212 | 50 => 160 | 5 => 5 | 9 => 9 | 66 => 243 | 70 => 247 | 76 => 266 | 77 => 267 | n => n, fun | n => n⟩
theorem Tryz.objSort : Go.Proofs.SlLaysF0.n6 Tryz.prog Tryz.objSort_ren := {
  mixed := by kernel_rfl
  f6 := ⟨Tryz.f63.name, by decide, Tryz.func63.trans (congrArg some (by kernel_rfl))⟩
  f14 := ⟨Tryz.f91.name, by decide, Tryz.func91.trans (congrArg some (by kernel_rfl))⟩
  f15 := Tryz.func92.trans (congrArg some (by kernel_rfl))
  f20 := ⟨Tryz.f118.name, by decide, Tryz.func118.trans (congrArg some (by kernel_rfl))⟩
  f21 := ⟨Tryz.f119.name, by decide, Tryz.func119.trans (congrArg some (by kernel_rfl))⟩
  f22 := ⟨Tryz.f120.name, by decide, Tryz.func120.trans (congrArg some (by kernel_rfl))⟩
  f23 := ⟨Tryz.f121.name, by decide, Tryz.func121.trans (congrArg some (by kernel_rfl))⟩
  f24 := ⟨Tryz.f122.name, by decide, Tryz.func122.trans (congrArg some (by kernel_rfl))⟩
  f25 := ⟨Tryz.f123.name, by decide, Tryz.func123.trans (congrArg some (by kernel_rfl))⟩
  f26 := ⟨Tryz.f124.name, by decide, Tryz.func124.trans (congrArg some (by kernel_rfl))⟩
  f27 := ⟨Tryz.f125.name, by decide, Tryz.func125.trans (congrArg some (by kernel_rfl))⟩
  f28 := Tryz.func126.trans (congrArg some (by kernel_rfl))
  f29 := Tryz.func127.trans (congrArg some (by kernel_rfl))
  f46 := ⟨Tryz.f149.name, by decide, Tryz.func149.trans (congrArg some (by kernel_rfl))⟩
  f47 := Tryz.func150.trans (congrArg some (by kernel_rfl))
  f48 := Tryz.func151.trans (congrArg some (by kernel_rfl))
  f49 := ⟨Tryz.f152.name, by decide, Tryz.func152.trans (congrArg some (by kernel_rfl))⟩
  f50 := ⟨Tryz.f153.name, by decide, Tryz.func153.trans (congrArg some (by kernel_rfl))⟩
  f57 := ⟨Tryz.f178.name, by decide, Tryz.func178.trans (congrArg some (by kernel_rfl))⟩
  t0 := Tryz.underlying0
  a0 := Tryz.isAgg0
  z0 := Tryz.sizeOf0
  v0 := Tryz.zeroValue0
  t3 := Tryz.underlying3
  a3 := Tryz.isAgg3
  z3 := Tryz.sizeOf3
  v3 := Tryz.zeroValue3
  t4 := Tryz.underlying4
  a4 := Tryz.isAgg4
  z4 := Tryz.sizeOf4
  v4 := Tryz.zeroValue4
  t5 := Tryz.underlying5
  a5 := Tryz.isAgg5
  z5 := Tryz.sizeOf5
  v5 := Tryz.zeroValue5
  t9 := Tryz.underlying9
  a9 := Tryz.isAgg9
  z9 := Tryz.sizeOf9
  v9 := Tryz.zeroValue9
  t22 := Tryz.underlying45
  a22 := Tryz.isAgg45
  z22 := Tryz.sizeOf45
  v22 := Tryz.zeroValue45
  t25 := Tryz.underlying123
  a25 := Tryz.isAgg123
  z25 := Tryz.sizeOf123
  v25 := Tryz.zeroValue123
  t39 := Tryz.underlying170
  a39 := Tryz.isAgg170
  z39 := Tryz.sizeOf170
  v39 := Tryz.zeroValue170
  t45 := Tryz.underlying212
  a45 := Tryz.isAgg212
  z45 := Tryz.sizeOf212
  v45 := Tryz.zeroValue212
  t46 := Tryz.underlying213
  a46 := Tryz.isAgg213
  z46 := Tryz.sizeOf213
  v46 := Tryz.zeroValue213
  t50 := Tryz.underlying160
  a50 := Tryz.isAgg160
  z50 := Tryz.sizeOf160
  v50 := Tryz.zeroValue160
  t53 := Tryz.underlying219
  a53 := Tryz.isAgg219
  z53 := Tryz.sizeOf219
  v53 := Tryz.zeroValue219
  t55 := Tryz.underlying221
  a55 := Tryz.isAgg221
  z55 := Tryz.sizeOf221
  v55 := Tryz.zeroValue221
  t66 := Tryz.underlying243
  a66 := Tryz.isAgg243
  z66 := Tryz.sizeOf243
  v66 := Tryz.zeroValue243
  t70 := Tryz.underlying247
  a70 := Tryz.isAgg247
  z70 := Tryz.sizeOf247
  v70 := Tryz.zeroValue247
  t76 := Tryz.underlying266
  a76 := Tryz.isAgg266
  z76 := Tryz.sizeOf266
  v76 := Tryz.zeroValue266
  t77 := Tryz.underlying267
  a77 := Tryz.isAgg267
  z77 := Tryz.sizeOf267
  v77 := Tryz.zeroValue267 }
end Go.Proofs.YtnnceaapodgfbaaGreatDoor
