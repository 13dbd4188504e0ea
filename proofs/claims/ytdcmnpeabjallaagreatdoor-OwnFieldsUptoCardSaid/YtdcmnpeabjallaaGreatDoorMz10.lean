/- Texts of ours joined. -/
import Derived.Deep.LoopGhost
import Derived.WalkSpells
import Derived.Deep.DeepCutAuto
import Derived.Lib.SlicesS
import Derived.Deep.DeepAppendRoom
import Derived.Laws.MakeOwn
import Derived.Test.YtdcmnpeabjallaaGreatDoorMz9
set_option linter.unusedVariables false
set_option linter.unusedSimpArgs false
namespace Go.Proofs.YtdcmnpeabjallaaGreatDoor
open Go.RowKit Go.MapKept Go.ChangeMaps
open JP (JV Bs Lf)
theorem results_tmp4 {fn : Func} {t u v x : Tmp} (h : fn.results = #[.tmp t, .tmp u, .tmp v, .tmp x]) (tmps : Array Value) (P : Program) (w : World) :
    (results fn tmps).run P w = .ok (.tuple #[tmps.getD t undef, tmps.getD u undef, tmps.getD v undef, tmps.getD x undef]) w := by
  simp [results, h]
def AppliedTo (live : Bs) (l : List JP.OwnP) (m want : Bs) (force : Bool) (w : World) (e : Ending) (w' : World) : Prop :=
  ∃ (s : Bs) (vL vb : Value) (L : List JP.OwnP) (bad : List Bs) (er : Int) (wl : World), e = .returned (.tuple #[.string (mkB s), vL, vb, .int .i64 er]) ∧ JP.ApplyIs live l m want force s L bad er ∧
    OwnAt (OwnedX w.heap.size wl) 2 w' w.heap.size 30 vL L ∧ Below wl.heap.size wl w' ∧ OwnAt RString 1 w' w.heap.size 9 vb (bad.map mkB) ∧ Below w.heap.size w w' ∧ ((JP.readL live).2 = 0 → JP.GoodO l → NameP.check m = 0 → (JP.readL want).2 = 0 → ¬ (JP.kind (JP.readL live).1 = 6 ∧ JP.kind (JP.readL want).1 = 6) → er = 8)
def AskedTo (live : Bs) (l : List JP.OwnP) (m want : Bs) (i : Nat) : Prop := (JP.readL live).2 = 0 ∧ (1 ≤ i → JP.GoodO l) ∧ (2 ≤ i → NameP.check m = 0) ∧ (3 ≤ i → (JP.readL want).2 = 0)
theorem apply_no {live want : Bs} {l : List JP.OwnP} {m : Bs} {force : Bool} {w w' : World} {er : Int} (h0 : er ≠ 0) (h1 : er ≠ 11) (hm : ∀ W, JP.AppOK live want l m → JP.IsLeaves W (JP.readL want).1 → (JP.confL (JP.readL live).1 l m W = [] ∨ force = true) → (JP.finL (JP.readL live).1 l m W).length ≤ 6 → JP.tellE (JP.outV (JP.readL live).1 l m W) = 0 → False) (hb : Below w.heap.size w w') (hk : (JP.readL live).2 = 0 → JP.GoodO l → NameP.check m = 0 → (JP.readL want).2 = 0 → ¬ (JP.kind (JP.readL live).1 = 6 ∧ JP.kind (JP.readL want).1 = 6) → er = 8) :
    AppliedTo live l m want force w (.returned (.tuple #[.string (mkB []), .slice none 0 0, .slice none 0 0, .int .i64 er])) w' :=
  ⟨[], _, _, [], [], er, w', rfl, ⟨fun _ => ⟨rfl, rfl⟩, fun h => h.elim (fun h => absurd rfl h) fun h => absurd h h1, fun h => absurd h h0, fun W a b c d e => (hm W a b c d e).elim⟩, OwnAt.nil _, Below.refl _ _, OwnAt.nil _, hb, hk⟩
def blkOf (v : Value) : List Nat := match v.ownBlock with
  | some q => [q]
  | none => []
theorem blkOf_mem {v : Value} {b : Nat} : b ∈ blkOf v ↔ v.ownBlock = some b := by
  unfold blkOf
  cases v.ownBlock with
  | none => simp
  | some q =>
    rw [List.mem_singleton]
    exact ⟨fun e => by rw [e], fun e => (Option.some.inj e).symm⟩
theorem jv_appended {n : Nat} {u v v' : Value} {x : JV} {w w' : World} (h : JvAt n (blkOf u) w v x) (hg : w.grownBy w' u.ownBlock) (hl : v'.ownBlock = u.ownBlock ∨ v'.ownBlock = some w.heap.size) : JvAt n (blkOf v') w' v x := by
  have h1 : JvAt n (w.heap.size :: blkOf u) w v x := h.fresh fun b hb => by
    rcases List.mem_cons.1 hb with rfl | hb
    · exact .inr (Nat.le_refl _)
    · exact .inl hb
  have h2 : JvAt n (w.heap.size :: blkOf u) w' v x := h1.keepT ⟨hg.os, hg.tape, hg.output, hg.size, fun b hb hn => hg.block b hb fun e => hn (List.mem_cons_of_mem _ (blkOf_mem.2 e.symm))⟩
  refine h2.fresh fun b hb => .inl ?_
  have h3 := blkOf_mem.1 hb
  rcases hl with h4 | h4
  · rw [h4] at h3
    exact List.mem_cons_of_mem _ (blkOf_mem.2 h3)
  · rw [h4] at h3
    rw [← Option.some.inj h3]
    exact List.mem_cons_self ..
theorem apply_clash {live want : Bs} {l : List JP.OwnP} {m : Bs} {force : Bool} {w w' : World} {W C : List Leaf} {vb : Value} (hA : JP.AppOK live want l m) (hI : JP.IsLeaves W (JP.readL want).1) (hC : JP.confL (JP.readL live).1 l m W = C) (hne : C ≠ []) (hf : force = false) (hv : OwnAt RString 1 w' w.heap.size 9 vb ((C.map JP.pathL).map mkB)) (hb : Below w.heap.size w w') :
    AppliedTo live l m want force w (.returned (.tuple #[.string (mkB []), .slice none 0 0, vb, .int .i64 11])) w' := by
  have hne2 : C.map JP.pathL ≠ [] := fun e => hne (List.map_eq_nil_iff.1 e)
  refine ⟨[], _, _, [], C.map JP.pathL, 11, w', rfl, ⟨fun _ => ⟨rfl, rfl⟩, fun _ => ⟨rfl, hf, hA, W, hI, by rw [hC], hne2⟩, fun h => absurd h (by decide), fun V a b c d e => ?_⟩, OwnAt.nil _, Below.refl _ _, hv, hb, fun _ _ _ _ h => (h ⟨hA.2.2.2.2.1, hA.2.2.2.2.2⟩).elim⟩
  have := JP.leaves_one b hI
  subst this
  rw [hC, hf] at c
  rcases c with c | c
  · exact absurd c hne
  · cases c
theorem apply_yes {live want : Bs} {l L : List JP.OwnP} {m : Bs} {force : Bool} {w w' wl : World} {W : List Leaf} {vL : Value} {lo B : Nat} {t : Bs} (hA : JP.AppOK live want l m) (hI : JP.IsLeaves W (JP.readL want).1) (hgo : JP.confL (JP.readL live).1 l m W = [] ∨ force = true) (hL : L = JP.finL (JP.readL live).1 l m W) (h6 : L.length ≤ 6)
    (ht : JP.tellE (JP.outV (JP.readL live).1 l m W) = 0) (htt : t = JP.tellT (JP.outV (JP.readL live).1 l m W)) (hlo : w.heap.size ≤ lo) (hown : OwnAt (OwnedX lo wl) 2 w' B 30 vL L) (hB : w.heap.size ≤ B) (hwl : Below wl.heap.size wl w') (hb : Below w.heap.size w w') :
    AppliedTo live l m want force w (.returned (.tuple #[.string (mkB t), vL, .slice none 0 0, .int .i64 0])) w' := by
  refine ⟨t, vL, _, L, [], 0, wl, rfl, ⟨fun h => absurd rfl h, fun h => h.elim (fun h => absurd rfl h) fun h => absurd h (by decide), fun _ => ⟨hA, W, hI, hgo, by rw [← hL]; exact h6, ht, htt, hL⟩, fun _ _ _ _ _ _ => rfl⟩, ?_, hwl, OwnAt.nil _, hb, fun _ _ _ _ h => (h ⟨hA.2.2.2.2.1, hA.2.2.2.2.2⟩).elim⟩
  have h1 := hown.mono hB
  obtain ⟨css, h2, h3, h4, h5⟩ := h1
  exact ⟨css, h2, h3, h4, fun j cs y hcs hy => let ⟨v1, e1, e2⟩ := h5 j cs y hcs hy; ⟨v1, e1, e2.mono hlo⟩⟩
theorem keeps_turned {w w' : World} {b : Nat} (h : w.mapTurned w' b) : Keeps w w' := fun p v hp => by
  by_cases e : p.block = b
  · obtain ⟨es, clock, _, _, hb, _⟩ := h
    simp [World.cell?, e, hb] at hp
  · rw [World.cell?_of_block (turned_block h e)]; exact hp
theorem deal_turned {w w' : World} {g b n : Nat} {lv mv lf : Value} {m : Bs} {F : KB → Option Value} (h9 : DealAt w g lv mv m lf) (hm : MapS Tryz.prog 9 w b n F) (ht : w.mapTurned w' b) : DealAt w' g lv mv m lf := by
  unfold DealAt at h9 ⊢
  rw [turned_block ht (fun e => by
    rw [e] at h9
    obtain ⟨es, ck, h8⟩ := hm.isMap
    rw [h8] at h9; cases h9)]
  exact h9
structure AskAt (live : Bs) (l : List JP.OwnP) (m want : Bs) (g16 : Nat) (w4 : World) (i : Nat) (z : Int) (wr : World) : Prop where
  iff : z = 0 ↔ AskedTo live l m want i
  ne : z ≠ 11
  only : Only g16 (g16 + 1) w4 wr
  cell : ∃ wv, wr.heap[g16]? = some (.cells #[wv] 47 (0, 0)) ∧ (i = 3 → z = 0 → ∃ n, JvAt n [] wr wv (JP.readL want).1)
section
variable {live want m : Bs} {l : List JP.OwnP} {g16 i : Nat} {w4 wr w' : World} {z z' : Int}
theorem AskedTo.less (h : AskedTo live l m want (i + 1)) : AskedTo live l m want i := ⟨h.1, fun k => h.2.1 (by omega), fun k => h.2.2.1 (by omega), fun k => h.2.2.2 (by omega)⟩
theorem AskAt.skip (h : AskAt live l m want g16 w4 i z wr) (hz : z ≠ 0) : AskAt live l m want g16 w4 (i + 1) z wr :=
  ⟨⟨fun e => absurd e hz, fun a => h.iff.2 a.less⟩, h.ne, h.only, let ⟨wv, h1, _⟩ := h.cell; ⟨wv, h1, fun _ e => absurd e hz⟩⟩
theorem AskAt.one (h : AskAt live l m want g16 w4 0 z wr) (hz : z = 0) (hg : z' = 0 ↔ JP.GoodO l) (hn : z' ≠ 11) (hb : Below wr.heap.size wr w') : AskAt live l m want g16 w4 1 z' w' :=
  ⟨⟨fun e => ⟨(h.iff.1 hz).1, fun _ => hg.1 e, fun k => by omega, fun k => by omega⟩, fun a => hg.2 (a.2.1 (by omega))⟩, hn, h.only.trans (.of hb), let ⟨wv, h1, _⟩ := h.cell; ⟨wv, below_block hb h1, fun e => by omega⟩⟩
theorem AskAt.two (h : AskAt live l m want g16 w4 1 z wr) (hz : z = 0) (hc : NameP.check m = z') : AskAt live l m want g16 w4 2 z' wr :=
  ⟨⟨fun e => ⟨(h.iff.1 hz).1, fun _ => (h.iff.1 hz).2.1 (by omega), fun _ => hc.trans e, fun k => by omega⟩, fun a => hc.symm.trans (a.2.2.1 (by omega))⟩, by rw [← hc]; exact name_ne11 _, h.only, let ⟨wv, h1, _⟩ := h.cell; ⟨wv, h1, fun e => by omega⟩⟩
theorem AskAt.three (h : AskAt live l m want g16 w4 2 z wr) (hz : z = 0) (hw : ∃ wv, w'.heap[g16]? = some (.cells #[wv] 47 (0, 0)) ∧ ∃ n, JvAt n [] w' wv (JP.readL want).1) (ho : Only g16 (g16 + 1) wr w') : AskAt live l m want g16 w4 3 (JP.readL want).2 w' :=
  ⟨⟨fun e => ⟨(h.iff.1 hz).1, fun _ => (h.iff.1 hz).2.1 (by omega), fun _ => (h.iff.1 hz).2.2.1 (by omega), fun _ => e⟩, fun a => a.2.2.2 (by omega)⟩, JP.readL_ne _, h.only.trans ho, let ⟨wv, h1, h2⟩ := hw; ⟨wv, h1, fun _ _ => h2⟩⟩
end
theorem obj_form {n : Nat} {T : List Nat} {w : World} {v : Value} {x : JV} (h : JvAt n T w v x) (hk : JP.kind x = 6) : ∃ q, v = .iface 88 (.pointer (some ⟨q, 0, none⟩)) := by
  cases n with
  | zero => cases h
  | succ n =>
    cases x with
    | obj l => obtain ⟨q, h1, _⟩ := h; exact ⟨q, h1⟩
    | _ => cases hk
theorem deal_size {w : World} {g : Nat} {x : Obj} (h : w.heap[g]? = some x) : g < w.heap.size := by
  rcases Nat.lt_or_ge g w.heap.size with h1 | h1
  · exact h1
  · rw [Array.getElem?_eq_none h1] at h; cases h
set_option maxRecDepth 100000 in
set_option maxHeartbeats 25600000 in
theorem apply_any (live want : ByteArray) (v : Value) (l : List GOwned) (mb : Bs) (force : Bool) (w : World) (h : RowAt OwnedR 2 w v l) (hl : l.length ≤ 1048576) (hz : ∀ x ∈ l, x.manager.size ≤ 1048576 ∧ x.paths.length ≤ 1048576 ∧ ∀ p ∈ x.paths, p.size ≤ 1048576)
    (hlv : live.size ≤ 1048576) (hwt : want.size ≤ 1048576) (hmb : mb.length ≤ 1048576) (hE : Env w) :
    Calls Tryz.prog 13 #[.string live, v, .string (mkB mb), .string want, .bool force] w (AppliedTo live.data.toList (l.map oP) mb want.data.toList force w) := by
  obtain ⟨a1, c1, rfl, -, -⟩ := h.len
  obtain ⟨nO, hnO⟩ : ∃ n, l.length = n := ⟨_, rfl⟩
  rw [hnO] at h ⊢
  obtain ⟨w1, hw1⟩ : ∃ w1, w1 = ((w.alloc (.cells #[.slice a1 nO c1] 22)).alloc (.cells #[.string (mkB mb)] 9)).alloc (.cells #[.string want] 9) := ⟨_, rfl⟩
  obtain ⟨g6, hg6⟩ : ∃ g, g = w.heap.size := ⟨_, rfl⟩
  have hs1 : w1.heap.size = g6 + 3 := by rw [hw1, hg6]; simp only [World.size_alloc]
  have b6 : w1.heap[g6]? = some (.cells #[.slice a1 nO c1] 22 (0, 0)) := by
    rw [hw1, hg6]
    exact below_block ((Below.refl _ _).alloc (Nat.le_refl _) _) (below_block ((Below.refl _ _).alloc (Nat.le_refl _) _) (heap_alloc_new w _))
  have b7 : w1.heap[g6 + 1]? = some (.cells #[.string (mkB mb)] 9 (0, 0)) := by
    rw [hw1, hg6]
    have h9 := heap_alloc_new (w.alloc (.cells #[.slice a1 nO c1] 22)) (.cells #[.string (mkB mb)] 9)
    rw [World.size_alloc] at h9
    exact below_block ((Below.refl _ _).alloc (Nat.le_refl _) _) h9
  have b8 : w1.heap[g6 + 2]? = some (.cells #[.string want] 9 (0, 0)) := by
    rw [hw1, hg6]
    have h9 := heap_alloc_new ((w.alloc (.cells #[.slice a1 nO c1] 22)).alloc (.cells #[.string (mkB mb)] 9)) (.cells #[.string want] 9)
    rw [World.size_alloc, World.size_alloc] at h9
    exact h9
  have hb01 : Below w.heap.size w w1 := by
    rw [hw1]
    exact (((Below.refl _ w).alloc (Nat.le_refl _) _).alloc (by simp) _).alloc (by simp only [World.size_alloc]; omega) _
  have HB01 := Lib.hid hb01
  have B6 := Lib.hid b6
  have B7 := Lib.hid b7
  have B8 := Lib.hid b8
  have HRow := Lib.hid (h.below stays_owned hb01)
  have HE1 := Lib.hid (hE.below hb01)
  have Hz := Lib.hid hz
  have HnO := Lib.hid hnO
  have hl' : nO ≤ 1048576 := by rw [← hnO]; exact hl
  have Hrd := Lib.hid (read_any live w1 hlv)
  obtain ⟨X, hX⟩ : ∃ X, (JP.readL live.data.toList).1 = X := ⟨_, rfl⟩
  obtain ⟨er0, her0⟩ : ∃ e, (JP.readL live.data.toList).2 = e := ⟨_, rfl⟩
  rw [hX, her0] at Hrd
  have HX := Lib.hid hX
  have Her0 := Lib.hid her0
  have hne0 : er0 ≠ 11 := by rw [← her0]; exact JP.readL_ne _
  have hgw : g6 = w.heap.size := hg6
  clear h hl hz hE hb01 b6 b7 b8 hX her0 hnO
  go_enter Tryz.func13, Tryz.ntmps13
  go_upto_region 1 with fail
  rw [← hw1]
  simp only [Nat.add_assoc, Nat.reduceAdd]
  rw [← hg6]
  clear hw1 hg6
  have Hgw := Lib.hid hgw
  clear hgw
  go_wp2_with fail
  refine Hrd.out.mono ?_
  rintro E w2 ⟨lv, rfl, hjl, hb2⟩
  have HJl := Lib.hid hjl
  have HB2 := Lib.hid hb2
  have hs2 := hb2.size
  clear hjl hb2 Hrd
  obtain ⟨w4, hw4⟩ : ∃ w4, w4 = (w2.alloc (.cells #[.nilIface] 47)).alloc (.cells #[.func (.func 27) #[] #[.pointer (some ⟨g6, 0, none⟩)], .func (.func 28) #[] #[.pointer (some ⟨g6 + 1, 0, none⟩)], .func (.func 30) #[] #[.pointer (some ⟨g6 + 2, 0, none⟩), .pointer (some ⟨w2.heap.size, 0, none⟩)]] 50) := ⟨_, rfl⟩
  obtain ⟨g16, hg16⟩ : ∃ g, g = w2.heap.size := ⟨_, rfl⟩
  have h416 : w4.heap[g16]? = some (.cells #[.nilIface] 47 (0, 0)) := by
    rw [hw4, hg16]
    exact below_block ((Below.refl _ _).alloc (Nat.le_refl _) _) (heap_alloc_new w2 _)
  have h435 : w4.heap[g16 + 1]? = some (.cells #[.func (.func 27) #[] #[.pointer (some ⟨g6, 0, none⟩)], .func (.func 28) #[] #[.pointer (some ⟨g6 + 1, 0, none⟩)], .func (.func 30) #[] #[.pointer (some ⟨g6 + 2, 0, none⟩), .pointer (some ⟨g16, 0, none⟩)]] 50 (0, 0)) := by
    rw [hw4, hg16]
    have h9 := heap_alloc_new (w2.alloc (.cells #[.nilIface] 47)) (.cells #[.func (.func 27) #[] #[.pointer (some ⟨g6, 0, none⟩)], .func (.func 28) #[] #[.pointer (some ⟨g6 + 1, 0, none⟩)], .func (.func 30) #[] #[.pointer (some ⟨g6 + 2, 0, none⟩), .pointer (some ⟨w2.heap.size, 0, none⟩)]] 50)
    rw [World.size_alloc] at h9
    exact h9
  have hb24 : Below w2.heap.size w2 w4 := by
    rw [hw4]
    exact ((Below.refl _ _).alloc (Nat.le_refl _) _).alloc (by simp) _
  have HB24 := Lib.hid hb24
  have HB14 := Lib.hid (HB2.out.trans (hb24.mono hs2))
  have hs16 : w1.heap.size ≤ g16 := by rw [hg16]; exact hs2
  have hs24 := hb24.size
  have H435 := Lib.hid h435
  have HA0 : Hid (AskAt live.data.toList (l.map oP) mb want.data.toList g16 w4 0 er0 w4) := Lib.hid ⟨⟨fun h => ⟨Her0.out.trans h, fun h => by omega, fun h => by omega, fun h => by omega⟩, fun h => Her0.out.symm.trans h.1⟩, hne0, Only.refl _ _ _, _, h416, fun h => by omega⟩
  clear h416 h435 hb24 hne0
  go_upto_region 4 with fail
  rw [← hw4]
  try rw [← hg16]
  clear hw4
  have Hg16 := Lib.hid hg16
  clear hg16
  have hs4 := HB14.out.size
  go_loopg [15, 18, 37] 3 (fun k u15 u18 u37 wr => ∃ (i : Nat) (z : Int), i + k = 3 ∧ u37 = .int .i64 (i : Int) ∧ u15 = .int .i64 z ∧ Hid (AskAt live.data.toList (l.map oP) mb want.data.toList g16 w4 i z wr))
  case atStart => exact ⟨0, er0, by omega, rfl, rfl, HA0⟩
  case round =>
    obtain ⟨i, z, hik, rfl, rfl, HA⟩ := hrel
    cases gk with
    | zero =>
      obtain rfl : i = 3 := by omega
      have hbw : Below w.heap.size w wr := HB01.out.trans ((HA.out.only.below HB14.out hs16 hs4).mono HB01.out.size)
      have HBw := Lib.hid hbw
      clear hbw
      by_cases hz0 : z = 0
      · obtain ⟨wv, hwv, hjw⟩ := HA.out.cell
        obtain ⟨nW, hjv⟩ := hjw rfl hz0
        clear hjw
        have hb2r : Below w2.heap.size w2 wr := HA.out.only.below HB24.out (by rw [Hg16.out]; exact Nat.le_refl _) HB24.out.size
        have Hasked := Lib.hid (HA.out.iff.1 hz0)
        subst hz0
        obtain ⟨nX, hjx⟩ := HJl.out
        have HK1 := Lib.hid (kind_any (hjx.below hb2r))
        have HK2 := Lib.hid (kind_any hjv)
        obtain ⟨WX, hWX⟩ : ∃ x, (JP.readL want.data.toList).1 = x := ⟨_, rfl⟩
        rw [hWX] at HK2 hjv
        have HJw := Lib.hid hjv
        have HJx := Lib.hid (hjx.below hb2r)
        have HWX := Lib.hid hWX
        have H16 := Lib.hid hwv
        have hb1r := Lib.hid (HA.out.only.below HB14.out hs16 hs4)
        have cw := fun j => cell_block hwv j
        clear hjv hjx hwv hWX hb2r HJl HA HB24
        by_cases k1 : JP.kind X = 6
        · by_cases k2 : JP.kind WX = 6
          · have HK61 := Lib.hid k1
            have HK62 := Lib.hid k2
            rw [k1] at HK1
            rw [k2] at HK2
            clear k1 k2
            go_wp2_with fail
            refine HK1.out.mono ?_
            rintro E w5 ⟨rfl, e5⟩
            replace e5 := e5.symm
            subst e5
            go_wp2_with fail
            refine HK2.out.mono ?_
            rintro E w5 ⟨rfl, e5⟩
            replace e5 := e5.symm
            subst e5
            go_upto_region 13 with fail
            obtain ⟨wm, hwm⟩ : ∃ wm, wm = wr := ⟨_, rfl⟩
            subst hwm
            have HApp : Hid (JP.AppOK live.data.toList want.data.toList (l.map oP) mb) := Lib.hid ⟨Hasked.out.1, Hasked.out.2.1 (by omega), Hasked.out.2.2.1 (by omega), Hasked.out.2.2.2 (by omega), by rw [HX.out]; exact HK61.out, by rw [HWX.out]; exact HK62.out⟩
            have HfX : Hid (JP.Fit X) := Lib.hid (by rw [← HX.out]; exact JP.read_fit' HApp.out.1)
            have HfW : Hid (JP.Fit WX) := Lib.hid (by rw [← HWX.out]; exact JP.read_fit' HApp.out.2.2.2.1)
            obtain ⟨qx, hqx⟩ := obj_form HJx.out HK61.out
            subst hqx
            obtain ⟨qw, hqw⟩ := obj_form HJw.out HK62.out
            subst hqw
            obtain ⟨lv, hlvd⟩ : ∃ v, v = Value.iface 88 (.pointer (some ⟨qx, 0, none⟩)) := ⟨_, rfl⟩
            obtain ⟨wv, hwvd⟩ : ∃ v, v = Value.iface 88 (.pointer (some ⟨qw, 0, none⟩)) := ⟨_, rfl⟩
            have HJx' : Hid (JvAt nX [] wm lv X) := Lib.hid (by rw [hlvd]; exact HJx.out)
            have HJw' : Hid (JvAt nW [] wm wv WX) := Lib.hid (by rw [hwvd]; exact HJw.out)
            have HMem := Lib.hid (bk_mem HApp.out.2.1.2.1)
            obtain ⟨bk, hbk⟩ : ∃ b, bkOf (l.map oP) = b := ⟨_, rfl⟩
            rw [hbk] at HMem
            have Hbk := Lib.hid hbk
            have hgb : ∀ k ps, bk k = some ps → ps.length ≤ 1048576 ∧ ∀ s ∈ ps, s.length ≤ 1048576 := fun k ps hk => by
              obtain ⟨x, hx, e⟩ := List.mem_map.1 ((HMem.out k ps).1 hk)
              obtain ⟨_, e2⟩ := Prod.mk.inj e
              obtain ⟨_, z2, z3⟩ := Hz.out x hx
              rw [← e2]
              refine ⟨by rw [List.length_map]; exact z2, fun s hs => ?_⟩
              obtain ⟨p, hp, rfl⟩ := List.mem_map.1 hs
              rw [Array.length_toList]; exact z3 p hp
            have Hgb := Lib.hid hgb
            clear hgb hbk HJx HJw cw HK1 HK2
            refine wp_region_relB 6 (fun ii U w' => match ii with
              | 0 => U 0 = .iface 88 (.pointer (some ⟨qx, 0, none⟩))
              | 1 => U 1 = .slice a1 nO c1
              | 2 => ∃ b lo hi, U 2 = .map (some b) ∧ wm.heap.size ≤ lo ∧ BookIn lo hi w' b nO bk ∧ hi ≤ w'.heap.size
              | 3 => U 3 = .string (mkB mb)
              | 4 => U 4 = wv
              | 5 => ∃ b lo hi wL W, U 2 = .map (some b) ∧ wm.heap.size ≤ lo ∧ BookIn lo hi w' b nO bk ∧ hi ≤ wL.heap.size ∧ Below wm.heap.size wm wL ∧ Below wL.heap.size wL w' ∧ OwnAt (LeafX (List.range' lo (hi - lo)) wL) 3 w' wL.heap.size 65 (U 5) W ∧ W.Perm (JP.gat [] WX) ∧ Rise W
              | _ => True)
              (fun | 2 => [1] | 5 => [2, 4] | _ => []) (by kernel_rfl) (by kernel_rfl) ?_ ⟨?_, ?_, ?_, ?_, ?_, ?_, trivial⟩ ?_
            · intro j u w1 w2 hb h
              match j, h with
              | 0, h => exact h
              | 1, h => exact h
              | 2, h => exact (let ⟨b, lo, hi, h1, h2, h3, h4⟩ := h; ⟨b, lo, hi, h1, h2, h3.below hb, Nat.le_trans h4 hb.size⟩)
              | 3, h => exact h
              | 4, h => exact h
              | 5, h => exact (let ⟨b, lo, hi, wL, W, h1, h2, h3, h4, h5, h6, h7, h8, h9⟩ := h; ⟨b, lo, hi, wL, W, h1, h2, h3.below hb, h4, h5, h6.trans (hb.mono h6.size), h7.belowX (leafX_staysX _ _) hb, h8, h9⟩)
              | _ + 6, h => trivial
            · intro x' w' hb hd
              have hwr : Below wm.heap.size wm w' := (below_drewF wm).trans hb
              refine owes_here (.iface 88 (.pointer (some ⟨qx, 0, none⟩))) (by rfl) ?_ rfl
              simp only [putAll, List.take_succ_cons, List.take_zero]
              go_simp
            · intro x' w' hb hd
              have hwr : Below wm.heap.size wm w' := (below_drewF wm).trans hb
              have e6 := fun j => cell_block (below_block hwr (below_block hb1r.out B6.out)) j
              refine owes_here (.slice a1 nO c1) (by rfl) ?_ rfl
              simp only [putAll, List.take_succ_cons, List.take_zero]
              go_simp
            · intro x' w' hb hd
              have hwr : Below wm.heap.size wm w' := (below_drewF wm).trans hb
              have k1 : x' 1 = .slice a1 nO c1 := hd 1 (by simp)
              refine owes_call 32 #[.slice a1 nO c1] (by rfl) ?_ ((bookOf_any (.slice a1 nO c1) l w' ((HRow.out.below stays_owned hb1r.out).below stays_owned hwr) (by rw [HnO.out]; exact hl') (fun x hx => ⟨(Hz.out x hx).1, (Hz.out x hx).2.1⟩)).mono fun e w3 ⟨b, h1, h2, h3⟩ => ⟨_, h1, ⟨b, w'.heap.size, w3.heap.size, rfl, hwr.size, by rw [← Hbk.out, ← HnO.out]; exact h2.into, Nat.le_refl _⟩, h3⟩)
              simp only [putAll, List.take_succ_cons, List.take_zero]
              go_simp
            · intro x' w' hb hd
              have hwr : Below wm.heap.size wm w' := (below_drewF wm).trans hb
              have e7 := fun j => cell_block (below_block hwr (below_block hb1r.out B7.out)) j
              refine owes_here (.string (mkB mb)) (by rfl) ?_ rfl
              simp only [putAll, List.take_succ_cons, List.take_zero]
              go_simp
            · intro x' w' hb hd
              have hwr : Below wm.heap.size wm w' := (below_drewF wm).trans hb
              have e16 := fun j => cell_block (below_block hwr H16.out) j
              refine owes_here wv (by rfl) ?_ rfl
              simp only [putAll, List.take_succ_cons, List.take_zero]
              rw [hwvd]
              go_simp
            · intro x' w' hb hd
              have hwr : Below wm.heap.size wm w' := (below_drewF wm).trans hb
              have k4 : x' 4 = wv := hd 4 (by simp)
              obtain ⟨b, lo, hi, kb, klo, kbook, khi⟩ : ∃ b lo hi, x' 2 = .map (some b) ∧ wm.heap.size ≤ lo ∧ BookIn lo hi w' b nO bk ∧ hi ≤ w'.heap.size := hd 2 (by simp)
              have hvT : JvAt nW (List.range' lo (hi - lo)) w' wv WX := (HJw'.out.fresh (T' := List.range' lo (hi - lo)) fun b hb => .inr (by rw [List.mem_range'_1] at hb; omega)).below hwr
              have fz := HfW.out.2
              refine owes_call 33 #[wv] (by rfl) ?_ ((leaves_any (List.range' lo (hi - lo)) nW wv WX w' hvT (by omega) (by omega) (let ⟨mm, hmm⟩ := HE1.out.2.2; ⟨mm, (hmm.below hb1r.out).below hwr⟩)).mono fun e w3 ⟨vv, W, h1, h2, h3, h4, h5⟩ => ⟨_, h1, ⟨b, lo, hi, w', W, kb, klo, kbook.below h5, khi, hwr, h5, h4, h2, h3⟩, h5⟩)
              simp only [putAll, List.take_succ_cons, List.take_zero]
              go_simp
            · intro x' w' hb hR
              have hwr : Below wm.heap.size wm w' := (below_drewF wm).trans hb
              have k0 : x' 0 = .iface 88 (.pointer (some ⟨qx, 0, none⟩)) := hR 0 (by omega)
              have k3 : x' 3 = .string (mkB mb) := hR 3 (by omega)
              obtain ⟨b, lo, hi, wL, W, kb, klo, kbook, khi, kwL, kLw, kown, kp, kr⟩ : ∃ b lo hi wL W, x' 2 = .map (some b) ∧ wm.heap.size ≤ lo ∧ BookIn lo hi w' b nO bk ∧ hi ≤ wL.heap.size ∧ Below wm.heap.size wm wL ∧ Below wL.heap.size wL w' ∧ OwnAt (LeafX (List.range' lo (hi - lo)) wL) 3 w' wL.heap.size 65 (x' 5) W ∧ W.Perm (JP.gat [] WX) ∧ Rise W := hR 5 (by omega)
              obtain ⟨la, lc, klf, -, -⟩ := kown.row.len
              rw [klf] at kown
              obtain ⟨nw, hnw⟩ : ∃ n, W.length = n := ⟨_, rfl⟩
              rw [hnw] at kown klf
              obtain ⟨wd, hwd⟩ : ∃ wd, wd = w'.alloc (.cells #[.iface 88 (.pointer (some ⟨qx, 0, none⟩)), .map (some b), .string (mkB mb), .slice la nw lc] 61) := ⟨_, rfl⟩
              obtain ⟨g, hg⟩ : ∃ g, g = w'.heap.size := ⟨_, rfl⟩
              have hbd : Below w'.heap.size w' wd := by rw [hwd]; exact (Below.refl _ _).alloc (Nat.le_refl _) _
              have hwrd := hwr.trans (hbd.mono hwr.size)
              have HWr := Lib.hid hwrd
              have hdeal : DealAt wd g lv (.map (some b)) mb (.slice la nw lc) := by
                unfold DealAt
                rw [hwd, hg, hlvd]; exact heap_alloc_new w' _
              have hF : FixAt lo hi g wm wd lv (.map (some b)) (.slice la nw lc) mb X W := ⟨hwrd, klo, hdeal, .inr (by rw [hg]; exact Nat.le_trans khi kLw.size), ⟨nX, HJx'.out⟩, ⟨_, wL, w', kown, kLw, hbd, fun q h1 h2 => .inl (by rw [List.mem_range'_1]; omega), .inr khi⟩, HE1.out.below hb1r.out⟩
              have HF := Lib.hid hF
              have HIn := Lib.hid (kbook.below hbd)
              obtain ⟨hIs, hFit⟩ := leaves_is kp kr HfW.out HK62.out
              have HIs := Lib.hid hIs
              have HFit := Lib.hid hFit
              have Hnw := Lib.hid hnw
              have hnw2 : nw ≤ 200 := by
                have h1 := JP.gat_len [] WX
                have h2 := HfW.out.2.1
                rw [← hnw, kp.length_eq]; omega
              have hhi : hi ≤ wd.heap.size := Nat.le_trans khi (Nat.le_trans kLw.size hbd.size)
              have Hlo : Hid (wm.heap.size ≤ lo) := Lib.hid klo
              have HConf := Lib.hid (conflicts_any hdeal (hF.liveO (Only.refl _ _ _)) HfX.out (hF.rows.row (Only.refl _ _ _)) (by omega) hFit (HIn.out.at) Hgb.out (hF.envO (Only.refl _ _ _)))
              clear hR hb hwr kbook khi kwL kLw kown kp kr hbd hwrd hdeal hF hIs hFit hnw
              simp only [putAll, List.take_succ_cons, List.take_zero, List.drop_succ_cons, List.drop_zero]
              rw [k0, kb, k3, klf]
              clear k0 kb k3 klf
              try simp only [Act.put, List.setIfInBounds_toArray, List.set_cons_zero, List.set_cons_succ]
              go_upto_region 14 with fail
              rw [← hwd]
              try rw [← hg]
              clear hwd hg
              go_wp2_with fail
              refine HConf.out.mono ?_
              rintro E w6 ⟨vb, rfl, hvb, hb6⟩
              have hCL : (W.filter fun x => othersG bk mb (JP.barsB X x)) = JP.confL X (l.map oP) mb W := by
                unfold JP.confL
                exact List.filter_congr fun x _ => others_memB HMem.out mb _
              rw [hCL] at hvb
              obtain ⟨C, hC⟩ : ∃ C, JP.confL X (l.map oP) mb W = C := ⟨_, rfl⟩
              rw [hC] at hvb
              have hpC : (C.map fun x => mkB (pathP x.1)) = (C.map JP.pathL).map mkB := by
                rw [List.map_map]
                refine List.map_congr_left fun x hx => ?_
                have hxW : x ∈ W := by rw [← hC] at hx; exact (List.mem_filter.1 hx).1
                show mkB (pathP x.1) = mkB (JP.pathL x)
                rw [(HFit.out x hxW).path]
              rw [hpC] at hvb
              obtain ⟨ba, bc, rfl, -, -⟩ := hvb.row.len
              obtain ⟨cn, hcn⟩ : ∃ n, ((C.map JP.pathL).map mkB).length = n := ⟨_, rfl⟩
              rw [hcn] at hvb ⊢
              rw [List.length_map, List.length_map] at hcn
              have hs6 := hb6.size
              have HB06 : Hid (Below w.heap.size w w6) := Lib.hid ((HBw.out.trans (HWr.out.mono HBw.out.size)).trans (hb6.mono (Nat.le_trans HBw.out.size HWr.out.size)))
              have HVb : Hid (OwnAt RString 1 w6 w.heap.size 9 (.slice ba cn bc) ((C.map JP.pathL).map mkB)) := Lib.hid (hvb.mono (Nat.le_trans HBw.out.size HWr.out.size))
              have HC := Lib.hid hC
              have Hcn := Lib.hid hcn
              have HF6 := Lib.hid (HF.out.below hb6)
              have HIn6 := Lib.hid (HIn.out.below hb6)
              have HWr6 := Lib.hid (HWr.out.trans (hb6.mono HWr.out.size))
              have hhi6 : hi ≤ w6.heap.size := Nat.le_trans hhi hs6
              clear hvb hC hCL hpC hcn hb6 HConf HF HIn HWr
              obtain ⟨cc, Hcc⟩ : ∃ c, Hid ((decide (0 < cn) && !force) = c) := ⟨_, Lib.hid rfl⟩
              go_upto_region 15 with fail
              go_cut [71, 72, 73, 74, 75, 76, 77] (fun u71 u72 u73 u74 u75 u76 u77 wx => u77 = .bool cc ∧ w6 = wx)
              case first =>
                rcases Nat.eq_zero_or_pos cn with h0 | h0
                · subst h0
                  have hcc : cc = false := by rw [← Hcc.out]; rfl
                  subst hcc
                  go_wp2_with fail
                  go_meet
                  exact ⟨rfl, rfl⟩
                · have q0 : (0 : Int) < (cn : Int) := by omega
                  have hcc : cc = !force := by rw [← Hcc.out, decide_eq_true h0]; rfl
                  subst hcc
                  go_wp2_with fail
                  go_meet
                  exact ⟨rfl, rfl⟩
              case rest =>
              obtain ⟨rfl, rfl⟩ := hcut
              cases cc with
              | true =>
                have hcl : C ≠ [] ∧ force = false := by
                  have h9 := Hcc.out
                  rw [Bool.and_eq_true, decide_eq_true_iff] at h9
                  refine ⟨fun e => ?_, by simpa using h9.2⟩
                  have h8 := Hcn.out
                  rw [e] at h8
                  have := h9.1
                  rw [← h8] at this
                  exact absurd this (Nat.lt_irrefl _)
                have Hcl := Lib.hid hcl
                clear hcl
                go_wp2_with fail
                (try simp only [Exit.inBlock, Exit.then])
                refine bodyPost_ret (results_tmp4 rfl _ _ _) rfl ?_
                exact apply_clash HApp.out (by rw [HWX.out]; exact HIs.out) (by rw [HX.out]; exact HC.out) Hcl.out.1 Hcl.out.2 HVb.out HB06.out
              | false =>
                have hgo : C = [] ∨ force = true := by
                  have h9 := Hcc.out
                  rw [Bool.and_eq_false_iff] at h9
                  rcases h9 with h9 | h9
                  · left
                    refine List.eq_nil_of_length_eq_zero ?_
                    have := of_decide_eq_false h9
                    have := Hcn.out
                    omega
                  · exact .inr (by simpa using h9)
                have Hgo := Lib.hid hgo
                have hnw2' : W.length ≤ 1048576 := by rw [Hnw.out]; omega
                have HSz := Lib.hid (seize_any HF6.out HfX.out HFit.out hnw2' HIn6.out Hgb.out hl' hhi6)
                clear hgo
                go_wp2_with fail
                refine HSz.out.mono ?_
                rintro E w7 ⟨rfl, hIn7, hOn7⟩
                have hd7 := HF6.out.dealO hOn7
                have hrow7 := HF6.out.rows.row hOn7
                have hg7 : ∀ k ps, seizeG X mb W bk k = some ps → ps.length ≤ 1048576 ∧ ∀ s ∈ ps, s.length ≤ 1048576 := fun k ps hk => by
                  unfold seizeG at hk
                  split at hk
                  · exact Hgb.out k ps hk
                  · obtain ⟨qs, h1, rfl⟩ := Option.map_eq_some_iff.1 hk
                    obtain ⟨h2, h3⟩ := Hgb.out k qs h1
                    exact ⟨Nat.le_trans (List.length_filter_le _ _) h2, fun s hs => h3 s (List.mem_filter.1 hs).1⟩
                have hsm : seizeG X mb W bk mb = bk mb := by unfold seizeG; rw [if_pos rfl]
                have hps : ∀ p ∈ (seizeG X mb W bk mb).getD [], ∃ k, stepsP p = (0, k) ∧ k ≠ [] := fun p hp => by
                  rw [hsm] at hp
                  cases hb : bk mb with
                  | none => rw [hb] at hp; cases hp
                  | some ps =>
                    rw [hb] at hp
                    exact (HApp.out.2.1.2.2 _ ((HMem.out mb ps).1 hb)).2.2.2 p hp
                have HDr := Lib.hid (drop_any hd7 (HF6.out.liveO hOn7) HfX.out hrow7 hnw2' HFit.out hIn7.at hg7 hmb hps (HF6.out.envO hOn7))
                have hV0 : dropG X (seizeG X mb W bk) mb W ((seizeG X mb W bk mb).getD []) = JP.dropV X (JP.seizeL X mb W (l.map oP)) mb W (JP.had (l.map oP) mb) := by
                  rw [drop_memB (seize_memB HMem.out X mb W), hsm, had_memB HMem.out HApp.out.2.1.2.1]
                have hV0f := dropG_fit (seizeG X mb W bk) mb W ((seizeG X mb W bk mb).getD []) X HfX.out
                rw [hV0] at HDr hV0f
                obtain ⟨V0, hV0d⟩ : ∃ V, JP.dropV X (JP.seizeL X mb W (l.map oP)) mb W (JP.had (l.map oP) mb) = V := ⟨_, rfl⟩
                rw [hV0d] at HDr hV0f
                have HV0d := Lib.hid hV0d
                have HV0f := Lib.hid hV0f
                have HIn7 := Lib.hid hIn7
                have Hg7 := Lib.hid hg7
                have HD7 := Lib.hid hd7
                have HRow7 := Lib.hid hrow7
                have HE7 := Lib.hid (HF6.out.envO hOn7)
                have hwm7 : Below wm.heap.size wm w7 := hOn7.below HWr6.out Hlo.out HWr6.out.size
                have HWm7 := Lib.hid hwm7
                have hhi7 : hi ≤ w7.heap.size := Nat.le_trans hhi6 hOn7.size
                clear hV0 hV0f hV0d hsm hps hd7 hrow7 hg7 hIn7 hOn7 hwm7 HSz HF6 HIn6 HWr6
                go_wp2_with fail
                refine HDr.out.mono ?_
                rintro E w8 ⟨v8, k8, rfl, hj8, hb8⟩
                have HJ8 := Lib.hid hj8
                have HWm8 := Lib.hid (HWm7.out.trans (hb8.mono HWm7.out.size))
                have HIn8 := Lib.hid (HIn7.out.below hb8)
                have HRow8 := Lib.hid (leaves_below HRow7.out hb8)
                have HD8 := Lib.hid (HD7.out.below hb8)
                have HE8 := Lib.hid (HE7.out.below hb8)
                have hhi8 : hi ≤ w8.heap.size := Nat.le_trans hhi7 hb8.size
                have dd : ∀ i, w8.cell? ⟨g, i, none⟩ = #[lv, .map (some b), .string (mkB mb), .slice la nw lc][i]? := fun i => cell_block HD8.out i
                clear hj8 hb8 HDr HIn7 HRow7 HD7 HE7 HWm7
                go_wp2_with fail
                clear dd
                obtain ⟨j0, hj0, hy0, hy1, hy2⟩ := info_parts Tryz.infoStr
                go_loopg [21, 22, 88] nw (fun k u21 u22 u88 wr => ∃ i : Nat, i + k = nw ∧ u88 = .int .i64 (i : Int) ∧ Hid (∃ j, JvAt j (blkOf u22) wr u21 (JP.setsV V0 (W.take i))) ∧ Hid (OwnAt RString 1 wr w8.heap.size 9 u22 ((W.take i).map fun x => mkB (JP.pathL x))) ∧ Hid (Below w8.heap.size w8 wr))
                case atStart => exact ⟨0, by omega, rfl, Lib.hid ⟨k8, by rw [List.take_zero]; exact HJ8.out⟩, Lib.hid (OwnAt.nil _), Lib.hid (Below.refl _ _)⟩
                case round =>
                  obtain ⟨i, hik, rfl, HJ, HO, Hbel⟩ := hrel
                  cases gk with
                  | zero =>
                    obtain rfl : nw = i := by omega
                    have htk : W.take nw = W := List.take_of_length_le (by rw [Hnw.out]; exact Nat.le_refl _)
                    have hbd := sets_bound W HFit.out V0 HV0f.out nw (by rw [Hnw.out]; exact Nat.le_refl _)
                    rw [htk] at HJ HO hbd
                    clear htk
                    have hout : JP.setsV V0 W = JP.outV X (l.map oP) mb W := by unfold JP.outV; rw [← HV0d.out]
                    have hpt : (W.map fun x => mkB (JP.pathL x)) = (W.map JP.pathL).map mkB := by rw [List.map_map]; rfl
                    rw [hpt] at HO
                    rw [hout] at HJ hbd
                    obtain ⟨out, houtd⟩ : ∃ o, JP.outV X (l.map oP) mb W = o := ⟨_, rfl⟩
                    rw [houtd] at HJ hbd
                    have Hout := Lib.hid houtd
                    have HIn9 := Lib.hid (HIn8.out.below Hbel.out)
                    have HWm9 := Lib.hid (HWm8.out.trans (Hbel.out.mono HWm8.out.size))
                    have HD9 := Lib.hid (HD8.out.below Hbel.out)
                    have hb1w : Below w1.heap.size w1 wr := hb1r.out.trans (HWm9.out.mono hb1r.out.size)
                    have b7w := below_block hb1w B7.out
                    have B7w := Lib.hid b7w
                    obtain ⟨F, hM, hP⟩ := HIn9.out
                    have HM := Lib.hid hM
                    have HP := Lib.hid hP
                    have hgl : g < wr.heap.size := deal_lt HD9.out
                    have hg7l : g6 + 1 < wr.heap.size := deal_size b7w
                    have hs89 := Hbel.out.size
                    have Hbd := Lib.hid hbd
                    clear hout hpt houtd hb1w b7w hM hP hbd
                    go_upto_region 26 with fail
                    refine wp_region_hold 6 (fun w' => Below wr.heap.size wr w') (by kernel_rfl) (by kernel_rfl) ?_ ?_
                    · exact below_drewF wr
                    simp only [List.take_succ_cons, List.take_zero, List.drop_succ_cons, List.drop_zero]
                    (first | (refine wpHold_pure (v := ?_) (by rfl) (fun w => ?_) ?_; rotate_left; focus (first | (go_simp; done) | (go_simp; with_reducible rfl))) | (refine wpHold_skip ?_ ?_; focus (go_simp; done)) | (refine wpHold_pure' (v := ?_) ?_ (fun w => ?_) ?_; rotate_left; focus (go_simp; done); focus (first | (go_simp; done) | (go_simp; with_reducible rfl)))); try simp only [Act.put, List.setIfInBounds_toArray, List.set_cons_zero, List.set_cons_succ]
                    (first | (refine wpHold_pure (v := ?_) (by rfl) (fun w => ?_) ?_; rotate_left; focus (first | (go_simp; done) | (go_simp; with_reducible rfl))) | (refine wpHold_skip ?_ ?_; focus (go_simp; done)) | (refine wpHold_pure' (v := ?_) ?_ (fun w => ?_) ?_; rotate_left; focus (go_simp; done); focus (first | (go_simp; done) | (go_simp; with_reducible rfl)))); try simp only [Act.put, List.setIfInBounds_toArray, List.set_cons_zero, List.set_cons_succ]
                    (first | (refine wpHold_pure (v := ?_) (by rfl) (fun w => ?_) ?_; rotate_left; focus (first | (go_simp; done) | (go_simp; with_reducible rfl))) | (refine wpHold_skip ?_ ?_; focus (go_simp; done)) | (refine wpHold_pure' (v := ?_) ?_ (fun w => ?_) ?_; rotate_left; focus (go_simp; done); focus (first | (go_simp; done) | (go_simp; with_reducible rfl)))); try simp only [Act.put, List.setIfInBounds_toArray, List.set_cons_zero, List.set_cons_succ]
                    refine wpHold_read (v := .map (some b)) (by rfl) (fun w' hI => ?_) ?_
                    · have d0 := (hI.cell (p := ⟨g, 1, none⟩) hgl).trans (cell_block HD9.out 1)
                      go_simp
                      done
                    try simp only [Act.put, List.setIfInBounds_toArray, List.set_cons_zero, List.set_cons_succ]
                    refine wpHold_read (v := .string (mkB mb)) (by rfl) (fun w' hI => ?_) ?_
                    · have d0 := (hI.cell (p := ⟨g6 + 1, 0, none⟩) hg7l).trans (cell_block B7w.out 0)
                      go_simp
                      done
                    try simp only [Act.put, List.setIfInBounds_toArray, List.set_cons_zero, List.set_cons_succ]
                    (first | (refine wpHold_pure (v := ?_) (by rfl) (fun w => ?_) ?_; rotate_left; focus (first | (go_simp; done) | (go_simp; with_reducible rfl))) | (refine wpHold_skip ?_ ?_; focus (go_simp; done)) | (refine wpHold_pure' (v := ?_) ?_ (fun w => ?_) ?_; rotate_left; focus (go_simp; done); focus (first | (go_simp; done) | (go_simp; with_reducible rfl)))); try simp only [Act.put, List.setIfInBounds_toArray, List.set_cons_zero, List.set_cons_succ]
                    refine wpHold_nil ?_
                    intro w12 hI12
                    have HM12 : Hid (MapS Tryz.prog 9 w12 b nO F) := Lib.hid (HM.out.belowW hI12)
                    have HP12 := Lib.hid (BookF'.below HP.out hI12)
                    have HO12 := Lib.hid (HO.out.below stays_string hI12)
                    have HJ12 : Hid (∃ j, JvAt j [] w12 u21 out) := Lib.hid (let ⟨j, hj⟩ := HJ.out; ⟨j, (hj.below hI12).fresh (T' := []) fun b hb => by cases hb⟩)
                    have HD12 := Lib.hid (HD9.out.below hI12)
                    have HWm12 := Lib.hid (HWm9.out.trans (hI12.mono HWm9.out.size))
                    have hs12 := hI12.size
                    have hnm : nO < maxLen := by unfold maxLen; omega
                    have hmm9 : (mkB mb).size ≤ maxLen := by rw [mkB_size]; unfold maxLen; omega
                    clear hI12 HM HP HO HJ
                    go_wp2_with (at_mapUpdate; refine wpList_store_mapS _ (by rfl) _ _ _ 56 (by rfl) 9 28 Tryz.underlying9 Tryz.underlying56 b nO F (by rfl) HM12.out hnm (mkB mb) hmm9 (by rfl) u22 (by rfl) ?_; intro w13 hm13 ht13; have dd13 : w13.cell? ⟨g, 1, none⟩ = some (.map (some b)) := cell_block (deal_turned HD12.out HM12.out ht13) 1)
                    rw [mkB_list] at hm13
                    have hbk13 : BookAt w13 lo b (nO + 1) (updG (seizeG X mb W bk) mb (W.map JP.pathL)) := by
                      obtain ⟨p2, p3, p4, p5, p6, p7⟩ := HP12.out
                      refine book_put (n := 0) p2 p3 p4 p6 hm13 ht13 (HO12.out.mono (by omega)) ?_
                      intro k' v' q hk hf hq hq'
                      have h1 := p5 k' v' q hf hq
                      have h2 := (HO12.out.at hq').1
                      omega
                    have hb1213 : Below wm.heap.size w12 w13 := by
                      have hgr := ht13.grown
                      exact ⟨hgr.os, hgr.tape, hgr.output, hgr.size, fun k hk => turned_block ht13 (fun e => by have := HP12.out.2.2.2.2.1; have := Hlo.out; omega)⟩
                    have HWm13 := Lib.hid (HWm12.out.trans hb1213)
                    have HJ13 : Hid (∃ j, JvAt j [] w13 u21 out) := Lib.hid (let ⟨j, hj⟩ := HJ12.out; ⟨j, keeps_jv j (keeps_turned ht13) hj⟩)
                    have hg13 : ∀ k ps, updG (seizeG X mb W bk) mb (W.map JP.pathL) k = some ps → ps.length ≤ 1048576 := fun k ps hk => by
                      unfold updG at hk
                      split at hk
                      · rw [← Option.some.inj hk, List.length_map, Hnw.out]; omega
                      · exact (Hg7.out k ps hk).1
                    have hn6 : nO ≤ 6 := by have h9 := HApp.out.2.1.1; rw [List.length_map, HnO.out] at h9; exact h9
                    have HLi := Lib.hid (list_any w13 lo b (nO + 1) _ hbk13 hg13 (by omega))
                    have HE13 := Lib.hid ((HE1.out.below hb1r.out).below HWm13.out)
                    have HB13 : Hid (Below w.heap.size w w13) := Lib.hid (HBw.out.trans (HWm13.out.mono HBw.out.size))
                    clear hm13 ht13 hbk13 hb1213 hg13 HM12 HP12 HO12 HD12 HWm12 HJ12
                    refine HLi.out.mono ?_
                    rintro E w14 ⟨vL, L, rfl, hLd, hri, hown, hb14⟩
                    have hL := listed_fin HMem.out HApp.out.2.1.2.1 hLd hri
                    have HL : Hid (L = JP.finL (JP.readL live.data.toList).1 (l.map oP) mb W) := Lib.hid (by rw [HX.out]; exact hL)
                    obtain ⟨va, vc, rfl, -, -⟩ := hown.row.len
                    obtain ⟨ln, hln⟩ : ∃ n, L.length = n := ⟨_, rfl⟩
                    rw [hln] at hown ⊢
                    have Hln := Lib.hid hln
                    have Hown := Lib.hid hown
                    have HB14 := Lib.hid (HB13.out.trans (hb14.mono HB13.out.size))
                    have Hb14 := Lib.hid hb14
                    have HI2 : Hid (JP.IsLeaves W (JP.readL want.data.toList).1) := Lib.hid (by rw [HWX.out]; exact HIs.out)
                    clear hLd hri hown hb14 hL hln dd13 HLi
                    by_cases h6 : 6 < ln
                    · have q6 : (6 : Int) < (ln : Int) := by omega
                      have Hno : Hid (∀ V, JP.AppOK live.data.toList want.data.toList (l.map oP) mb → JP.IsLeaves V (JP.readL want.data.toList).1 → (JP.confL (JP.readL live.data.toList).1 (l.map oP) mb V = [] ∨ force = true) → (JP.finL (JP.readL live.data.toList).1 (l.map oP) mb V).length ≤ 6 → JP.tellE (JP.outV (JP.readL live.data.toList).1 (l.map oP) mb V) = 0 → False) := Lib.hid fun V _ b _ d _ => by
                        have := JP.leaves_one b HI2.out
                        subst this
                        rw [← HL.out, Hln.out] at d
                        omega
                      clear h6
                      go_wp2_with fail
                      (try simp only [Exit.inBlock, Exit.then])
                      refine bodyPost_ret (results_tmp4 rfl _ _ _) rfl ?_
                      exact apply_no (by decide) (by decide) Hno.out HB14.out (fun _ _ _ _ h => (h ⟨HApp.out.2.2.2.2.1, HApp.out.2.2.2.2.2⟩).elim)
                    · have q6 : ¬ (6 : Int) < (ln : Int) := by omega
                      have H6 : Hid (L.length ≤ 6) := Lib.hid (by rw [Hln.out]; omega)
                      obtain ⟨jo, hjo⟩ := HJ13.out
                      have hT := tell_big jo u21 out w14 (hjo.below Hb14.out) (by have := Hbd.out.2.2; omega) (fun _ => by have := Hbd.out.2.2; omega) (by have := Hbd.out.2.1; omega) ((HE13.out.below Hb14.out).1)
                      obtain ⟨te, hte⟩ : ∃ e, JP.tellE out = e := ⟨_, rfl⟩
                      obtain ⟨tt, htt⟩ : ∃ t, JP.tellT out = t := ⟨_, rfl⟩
                      rw [hte, htt] at hT
                      have HT := Lib.hid hT
                      have Hte : Hid (JP.tellE (JP.outV (JP.readL live.data.toList).1 (l.map oP) mb W) = te) := Lib.hid (by rw [HX.out, Hout.out]; exact hte)
                      have Htt : Hid (tt = JP.tellT (JP.outV (JP.readL live.data.toList).1 (l.map oP) mb W)) := Lib.hid (by rw [HX.out, Hout.out]; exact htt.symm)
                      have hte11 : te ≠ 11 := by rw [← hte]; exact JP.tellE_ne _
                      clear h6 hjo hT hte htt
                      go_wp2_with fail
                      refine HT.out.mono ?_
                      rintro E w15 ⟨rfl, hb15⟩
                      have HB15 := Lib.hid (HB14.out.trans (hb15.mono HB14.out.size))
                      have Hb15 := Lib.hid (Hb14.out.trans (hb15.mono Hb14.out.size))
                      have Hown15 := Lib.hid (Hown.out.below (ownedX_stays _ _) hb15)
                      clear hb15 HT
                      by_cases h0 : te = 0
                      · subst h0
                        have Hgo2 : Hid (JP.confL (JP.readL live.data.toList).1 (l.map oP) mb W = [] ∨ force = true) := Lib.hid (by rw [HX.out, HC.out]; exact Hgo.out)
                        clear hte11
                        go_wp2_with fail
                        (try simp only [Exit.inBlock, Exit.then])
                        refine bodyPost_ret (results_tmp4 rfl _ _ _) rfl ?_
                        exact apply_yes HApp.out HI2.out Hgo2.out HL.out H6.out Hte.out Htt.out (Nat.le_trans HBw.out.size Hlo.out) Hown15.out HB13.out.size Hb15.out HB15.out
                      · have q0 : (te == 0) = false := by rw [beq_eq_false_iff_ne]; exact h0
                        have Hno : Hid (∀ V, JP.AppOK live.data.toList want.data.toList (l.map oP) mb → JP.IsLeaves V (JP.readL want.data.toList).1 → (JP.confL (JP.readL live.data.toList).1 (l.map oP) mb V = [] ∨ force = true) → (JP.finL (JP.readL live.data.toList).1 (l.map oP) mb V).length ≤ 6 → JP.tellE (JP.outV (JP.readL live.data.toList).1 (l.map oP) mb V) = 0 → False) := Lib.hid fun V _ b _ _ e => by
                          have := JP.leaves_one b HI2.out
                          subst this
                          rw [Hte.out] at e
                          exact h0 e
                        have H0 := Lib.hid h0
                        have H11 := Lib.hid hte11
                        clear h0 hte11
                        go_wp2_with fail
                        (try simp only [Exit.inBlock, Exit.then])
                        refine bodyPost_ret (results_tmp4 rfl _ _ _) rfl ?_
                        exact apply_no H0.out H11.out Hno.out HB15.out (fun _ _ _ _ h => (h ⟨HApp.out.2.2.2.2.1, HApp.out.2.2.2.2.2⟩).elim)
                  | succ k =>
                    have hil : i < nw := by omega
                    obtain ⟨x, hxi⟩ : ∃ x, W[i]? = some x := ⟨W[i]'(by rw [Hnw.out]; exact hil), List.getElem?_eq_getElem _⟩
                    obtain ⟨bb, o, c', hv, _, _, hbs, hcell⟩ := HRow8.out.form (by rw [Hnw.out]; omega) (by omega)
                    injection hv with u1 u2 u3
                    subst u1
                    clear u2 u3
                    obtain ⟨ds, _, hcc, sv, vv, rfl, hsv, hjv⟩ := hcell i x hxi
                    obtain ⟨sa, sc, rfl, -, -⟩ := hsv.row.len
                    obtain ⟨sn, hsn⟩ : ∃ sn, (x.1.map mkB).length = sn := ⟨_, rfl⟩
                    rw [hsn] at hcc hsv
                    have hvf : vv = .nilIface ∨ ∃ t u, vv = .iface t u := by obtain ⟨k, hk⟩ := hjv; exact jv_form hk
                    have hxf := HFit.out x (List.mem_of_getElem? hxi)
                    have hpath := hxf.path
                    rw [hpath] at hcc
                    have e0 : wr.cell? ⟨bb, o + i * 3, none⟩ = some (.string (mkB (JP.pathL x))) := (Hbel.out.cell (p := ⟨bb, _, none⟩) hbs).trans (by simpa using hcc 0 _ rfl)
                    have e1 : wr.cell? ⟨bb, o + i * 3 + 1, none⟩ = some (.slice sa sn sc) := (Hbel.out.cell (p := ⟨bb, _, none⟩) hbs).trans (hcc 1 _ rfl)
                    have e2 : wr.cell? ⟨bb, o + i * 3 + 2, none⟩ = some vv := (Hbel.out.cell (p := ⟨bb, _, none⟩) hbs).trans (hcc 2 _ rfl)
                    have q1 : (0 : Int) ≤ (i : Int) := by omega
                    have q2 : (i : Int) < (nw : Int) := by omega
                    obtain ⟨w9, hw9⟩ : ∃ w9, w9 = wr.alloc (.cells #[.string (mkB (JP.pathL x)), .slice sa sn sc, vv] 65) := ⟨_, rfl⟩
                    obtain ⟨gx, hgx⟩ : ∃ gx, gx = wr.heap.size := ⟨_, rfl⟩
                    have b9 : w9.heap[gx]? = some (.cells #[.string (mkB (JP.pathL x)), .slice sa sn sc, vv] 65 (0, 0)) := by rw [hw9, hgx]; exact heap_alloc_new wr _
                    have hb9 : Below wr.heap.size wr w9 := by rw [hw9]; exact (Below.refl _ wr).alloc (Nat.le_refl _) _
                    have hb89 := Hbel.out.trans (hb9.mono Hbel.out.size)
                    obtain ⟨jj, hjj⟩ := HJ.out
                    obtain ⟨kv, hkv⟩ := hjv
                    have hbd := sets_bound W HFit.out V0 HV0f.out i (by rw [Hnw.out]; omega)
                    have hfld := JP.sizeF_fields (JP.setsV V0 (W.take i))
                    have hTl : ∀ b ∈ blkOf u22, w8.heap.size ≤ b ∧ b < wr.heap.size := fun b hb => ⟨(HO.out.at (blkOf_mem.1 hb)).1, (HO.out.at (blkOf_mem.1 hb)).2.1⟩
                    have hkv := hkv.fresh (T' := blkOf u22) fun b hb => .inr (hTl b hb).1
                    have hset := set_any (blkOf u22) x.1 jj kv u21 (.slice sa sn sc) vv (JP.setsV V0 (W.take i)) x.2 w9 (hjj.below hb9) (hkv.below hb89) (hsv.below hb89) (by have := hxf.len; omega) (by omega) (fun b hb => Nat.lt_of_lt_of_le (hTl b hb).2 hb9.size)
                    rw [← sets_take V0 hxi] at hset
                    have HSet := Lib.hid hset
                    have HO9 := Lib.hid (HO.out.below stays_string hb9)
                    have HB9 := Lib.hid hb89
                    have B9 := Lib.hid b9
                    have Hxi := Lib.hid hxi
                    have hs89 := hb89.size
                    have cc9 := fun j => cell_block b9 j
                    clear hcc hcell hxi hsv hjj hkv hTl hb9 b9 hb89 hset hbd hfld HJ HO hsn hbs hxf hpath
                    rcases hvf with rfl | ⟨vt, vu, rfl⟩
                    all_goals
                      go_upto_region 23 with fail
                      rw [← hw9]
                      try rw [← hgx]
                      clear hw9 hgx e0 e1 e2
                      go_wp2_with fail
                      refine HSet.out.mono ?_
                      rintro E w10 ⟨v10, rfl, hj10, hb10⟩
                      have c10 := fun j => cell_block (below_block hb10 B9.out) j
                      have HJ10 := Lib.hid hj10
                      have HO10 := Lib.hid (HO9.out.below stays_string hb10)
                      have HB10 := Lib.hid (HB9.out.trans (hb10.mono hs89))
                      have hs10 := HB10.out.size
                      have hlen : ((W.take i).map fun x => mkB (JP.pathL x)).length ≤ i := by
                        rw [List.length_map, List.length_take]
                        exact Nat.min_le_left _ _
                      obtain ⟨w11, hw11⟩ : ∃ w11, w11 = w10.alloc (.cells #[.string (mkB (JP.pathL x))] 9) := ⟨_, rfl⟩
                      have HO11 : Hid (OwnAt RString 1 w11 w8.heap.size 9 u22 ((W.take i).map fun x => mkB (JP.pathL x))) := Lib.hid (by rw [hw11]; exact HO10.out.below stays_string ((Below.refl _ w10).alloc (Nat.le_refl _) _))
                      have HB11 : Hid (Below w8.heap.size w8 w11) := Lib.hid (by rw [hw11]; exact HB10.out.alloc HB10.out.size _)
                      have HJ11 : Hid (∃ j, JvAt j (blkOf u22) w11 v10 (JP.setsV V0 (W.take (i + 1)))) := Lib.hid (by rw [hw11]; obtain ⟨j, hj⟩ := HJ10.out; exact ⟨j, hj.below ((Below.refl _ w10).alloc (Nat.le_refl _) _)⟩)
                      have HR11 : Hid (RowAt RString 1 w11 (.slice (some ⟨w10.heap.size, 0, none⟩) 1 1) [mkB (JP.pathL x)]) := Lib.hid (RowAt.one (R := RString) (k := 1) (cs := #[.string (mkB (JP.pathL x))]) (x := mkB (JP.pathL x)) (by rw [hw11]; exact heap_alloc_new w10 _) rfl rfl)
                      have hsz11 := HB11.out.size
                      clear hj10 hb10 HSet HJ10 HO10 HO9 cc9
                      go_wp2_with (at_builtin; rw [← hw11]; refine wpList_append_ownAt (R := RString) (k := 1) (e := 9) (B := w8.heap.size) (m := [mkB (JP.pathL x)]) _ (by rfl) _ _ _ (by rfl) j0 _ 16 Tryz.underlying28 hj0 hy0 hy1 hy2 rfl (by omega) flat_string one_string _ (by rfl) HO11.out _ (by rfl) HR11.out (by unfold maxLen; simp only [List.length_singleton]; omega) (by simp only [List.length_singleton]; omega) hsz11 ?_)
                      intro v' w12 hv' hg12 hr12 hl12
                      try rw [← hw11] at hg12
                      have HB12 := Lib.hid (below_of_grown HB11.out hsz11 hg12 hr12)
                      have HJ12 : Hid (∃ j, JvAt j (blkOf v') w12 v10 (JP.setsV V0 (W.take (i + 1)))) := Lib.hid (by
                        obtain ⟨j, hj⟩ := HJ11.out
                        refine ⟨j, jv_appended hj hg12 ?_⟩
                        rcases hl12 with h | h
                        · exact .inl h
                        · exact .inr (by rw [hw11, World.size_alloc]; exact h))
                      have HO12 : Hid (OwnAt RString 1 w12 w8.heap.size 9 v' ((W.take (i + 1)).map fun x => mkB (JP.pathL x))) := Lib.hid (by
                        rw [List.take_add_one, Hxi.out]
                        show OwnAt RString 1 w12 w8.heap.size 9 v' ((_ ++ [x]).map fun x => mkB (JP.pathL x))
                        rw [List.map_append, List.map_take]; exact hv')
                      clear hv' hg12 hr12 hl12 HO11 HB11 HJ11 HR11 c10 hw11
                      go_wp2_with fail
                      go_roundg k
                      case measure => omega
                      case rel => exact ⟨i + 1, by omega, by go_num, HJ12, HO12, HB12⟩
          · have Hno : Hid (¬ JP.kind WX = 6) := Lib.hid k2
            have q2 : (JP.kind WX == 6) = false := by rw [beq_eq_false_iff_ne]; exact k2
            obtain ⟨kz, hkz⟩ : ∃ k, JP.kind WX = k := ⟨_, rfl⟩
            rw [hkz] at HK2 q2
            rw [k1] at HK1
            clear k1 k2 hkz
            go_wp2_with fail
            refine HK1.out.mono ?_
            rintro E w5 ⟨rfl, rfl⟩
            go_wp2_with fail
            refine HK2.out.mono ?_
            rintro E w5 ⟨rfl, rfl⟩
            clear cw HK1 HK2
            go_wp2_with fail
            (try simp only [Exit.inBlock, Exit.then])
            refine bodyPost_ret (results_tmp4 rfl _ _ _) rfl ?_
            exact apply_no (by decide) (by decide) (fun W a _ _ _ _ => Hno.out (by rw [← HWX.out]; exact a.2.2.2.2.2)) HBw.out (fun _ _ _ _ _ => rfl)
        · have Hno : Hid (¬ JP.kind X = 6) := Lib.hid k1
          have hk5 : JP.kind X = 1 ∨ JP.kind X = 2 ∨ JP.kind X = 3 ∨ JP.kind X = 4 ∨ JP.kind X = 5 := by
            cases X with
            | nul => exact .inl rfl
            | bool _ => exact .inr (.inl rfl)
            | num _ => exact .inr (.inr (.inl rfl))
            | str _ => exact .inr (.inr (.inr (.inl rfl)))
            | list _ => exact .inr (.inr (.inr (.inr rfl)))
            | obj _ => exact absurd rfl k1
          clear k1
          rcases hk5 with kv | kv | kv | kv | kv
          all_goals
            rw [kv] at HK1
            clear kv
            go_wp2_with fail
            refine HK1.out.mono ?_
            rintro E w5 ⟨rfl, rfl⟩
            clear cw HK1 HK2
            go_wp2_with fail
            (try simp only [Exit.inBlock, Exit.then])
            refine bodyPost_ret (results_tmp4 rfl _ _ _) rfl ?_
            exact apply_no (by decide) (by decide) (fun W a _ _ _ _ => Hno.out (by rw [← HX.out]; exact a.2.2.2.2.1)) HBw.out (fun _ _ _ _ _ => rfl)
      · have q3 : (z == 0) = false := by rw [beq_eq_false_iff_ne]; exact hz0
        have Hz0 := Lib.hid hz0
        clear hz0
        go_wp2_with fail
        (try simp only [Exit.inBlock, Exit.then])
        refine bodyPost_ret (results_tmp4 rfl _ _ _) rfl ?_
        exact apply_no Hz0.out HA.out.ne (fun W a _ _ _ _ => Hz0.out (HA.out.iff.2 ⟨a.1, fun _ => a.2.1, fun _ => a.2.2.1, fun _ => a.2.2.2.1⟩)) HBw.out (fun a b c d _ => (Hz0.out (HA.out.iff.2 ⟨a, fun _ => b, fun _ => c, fun _ => d⟩)).elim)
    | succ k =>
      have hb1r : Below w1.heap.size w1 wr := HA.out.only.below HB14.out hs16 hs4
      have hb435 := HA.out.only.block (g16 + 1) (deal_size H435.out) (.inr (Nat.le_refl _))
      rw [H435.out] at hb435
      have cc := fun j => cell_block hb435 j
      have HB1r := Lib.hid hb1r
      clear hb435 hb1r
      obtain ⟨rfl, rfl⟩ | ⟨rfl, rfl⟩ | ⟨rfl, rfl⟩ : (i = 0 ∧ k = 2) ∨ (i = 1 ∧ k = 1) ∨ (i = 2 ∧ k = 0) := by omega
      · by_cases hz0 : z = 0
        · subst hz0
          have cc2 := cc 0
          have HC := Lib.hid (apply1_any (g6 := g6) l wr (HRow.out.below stays_owned HB1r.out) (by rw [HnO.out]; exact hl') Hz.out (let ⟨mm, hmm⟩ := HE1.out.2.2; ⟨mm, hmm.below HB1r.out⟩) (below_block HB1r.out B6.out))
          clear cc2
          go_wp2_with fail
          refine HC.out.mono ?_
          rintro E w5 ⟨z5, rfl, hz5, hz511, hb5⟩
          have HA2 : Hid (AskAt live.data.toList (l.map oP) mb want.data.toList g16 w4 1 z5 w5) := Lib.hid (HA.out.one rfl hz5 hz511 hb5)
          clear hz5 hz511 hb5 HC HA cc
          go_wp2_with fail
          go_roundg 2
          case measure => omega
          case rel => exact ⟨1, z5, by omega, by go_num, rfl, HA2⟩
        · have HA2 : Hid (AskAt live.data.toList (l.map oP) mb want.data.toList g16 w4 1 z wr) := Lib.hid (HA.out.skip hz0)
          have q3 : (z == 0) = false := by rw [beq_eq_false_iff_ne]; exact hz0
          clear hz0 HA
          go_wp2_with fail
          go_roundg 2
          case measure => omega
          case rel => exact ⟨1, z, by omega, by go_num, rfl, HA2⟩
      · by_cases hz0 : z = 0
        · subst hz0
          have cc2 := cc 1
          have HC := Lib.hid (apply2_any (g7 := g6 + 1) (mkB mb) wr (by rw [mkB_size]; exact hmb) (below_block HB1r.out B7.out))
          obtain ⟨z5, hz5⟩ : ∃ z, NameP.check mb = z := ⟨_, rfl⟩
          rw [mkB_list, hz5] at HC
          have HA2 : Hid (AskAt live.data.toList (l.map oP) mb want.data.toList g16 w4 2 z5 wr) := Lib.hid (HA.out.two rfl hz5)
          clear hz5 cc2 HA
          go_wp2_with fail
          refine HC.out.mono ?_
          rintro E w5 ⟨rfl, rfl⟩
          clear HC cc
          go_wp2_with fail
          go_roundg 1
          case measure => omega
          case rel => exact ⟨2, z5, by omega, by go_num, rfl, HA2⟩
        · have HA2 : Hid (AskAt live.data.toList (l.map oP) mb want.data.toList g16 w4 2 z wr) := Lib.hid (HA.out.skip hz0)
          have q3 : (z == 0) = false := by rw [beq_eq_false_iff_ne]; exact hz0
          clear hz0 HA
          go_wp2_with fail
          go_roundg 1
          case measure => omega
          case rel => exact ⟨2, z, by omega, by go_num, rfl, HA2⟩
      · by_cases hz0 : z = 0
        · subst hz0
          have cc2 := cc 2
          obtain ⟨v0, hv0, _⟩ := HA.out.cell
          have HC := Lib.hid (apply3_any (g8 := g6 + 2) (g16 := g16) want wr hwt (below_block HB1r.out B8.out) hv0)
          clear hv0 cc2
          go_wp2_with fail
          refine HC.out.mono ?_
          rintro E w5 ⟨rfl, hwv, hon⟩
          have HA2 : Hid (AskAt live.data.toList (l.map oP) mb want.data.toList g16 w4 3 (JP.readL want.data.toList).2 w5) := Lib.hid (HA.out.three rfl hwv hon)
          obtain ⟨z5, hz5⟩ : ∃ z, (JP.readL want.data.toList).2 = z := ⟨_, rfl⟩
          rw [hz5] at HA2 ⊢
          clear hwv hon HC HA cc hz5
          go_wp2_with fail
          go_roundg 0
          case measure => omega
          case rel => exact ⟨3, z5, by omega, by go_num, rfl, HA2⟩
        · have HA2 : Hid (AskAt live.data.toList (l.map oP) mb want.data.toList g16 w4 3 z wr) := Lib.hid (HA.out.skip hz0)
          have q3 : (z == 0) = false := by rw [beq_eq_false_iff_ne]; exact hz0
          clear hz0 HA
          go_wp2_with fail
          go_roundg 0
          case measure => omega
          case rel => exact ⟨3, z, by omega, by go_num, rfl, HA2⟩
end Go.Proofs.YtdcmnpeabjallaaGreatDoor
namespace Go.Proofs.YtdcmnpeabjallaaGreatDoor
open Go.RowKit
theorem eqS_no {l m : List ByteArray} {i : Nat} {x y : ByteArray} (hx : l[i]? = some x) (hy : m[i]? = some y) (h : x ≠ y) : decide (l = m) = false := by
  rw [decide_eq_false_iff_not]
  intro e
  subst e
  rw [hx] at hy
  cases hy
  exact h rfl
theorem eqS_yes {l m : List ByteArray} (h : l.length = m.length) (k : ∀ (i : Nat) (x y : ByteArray), i < l.length → l[i]? = some x → m[i]? = some y → x = y) : decide (l = m) = true := by
  rw [decide_eq_true_iff]
  apply List.ext_getElem h
  intro i hi hj
  exact k i _ _ hi (List.getElem?_eq_getElem hi) (List.getElem?_eq_getElem hj)
set_option maxRecDepth 100000 in
set_option maxHeartbeats 800000 in
theorem eqStrs_any (v1 v2 : Value) (l m : List ByteArray) (w : World) (h1 : StrAt w v1 l) (h2 : StrAt w v2 m) (hl : l.length ≤ 8388608) (hm : m.length ≤ 8388608) :
    Calls Tryz.prog 21 #[v1, v2] w fun e w' => e = .returned (.bool (decide (l = m))) ∧ w = w' := by
  obtain ⟨a1, c1, rfl, _, _⟩ := h1.len
  obtain ⟨a2, c2, rfl, _, _⟩ := h2.len
  have H1 := Lib.hid h1
  have H2 := Lib.hid h2
  clear h1 h2
  by_cases hlen : l.length = m.length
  · have q1 : ((l.length : Int) != (m.length : Int)) = false := by rw [bne_eq_false_iff_eq]; omega
    have Hlen := Lib.hid hlen
    clear hlen
    go_enter Tryz.func21, Tryz.ntmps21
    go_wp2_with fail
    clear q1
    go_loopg [14] l.length (fun g u14 wr => ∃ i : Nat, i + g = l.length ∧ u14 = .int .i64 (i : Int) ∧ Hid (∀ (k : Nat) (x y : ByteArray), k < i → l[k]? = some x → m[k]? = some y → x = y) ∧ w = wr)
    case atStart => exact ⟨0, by omega, rfl, Lib.hid (fun k _ _ hk => by omega), rfl⟩
    case round =>
      obtain ⟨i, hig, rfl, Hall, rfl⟩ := hrel
      cases gk with
      | zero =>
        obtain rfl : i = l.length := by omega
        have Hyes : Hid (decide (l = m) = true) := eqS_yes Hlen.out fun k x y hk hx hy => Hall.out k x y hk hx hy
        go_wp2_with fail
        go_ret
        exact ⟨congrArg (fun b => Ending.returned (Value.bool b)) Hyes.out.symm, rfl⟩
      | succ g =>
        have hil : i < l.length := by omega
        have him : i < m.length := by have := Hlen.out; omega
        obtain ⟨x, hx⟩ : ∃ x, l[i]? = some x := ⟨l[i]'(by omega), List.getElem?_eq_getElem _⟩
        obtain ⟨y, hy⟩ : ∃ y, m[i]? = some y := ⟨m[i]'(by omega), List.getElem?_eq_getElem _⟩
        obtain ⟨b, o, c', hv, _, _, hbs, hcell⟩ := H1.out.form (by omega)
        injection hv with u1 u2 u3
        subst u1
        clear u2 u3
        obtain ⟨b', o', c'', hv, _, _, hbs', hcell'⟩ := H2.out.form (by omega)
        injection hv with u1 u2 u3
        subst u1
        clear u2 u3
        have e0 : w.cell? ⟨b, o + i, none⟩ = some (.string x) := hcell i x hx
        have f0 : w.cell? ⟨b', o' + i, none⟩ = some (.string y) := hcell' i y hy
        have q1 : (0 : Int) ≤ (i : Int) := by omega
        have q2 : (i : Int) < (l.length : Int) := by omega
        have q3 : (i : Int) < (m.length : Int) := by omega
        have Hx := Lib.hid hx
        have Hy := Lib.hid hy
        clear hcell hcell' hx hy
        by_cases he : x = y
        · have Hall2 : Hid (∀ (k : Nat) (x y : ByteArray), k < i + 1 → l[k]? = some x → m[k]? = some y → x = y) := Lib.hid fun k x' y' hk hx' hy' => by
            rcases Nat.lt_or_ge k i with h | h
            · exact Hall.out k x' y' h hx' hy'
            · obtain rfl : k = i := by omega
              have a := Hx.out; have b := Hy.out
              rw [a] at hx'; rw [b] at hy'
              cases hx'; cases hy'
              exact he
          have q4 : (x.toList == y.toList) = true := by rw [he]; simp
          clear he
          go_wp2_with fail
          go_roundg g
          case measure => omega
          case rel => exact ⟨i + 1, by omega, by go_num, Hall2, rfl⟩
        · have Hno : Hid (decide (l = m) = false) := Lib.hid (eqS_no Hx.out Hy.out he)
          have q4 : (x.toList == y.toList) = false := by rw [beq_eq_false_iff_ne]; exact fun h => he (toList_inj h)
          clear he
          go_wp2_with fail
          go_ret
          exact ⟨congrArg (fun b => Ending.returned (Value.bool b)) Hno.out.symm, rfl⟩
  · have q1 : ((l.length : Int) != (m.length : Int)) = true := by rw [bne_iff_ne]; omega
    have Hno : Hid (decide (l = m) = false) := by show _ = _; rw [decide_eq_false_iff_not]; exact fun h => hlen (congrArg _ h)
    clear hlen
    go_enter Tryz.func21, Tryz.ntmps21
    go_wp2_with fail
    go_ret
    exact ⟨congrArg (fun b => Ending.returned (Value.bool b)) Hno.out.symm, rfl⟩
end Go.Proofs.YtdcmnpeabjallaaGreatDoor
namespace Go.Proofs.YtdcmnpeabjallaaGreatDoor
open Go.RowKit
theorem below_drew1' (w : World) : Below w.heap.size w w.drew := ⟨rfl, rfl, rfl, Nat.le_refl _, fun _ _ => rfl⟩
theorem eqStrs_yes (v1 v2 : Value) (l : List ByteArray) (w : World) (h1 : StrAt w v1 l) (h2 : StrAt w v2 l) (hl : l.length ≤ 8388608) :
    Calls Tryz.prog 21 #[v1, v2] w fun e w' => e = .returned (.bool true) ∧ w = w' := by
  refine (eqStrs_any v1 v2 l l w h1 h2 hl hl).mono ?_
  rintro E w' ⟨rfl, rfl⟩
  exact ⟨by rw [decide_eq_true rfl], rfl⟩
def okOwned (x : GOwned) : Prop := x.paths.length ≤ 1048576
set_option maxRecDepth 100000 in
set_option maxHeartbeats 3200000 in
theorem sameOwned_yes (x : GOwned) (y1 z1 : Value) (w : World) (hx : OwnedR w [.string x.manager, y1] x) (hy : OwnedR w [.string x.manager, z1] x) (ok : okOwned x) :
    Calls Tryz.prog 12 #[.agg #[.string x.manager, y1], .agg #[.string x.manager, z1]] w fun e w' => e = .returned (.bool true) ∧ Below w.heap.size w w' := by
  obtain ⟨_, hcs, p1⟩ := hx
  simp only [List.cons.injEq, and_true, true_and] at hcs
  subst hcs
  obtain ⟨_, hcs, r1⟩ := hy
  simp only [List.cons.injEq, and_true, true_and] at hcs
  subst hcs
  unfold okOwned at ok
  obtain ⟨m1, hm1⟩ : ∃ m, x.paths.length = m := ⟨_, rfl⟩
  obtain ⟨a1, c1, rfl, -, -⟩ := p1.row.len
  obtain ⟨d1, e1, rfl, -, -⟩ := r1.row.len
  rw [hm1] at p1 r1 ok ⊢
  have q0 : (x.manager.toList == x.manager.toList) = true := beq_self_eq_true _
  obtain ⟨w1, hw1⟩ : ∃ w1, w1 = w.alloc (.cells #[.string x.manager, .slice a1 m1 c1] 30) := ⟨_, rfl⟩
  obtain ⟨w2, hw2⟩ : ∃ w2, w2 = w1.alloc (.cells #[.string x.manager, .slice d1 m1 e1] 30) := ⟨_, rfl⟩
  obtain ⟨g, hg⟩ : ∃ g, g = w.heap.size := ⟨_, rfl⟩
  have hs1 : w1.heap.size = g + 1 := by rw [hw1, hg, World.size_alloc]
  have b1 : w1.heap[g]? = some (.cells #[.string x.manager, .slice a1 m1 c1] 30 (0, 0)) := by rw [hw1, hg]; exact heap_alloc_new w _
  have b2 : w2.heap[g + 1]? = some (.cells #[.string x.manager, .slice d1 m1 e1] 30 (0, 0)) := by rw [hw2, ← hs1]; exact heap_alloc_new w1 _
  have hb1 : Below w.heap.size w w1 := by rw [hw1]; exact (Below.refl _ _).alloc (Nat.le_refl _) _
  have hb2 : Below w1.heap.size w1 w2 := by rw [hw2]; exact (Below.refl _ _).alloc (Nat.le_refl _) _
  have hb : Below w.heap.size w w2 := hb1.trans (hb2.mono hb1.size)
  have B1 := Lib.hid (below_block hb2 b1)
  have B2 := Lib.hid b2
  have dd := fun i => cell_block B1.out i
  have ee := fun i => cell_block B2.out i
  have Hb := Lib.hid hb
  have P1 := Lib.hid (p1.below hb)
  have R1 := Lib.hid (r1.below hb)
  have M1 := Lib.hid hm1
  clear b1 b2 hb1 hb2 hb p1 r1 hm1
  go_enter Tryz.func12, Tryz.ntmps12
  go_upto_region 1 with fail
  rw [← hw1, ← hw2]
  try rw [hs1]
  try rw [← hg]
  clear hw1 hw2 hg hs1
  go_wp2_with fail
  refine (eqStrs_yes _ _ x.paths w2 P1.out R1.out (by rw [M1.out]; omega)).mono ?_
  rintro E w3 ⟨rfl, rfl⟩
  go_wp2_with fail
  go_ret
  exact ⟨rfl, Hb.out⟩
set_option maxRecDepth 100000 in
set_option maxHeartbeats 3200000 in
theorem sameOwneds_yes (v1 v2 : Value) (l : List GOwned) (w : World) (h1 : RowAt OwnedR 2 w v1 l) (h2 : RowAt OwnedR 2 w v2 l) (hl : l.length ≤ 8388608) (ok : ∀ r ∈ l, okOwned r) :
    Calls Tryz.prog 11 #[v1, v2, .func (.func 12) #[] #[]] w fun e w' => e = .returned (.bool true) ∧ Below w.heap.size w w' := by
  obtain ⟨a1, c1, rfl, _, _⟩ := h1.len
  obtain ⟨a2, c2, rfl, _, _⟩ := h2.len
  have H1 := Lib.hid h1
  have H2 := Lib.hid h2
  have Ok := Lib.hid ok
  obtain ⟨n, hn⟩ : ∃ n, l.length = n := ⟨_, rfl⟩
  rw [hn] at H1 H2 hl ⊢
  have Hn := Lib.hid hn
  clear h1 h2 ok hn
  have q1 : ((n : Int) != (n : Int)) = false := by rw [bne_eq_false_iff_eq]
  go_enter Tryz.func11, Tryz.ntmps11
  go_wp2_with fail
  clear q1
  go_loopg [15] n (fun g u15 wr => ∃ i : Nat, i + g = n ∧ u15 = .int .i64 (i : Int) ∧ Hid (Below w.heap.size w wr))
  case atStart => exact ⟨0, by omega, rfl, Lib.hid (Below.refl _ _)⟩
  case round =>
    obtain ⟨i, hig, rfl, Hbel⟩ := hrel
    cases gk with
    | zero =>
      obtain rfl : n = i := by omega
      go_wp2_with fail
      go_ret
      exact ⟨rfl, Hbel.out⟩
    | succ k =>
      have hil : i < n := by omega
      obtain ⟨x, hx⟩ : ∃ x, l[i]? = some x := ⟨l[i]'(by rw [Hn.out]; exact hil), List.getElem?_eq_getElem _⟩
      obtain ⟨b, o, c', hv, _, _, hbs, hcell⟩ := H1.out.form (by rw [Hn.out]; omega) (by omega)
      injection hv with u1 u2 u3
      subst u1
      clear u2 u3
      obtain ⟨b', o', c'', hv, _, _, hbs', hcell'⟩ := H2.out.form (by rw [Hn.out]; omega) (by omega)
      injection hv with u1 u2 u3
      subst u1
      clear u2 u3
      obtain ⟨ds, _, hcc, hR⟩ := hcell i x hx
      obtain ⟨es, _, hdd, hS⟩ := hcell' i x hx
      have SR := stays_owned _ _ _ _ (keeps_below Hbel.out) hR
      have SS := stays_owned _ _ _ _ (keeps_below Hbel.out) hS
      have SR2 := SR
      have SS2 := SS
      obtain ⟨y1, rfl, _⟩ := SR2
      obtain ⟨z1, rfl, _⟩ := SS2
      have e0 : wr.cell? ⟨b, o + i * 2, none⟩ = some (.string x.manager) := (Hbel.out.cell (p := ⟨b, _, none⟩) hbs).trans (by simpa using hcc 0 _ rfl)
      have f0 : wr.cell? ⟨b', o' + i * 2, none⟩ = some (.string x.manager) := (Hbel.out.cell (p := ⟨b', _, none⟩) hbs').trans (by simpa using hdd 0 _ rfl)
      have e1 : wr.cell? ⟨b, o + i * 2 + 1, none⟩ = some (y1) := (Hbel.out.cell (p := ⟨b, _, none⟩) hbs).trans (hcc 1 _ rfl)
      have f1 : wr.cell? ⟨b', o' + i * 2 + 1, none⟩ = some (z1) := (Hbel.out.cell (p := ⟨b', _, none⟩) hbs').trans (hdd 1 _ rfl)
      have q1 : (0 : Int) ≤ (i : Int) := by omega
      have q2 : (i : Int) < (n : Int) := by omega
      have hb0 : b < wr.heap.size := Nat.lt_of_lt_of_le hbs Hbel.out.size
      have hb1 : b' < wr.heap.size := Nat.lt_of_lt_of_le hbs' Hbel.out.size
      have hokx := Ok.out x (List.mem_of_getElem? hx)
      have HC : Hid (∀ w', Below wr.heap.size wr w' → Calls Tryz.prog 12 #[.agg #[.string x.manager, y1], .agg #[.string x.manager, z1]] w' fun e w'' => e = .returned (.bool true) ∧ Below wr.heap.size wr w'') := Lib.hid fun w' hb' => by
        refine (sameOwned_yes x y1 z1 w' (stays_owned _ _ _ _ (keeps_below hb') SR) (stays_owned _ _ _ _ (keeps_below hb') SS) hokx).mono ?_
        rintro E w'' ⟨rfl, hb''⟩
        exact ⟨rfl, hb'.trans (hb''.mono hb'.size)⟩
      clear hcell hcell' hx hcc hdd hR hS SR SS hokx hbs hbs'
      go_upto_region 6 with fail
      refine wp_region_hold 10 (fun w' => Below wr.heap.size wr w') (by kernel_rfl) (by kernel_rfl) ?_ ?_
      · exact below_drew1' wr
      simp only [List.take_succ_cons, List.take_zero, List.drop_succ_cons, List.drop_zero]
      (first | (refine wpHold_pure (v := ?_) (by rfl) (fun w => ?_) ?_; rotate_left; focus (first | (go_simp; done) | (go_simp; with_reducible rfl))) | (refine wpHold_skip ?_ ?_; focus (go_simp; done)) | (refine wpHold_pure' (v := ?_) ?_ (fun w => ?_) ?_; rotate_left; focus (go_simp; done); focus (first | (go_simp; done) | (go_simp; with_reducible rfl)))); try simp only [Act.put, List.setIfInBounds_toArray, List.set_cons_zero, List.set_cons_succ]
      (first | (refine wpHold_pure (v := ?_) (by rfl) (fun w => ?_) ?_; rotate_left; focus (first | (go_simp; done) | (go_simp; with_reducible rfl))) | (refine wpHold_skip ?_ ?_; focus (go_simp; done)) | (refine wpHold_pure' (v := ?_) ?_ (fun w => ?_) ?_; rotate_left; focus (go_simp; done); focus (first | (go_simp; done) | (go_simp; with_reducible rfl)))); try simp only [Act.put, List.setIfInBounds_toArray, List.set_cons_zero, List.set_cons_succ]
      (first | (refine wpHold_pure (v := ?_) (by rfl) (fun w => ?_) ?_; rotate_left; focus (first | (go_simp; done) | (go_simp; with_reducible rfl))) | (refine wpHold_skip ?_ ?_; focus (go_simp; done)) | (refine wpHold_pure' (v := ?_) ?_ (fun w => ?_) ?_; rotate_left; focus (go_simp; done); focus (first | (go_simp; done) | (go_simp; with_reducible rfl)))); try simp only [Act.put, List.setIfInBounds_toArray, List.set_cons_zero, List.set_cons_succ]
      refine wpHold_pure (v := .pointer (some ⟨b, o + i * 2, none⟩)) (by rfl) (fun w' => ?_) ?_
      · go_simp
        done
      try simp only [Act.put, List.setIfInBounds_toArray, List.set_cons_zero, List.set_cons_succ]
      refine wpHold_read (v := .agg #[.string x.manager, y1]) (by rfl) (fun w' hI => ?_) ?_
      · have d0 := (hI.cell (p := ⟨b, o + i * 2, none⟩) hb0).trans e0
        have d1 := (hI.cell (p := ⟨b, o + i * 2 + 1, none⟩) hb0).trans e1
        go_simp
        done
      try simp only [Act.put, List.setIfInBounds_toArray, List.set_cons_zero, List.set_cons_succ]
      (first | (refine wpHold_pure (v := ?_) (by rfl) (fun w => ?_) ?_; rotate_left; focus (first | (go_simp; done) | (go_simp; with_reducible rfl))) | (refine wpHold_skip ?_ ?_; focus (go_simp; done)) | (refine wpHold_pure' (v := ?_) ?_ (fun w => ?_) ?_; rotate_left; focus (go_simp; done); focus (first | (go_simp; done) | (go_simp; with_reducible rfl)))); try simp only [Act.put, List.setIfInBounds_toArray, List.set_cons_zero, List.set_cons_succ]
      (first | (refine wpHold_pure (v := ?_) (by rfl) (fun w => ?_) ?_; rotate_left; focus (first | (go_simp; done) | (go_simp; with_reducible rfl))) | (refine wpHold_skip ?_ ?_; focus (go_simp; done)) | (refine wpHold_pure' (v := ?_) ?_ (fun w => ?_) ?_; rotate_left; focus (go_simp; done); focus (first | (go_simp; done) | (go_simp; with_reducible rfl)))); try simp only [Act.put, List.setIfInBounds_toArray, List.set_cons_zero, List.set_cons_succ]
      refine wpHold_pure (v := .pointer (some ⟨b', o' + i * 2, none⟩)) (by rfl) (fun w' => ?_) ?_
      · go_simp
        done
      try simp only [Act.put, List.setIfInBounds_toArray, List.set_cons_zero, List.set_cons_succ]
      refine wpHold_read (v := .agg #[.string x.manager, z1]) (by rfl) (fun w' hI => ?_) ?_
      · have d0 := (hI.cell (p := ⟨b', o' + i * 2, none⟩) hb1).trans f0
        have d1 := (hI.cell (p := ⟨b', o' + i * 2 + 1, none⟩) hb1).trans f1
        go_simp
        done
      try simp only [Act.put, List.setIfInBounds_toArray, List.set_cons_zero, List.set_cons_succ]
      refine wpHold_call (v := .bool true) (f := 12) (args := #[.agg #[.string x.manager, y1], .agg #[.string x.manager, z1]]) (by rfl) (fun w' => ?_) (fun w' hI => HC.out w' hI) ?_
      · simp only [go_sem]
        go_simp
        done
      try simp only [Act.put, List.setIfInBounds_toArray, List.set_cons_zero, List.set_cons_succ]
      refine wpHold_nil ?_
      intro w' hI
      have Hb' := Lib.hid (Hbel.out.trans (hI.mono Hbel.out.size))
      clear hI e0 f0 e1 f1 HC
      go_wp2_with fail
      go_roundg k
      case measure => omega
      case rel => exact ⟨i + 1, by omega, by go_num, Hb'⟩
end Go.Proofs.YtdcmnpeabjallaaGreatDoor
namespace Go.Proofs.YtdcmnpeabjallaaGreatDoor
open Go.RowKit
open JP (JV Bs Lf)
def gP (x : JP.OwnP) : GOwned := ⟨mkB x.1, x.2.map mkB⟩
def Small (l : List GOwned) : Prop := l.length ≤ 1048576 ∧ ∀ x ∈ l, x.manager.size ≤ 1048576 ∧ x.paths.length ≤ 1048576 ∧ ∀ p ∈ x.paths, p.size ≤ 1048576
theorem tot_mem : ∀ {l : List ByteArray} {x : ByteArray}, x ∈ l → x.size + 1 ≤ total l
  | a :: r, x, h => by
    unfold total
    rw [List.map_cons, List.sum_cons]
    rcases List.mem_cons.1 h with rfl | h
    · omega
    · have := tot_mem h
      unfold total at this
      omega
theorem small_of_bulk {l : List GOwned} (h : (l.map ownedB).sum ≤ 1048576) : Small l := by
  have h1 : ∀ l : List GOwned, l.length ≤ (l.map ownedB).sum ∧ ∀ x ∈ l, ownedB x ≤ (l.map ownedB).sum := by
    intro l
    induction l with
    | nil => exact ⟨Nat.le_refl _, fun x h => by cases h⟩
    | cons a r ih =>
      rw [List.map_cons, List.sum_cons, List.length_cons]
      have hp : 1 ≤ ownedB a := by unfold ownedB; omega
      refine ⟨by omega, fun x hx => ?_⟩
      rcases List.mem_cons.1 hx with rfl | hx
      · omega
      · have := ih.2 x hx; omega
  obtain ⟨h2, h3⟩ := h1 l
  refine ⟨by omega, fun x hx => ?_⟩
  have h4 := h3 x hx
  have h6 : ownedB x = ((x.manager.size + 1) + ((total x.paths + 1) + 0)) + 1 := rfl
  have h5 := total_length x.paths
  refine ⟨by omega, by omega, fun p hp => ?_⟩
  have := tot_mem hp
  omega
theorem leaves_fit {W : List Leaf} {want : JV} (h : JP.IsLeaves W want) (hf : JP.Fit want) : ∀ x ∈ W, LeafFit x := fun x hx => by
  obtain ⟨r, e1, e2, e3, e4⟩ := JP.leaf_there want [] hf x (h.1.mem_iff.1 hx)
  rw [List.nil_append] at e1
  subst e1
  refine ⟨e3, ?_, fun s hs => ?_⟩
  · have := JP.at_deep (JP.atO_atW e2); have := hf.2.2.1; omega
  · have := JP.way_steps x.1 want x.2 (JP.fit_S hf) e2 s hs
    have := hf.2.2.2
    omega
theorem pathL_len {x : Leaf} (hx : LeafFit x) : (JP.pathL x).length ≤ 1048576 := by
  have h1 : joinL (x.1.map mkB) = JP.pathL x := joinL_mk x.1
  have h2 := joinL_len (x.1.map mkB)
  rw [h1, total_mk] at h2
  have h3 : ∀ l : List Bs, (∀ s ∈ l, s.length ≤ 2000) → (l.map fun s => s.length + 1).sum ≤ l.length * 2001 := by
    intro l
    induction l with
    | nil => intro _; simp
    | cons a r ih =>
      intro h
      rw [List.map_cons, List.sum_cons, List.length_cons]
      have := h a (List.mem_cons_self ..)
      have := ih fun s hs => h s (List.mem_cons_of_mem _ hs)
      omega
  have h4 := h3 x.1 hx.steps
  have h5 := hx.len
  omega
theorem told_small {live want s : Bs} {l : List GOwned} {L : List JP.OwnP} {m : Bs} {force : Bool} {bad : List Bs} {er : Int} (h : JP.ApplyIs live (l.map oP) m want force s L bad er) (hl : Small l) (hm : m.length ≤ 1048576) : Small (L.map gP) ∧ s.length ≤ 1048576 := by
  by_cases e : er = 0
  · subst e
    obtain ⟨ok, W, hW, _, h6, ht, rfl, rfl⟩ := h.yes rfl
    have hfw := JP.read_fit' ok.2.2.2.1
    have hfit := leaves_fit hW hfw
    have hwl : W.length ≤ 200 := by
      have h1 := JP.gat_len [] (JP.readL want).1
      have h2 := hfw.2.1
      rw [hW.1.length_eq]; omega
    refine ⟨⟨by rw [List.length_map]; omega, fun x hx => ?_⟩, by have := JP.tellT_len (JP.outV (JP.readL live).1 (l.map oP) m W); omega⟩
    obtain ⟨y, hy, rfl⟩ := List.mem_map.1 hx
    obtain ⟨_, hy⟩ := JP.fin_mem.1 hy
    show (mkB y.1).size ≤ _ ∧ (y.2.map mkB).length ≤ _ ∧ _
    rw [mkB_size, List.length_map]
    rcases hy with rfl | ⟨hy, _⟩
    · refine ⟨hm, by show (W.map _).length ≤ _; rw [List.length_map]; omega, fun p hp => ?_⟩
      obtain ⟨t, ht, rfl⟩ := List.mem_map.1 hp
      obtain ⟨z, hz, rfl⟩ := List.mem_map.1 ht
      rw [mkB_size]; exact pathL_len (hfit z hz)
    · obtain ⟨z, hz, e1, e2⟩ := JP.seize_mem hy
      obtain ⟨g, hg, rfl⟩ := List.mem_map.1 hz
      obtain ⟨s1, s2, s3⟩ := hl.2 g hg
      have hsub : ∀ t ∈ y.2, t ∈ (oP g).2 := fun t ht => by
        rcases e2 with ⟨_, e⟩ | ⟨_, e⟩
        · rw [e] at ht; exact ht
        · rw [e] at ht; exact (List.mem_filter.1 ht).1
      have hlen : y.2.length ≤ (oP g).2.length := by
        rcases e2 with ⟨_, e⟩ | ⟨_, e⟩
        · rw [e]; exact Nat.le_refl _
        · rw [e]; exact List.length_filter_le _ _
      refine ⟨?_, Nat.le_trans hlen (by show (g.paths.map _).length ≤ _; rw [List.length_map]; exact s2), fun p hp => ?_⟩
      · rw [← e1]
        show g.manager.data.toList.length ≤ _
        rw [Array.length_toList]; exact s1
      · obtain ⟨t, ht, rfl⟩ := List.mem_map.1 hp
        obtain ⟨q, hq, rfl⟩ := List.mem_map.1 (hsub t ht)
        rw [mkB_of]; exact s3 q hq
  · obtain ⟨rfl, rfl⟩ := h.no e
    exact ⟨⟨Nat.zero_le _, fun x hx => by cases hx⟩, Nat.zero_le _⟩
theorem told_row {lo : Nat} {wl w : World} {B : Nat} {v : Value} {L : List JP.OwnP} (h : OwnAt (OwnedX lo wl) 2 w B 30 v L) (hb : Below wl.heap.size wl w) : RowAt OwnedR 2 w v (L.map gP) := by
  rcases h.row with ⟨h1, h2⟩ | ⟨a, c, h1, h2, h3, h4⟩
  · exact .inl ⟨h1, by rw [h2]; rfl⟩
  · refine .inr ⟨a, c, by rw [List.length_map]; exact h1, by rw [List.length_map]; exact h2, h3, fun j x hx => ?_⟩
    rw [List.getElem?_map] at hx
    obtain ⟨y, hy, rfl⟩ := Option.map_eq_some_iff.1 hx
    obtain ⟨cs, g1, g2, v1, e1, e2⟩ := h4 j y hy
    exact ⟨cs, g1, g2, v1, e1, (e2.below stays_string hb).row.strs⟩
theorem read_one : JP.readL [49] = (.num 1, 0) := by
  have h3 : JP.text (.num 1) = [49] := by decide +kernel
  have h : JP.Fit (.num 1) := ⟨by rw [JP.wf]; exact ⟨by decide, by decide⟩, by decide, by decide, by rw [h3]; decide⟩
  have h2 := JP.fit_read h
  rw [h3] at h2; exact h2
theorem read_braces : JP.readL [123, 125] = (.obj [], 0) := by
  have h : JP.Fit (.obj []) := ⟨by rw [JP.wf]; exact ⟨List.Pairwise.nil, by rw [JP.wfF]; trivial⟩, by decide, by decide, by decide⟩
  have h2 := JP.fit_read h
  have h3 : JP.text (.obj []) = [123, 125] := by decide
  rw [h3] at h2; exact h2
set_option maxRecDepth 100000 in
set_option maxHeartbeats 3200000 in
theorem awry_any (w : World) (hE : Env w) : Calls Tryz.prog 10 #[] w fun e w' => e = .returned (.bool true) ∧ Below w.heap.size w w' := by
  have HA := Lib.hid (apply_any ⟨#[49]⟩ ⟨#[123, 125]⟩ (.slice none 0 0) [] [97] false w (.inl ⟨rfl, rfl⟩) (by decide) (fun x hx => by cases hx) (by decide) (by decide) (by decide) hE)
  clear hE
  go_enter Tryz.func10, Tryz.ntmps10
  go_wp2_with fail
  refine HA.out.mono ?_
  rintro E w1 ⟨s, vL, vb, L, bad, er, wl, rfl, _, hown, _, hvb, hb, hk⟩
  have her : er = 8 := hk (by show (JP.readL [49]).2 = 0; rw [read_one]) ⟨Nat.zero_le _, List.Pairwise.nil, fun _ h => by cases h⟩ (by decide) (by show (JP.readL [123, 125]).2 = 0; rw [read_braces]) (fun h => by
    have h1 : JP.kind (JP.readL [49]).1 = 6 := h.1
    rw [read_one] at h1; exact absurd h1 (by decide))
  subst her
  obtain ⟨a2, c2, rfl, -, -⟩ := hown.row.len
  obtain ⟨a3, c3, rfl, -, -⟩ := hvb.row.len
  have HB := Lib.hid hb
  clear hown hb hk hvb HA
  go_wp2_with fail
  go_ret
  exact ⟨rfl, HB.out⟩
end Go.Proofs.YtdcmnpeabjallaaGreatDoor
namespace Go.Proofs.YtdcmnpeabjallaaGreatDoor
open Go.RowKit
open JP (JV Bs Lf)
end Go.Proofs.YtdcmnpeabjallaaGreatDoor
namespace Go.Proofs.YtdcmnpeabjallaaGreatDoor
open Go.RowKit
open JP (JV Bs Lf)
end Go.Proofs.YtdcmnpeabjallaaGreatDoor
namespace Go.Proofs.YtdcmnpeabjallaaGreatDoor
open Go.RowKit
open JP (JV Bs Lf)
end Go.Proofs.YtdcmnpeabjallaaGreatDoor
namespace Go.Proofs.YtdcmnpeabjallaaGreatDoor
open Go.RowKit
open JP (JV Bs Lf)
end Go.Proofs.YtdcmnpeabjallaaGreatDoor
namespace Go.Proofs.YtdcmnpeabjallaaGreatDoor
open Go.RowKit
end Go.Proofs.YtdcmnpeabjallaaGreatDoor
namespace Go.Proofs.YtdcmnpeabjallaaGreatDoor
open Go.RowKit
open JP (JV Bs Lf)
end Go.Proofs.YtdcmnpeabjallaaGreatDoor
namespace Go.Proofs.YtdcmnpeabjallaaGreatDoor
open Go.RowKit
def markB : ByteArray := ⟨#[109, 97, 114, 107]⟩
theorem wpList_append_strs_spare {P : Program} {l m : List ByteArray} (w : World) {ops : Array Oper} {rest : List Oper} {o : Oper} {a : Act} {Q : Exit → Act → World → Prop} (hgd : o.guard = none) (s x : Operand) (t : TypeId)
    (ho : o.op = .call { callee := .builtin .append, args := #[s, x], argTypes := #[t, t] })
    (base : Nat) (e : TypeId) (i : TypeInfo) (ht : P.underlying t = some (.slice e)) (hi : P.info? e = some i) (hsize : i.size = 1)
    (g n cap : Nat) (hs : a.eval s = .slice (some ⟨g, 0, none⟩) n cap) (hown : w.ownsRow base e 1 (.slice (some ⟨g, 0, none⟩) n cap) n (strs l)) (xv : Value) (hx : a.eval x = xv) (hrow : StrAt w xv m)
    (k : Nat) (hk : k = n + m.length) (hroom : k ≤ cap)
    (h : ∀ w', w'.ownsRow base e 1 (.slice (some ⟨g, 0, none⟩) k cap) k (strs (l ++ m)) → w.grownBy w' (some g) → wpList P ops Q rest (a.put o.dst (.slice (some ⟨g, 0, none⟩) k cap)) w') : wpList P ops Q (o :: rest) a w := by
  subst hk
  rcases hrow with ⟨rfl, rfl⟩ | ⟨ad, c, rfl, h1, h2, h3⟩
  · have h9 := h w (by simpa using hown) (World.grownBy.refl w _)
    simp only [List.length_nil, Nat.add_zero] at h9
    exact wpList_append_own_none hgd s x t ho base e i 1 ht hi _ n _ hs hown hx h9
  · refine wpList_append_own_spare w hgd s x t ho base e i 1 ht hi hsize g n cap _ hs hown ad m.length c (strs m) hx (by simp [strs]) (fun j u hu => ?_) (by simp [strs]; intros; subst_vars; rfl) hroom
      (fun w' h2 h3 => h w' (by rw [strs_append]; exact h2) h3)
    simp only [strs, List.getElem?_map] at hu
    cases hm : m[j]? with
    | none => rw [hm] at hu; cases hu
    | some y =>
      rw [hm] at hu
      simp only [Option.map_some, Option.some.injEq] at hu
      subst hu
      exact h3 j y hm
theorem two_marks {w : World} {g : Nat} {t : TypeId} (h : w.heap[g]? = some (.cells #[.string markB, .string markB] t (0, 0))) : StrAt w (.slice (some ⟨g, 0, none⟩) 2 2) [markB, markB] := by
  refine .inr ⟨_, 2, rfl, Nat.le_refl _, by unfold maxLen; decide, fun j x hx => ?_⟩
  have hj : j < 2 := (List.getElem?_eq_some_iff.1 hx).1
  rw [add_plain', Nat.zero_add]
  have : w.cell? ⟨g, j, none⟩ = #[Value.string markB, Value.string markB][j]? := cell_block h j
  rw [this]
  match j, hj with
  | 0, _ => simp at hx; subst hx; rfl
  | 1, _ => simp at hx; subst hx; rfl
theorem own_full {w : World} {B g n : Nat} {e : TypeId} {L : List ByteArray} (h : w.ownsRow B e 1 (.slice (some ⟨g, 0, none⟩) n n) n (strs L)) (hL : L.length = n) : w.heap[g]? = some (.cells (strs L).toArray e (0, 0)) ∧ B ≤ g := by
  rcases h.2 with ⟨hv, _⟩ | ⟨g', cap, cur, hv, h1, h2, _, _, h4, h5⟩
  · cases hv
  · injection hv with e1 e2 e3
    injection e1 with e1
    injection e1 with e1
    subst e1 e3
    rw [Nat.mul_one] at h4 h5
    have : cur.toList = strs L := by rw [← h5, List.take_of_length_le (by simp [h4])]
    refine ⟨?_, h1⟩
    rw [h2, ← this]
set_option maxRecDepth 100000 in
set_option maxHeartbeats 800000 in
theorem texts_any (v : Value) (l : List ByteArray) (w : World) (h : StrAt w v l) (hl : l.length ≤ 1048576) :
    Calls Tryz.prog 22 #[v] w fun e w' => ∃ g, e = .returned (.slice (some ⟨g, 0, none⟩) l.length (l.length + 2)) ∧ w.heap.size ≤ g ∧ w'.heap[g]? = some (.cells (strs (l ++ [markB, markB])).toArray 9 (0, 0)) ∧ Below w.heap.size w w' := by
  obtain ⟨i0, hi0, hz0, hz1, hz2⟩ := info_parts Tryz.infoStr
  obtain ⟨a1, c1, rfl, hc1, hc2⟩ := h.len
  obtain ⟨n, hn⟩ : ∃ n, l.length = n := ⟨_, rfl⟩
  rw [hn] at hc1 hl h ⊢
  have q1 : (0 : Int) ≤ (n : Int) + 2 := by omega
  have q2 : (n : Int) + 2 = ((n + 2 : Nat) : Int) := by omega
  obtain ⟨w1, hr1, hown1, hg1⟩ := run_make_own (P := Tryz.prog) w w.heap.size 28 9 i0 _ 1 Tryz.underlying28 hi0 hz0 hz1 .i64 .i64 (n + 2) (by rw [hz2]; omega) (by unfold maxLen; omega) (Nat.le_refl _)
  rw [← q2] at hr1
  clear q2
  have HO1 := Lib.hid hown1
  have HG1 := Lib.hid hg1
  have H := Lib.hid h
  have Hn := Lib.hid hn
  clear hown1 hg1 h hn
  go_enter Tryz.func22, Tryz.ntmps22
  go_wp2_with (at_builtin; refine wpList_append_strs_spare _ (by rfl) _ _ _ (by rfl) w.heap.size _ i0 Tryz.underlying28 hi0 hz1 w.heap.size 0 (n + 2) (by rfl) (l := []) (by exact HO1.out) _ (by rfl) (by exact H.out.below (below_of_grown (Below.refl w.heap.size w) (Nat.le_refl _) HG1.out (fun g h => by cases h))) n (by rw [Hn.out, Nat.zero_add]) (by omega) ?_)
  intro w2 hown2 hg2
  have hb1 : Below w.heap.size w w1 := below_of_grown (Below.refl w.heap.size w) (Nat.le_refl _) HG1.out (fun g h => by cases h)
  have hb2 : Below w.heap.size w w2 := below_of_grown hb1 hb1.size hg2 (fun g h => by cases h; exact Nat.le_refl _)
  have HO2 := Lib.hid hown2
  have HB2 := Lib.hid hb2
  clear hown2 hg2 hb1 hb2
  have HO3 := Lib.hid (HO2.out.alloc (.cells #[.string markB, .string markB] 9))
  have HM := Lib.hid (two_marks (heap_alloc_new w2 (.cells #[.string markB, .string markB] 9)))
  go_wp2_with (at_builtin; refine wpList_append_strs_spare _ (by rfl) _ _ _ (by rfl) w.heap.size _ i0 Tryz.underlying28 hi0 hz1 w.heap.size n (n + 2) (by rfl) (l := [] ++ l) (by exact HO3.out) _ (by rfl) (by exact HM.out) (n + 2) (by rfl) (by omega) ?_)
  intro w4 hown4 hg4
  have hb4 : Below w.heap.size w w4 := below_of_grown (HB2.out.alloc HB2.out.size _) (Nat.le_trans HB2.out.size (by simp)) hg4 (fun g h => by cases h; exact Nat.le_refl _)
  obtain ⟨hf, _⟩ := own_full hown4 (by simp [Hn.out])
  have HF := Lib.hid hf
  have HB4 := Lib.hid hb4
  clear hown4 hg4 hb4 hf HO2 HO3 HM HB2 HO1 HG1 hr1
  have p1 : (0 : Int) ≤ (n : Int) := by omega
  have p2 : (n : Int) ≤ (n : Int) + 2 := by omega
  go_wp2_with fail
  go_ret
  exact ⟨w.heap.size, rfl, Nat.le_refl _, by simpa using HF.out, HB4.out⟩
end Go.Proofs.YtdcmnpeabjallaaGreatDoor
namespace Go.Proofs.YtdcmnpeabjallaaGreatDoor
open Go.RowKit
def MrkAt (B : Nat) (w : World) (v : Value) (l : List ByteArray) : Prop := ∃ g, v = .slice (some ⟨g, 0, none⟩) l.length (l.length + 2) ∧ B ≤ g ∧ w.heap[g]? = some (.cells (strs (l ++ [markB, markB])).toArray 9 (0, 0))
theorem MrkAt.below {B : Nat} {w w' : World} {v : Value} {l : List ByteArray} (h : MrkAt B w v l) (hb : Below w.heap.size w w') : MrkAt B w' v l :=
  let ⟨g, h1, h2, h3⟩ := h; ⟨g, h1, h2, below_block hb h3⟩
theorem MrkAt.same {B : Nat} {T : TypeId} {w w' : World} {v : Value} {l : List ByteArray} (h : MrkAt B w v l) (hs : SameBut T w w') (hT : 9 ≠ T) : MrkAt B w' v l :=
  let ⟨g, h1, h2, h3⟩ := h; ⟨g, h1, h2, hs _ _ _ _ h3 hT⟩
theorem MrkAt.one {B : Nat} {w : World} {v : Value} {l : List ByteArray} (h : MrkAt B w v l) : v.oneCell' = true := by
  obtain ⟨g, rfl, _, _⟩ := h; rfl
theorem MrkAt.str {B : Nat} {w : World} {v : Value} {l : List ByteArray} (h : MrkAt B w v l) (hl : l.length ≤ 1048576) : StrAt w v l := by
  obtain ⟨g, rfl, _, hg⟩ := h
  exact .inr ⟨_, _, rfl, by omega, by unfold maxLen; omega, fun j x hx => by
    rw [add_plain', Nat.zero_add, cell_block hg j, List.getElem?_toArray]
    exact strs_get (by rw [List.getElem?_append_left (List.getElem?_eq_some_iff.1 hx).1]; exact hx)⟩
set_option maxRecDepth 100000 in
set_option maxHeartbeats 800000 in
theorem kept_any (v : Value) (l : List ByteArray) (g : Nat) (w : World) (h : StrAt w v l) (hl : l.length ≤ 1048576) (hg : w.heap[g]? = some (.cells (strs (l ++ [markB, markB])).toArray 9 (0, 0))) :
    Calls Tryz.prog 23 #[.slice (some ⟨g, 0, none⟩) l.length (l.length + 2), v] w fun e w' => e = .returned (.bool true) ∧ w = w' := by
  obtain ⟨a1, c1, rfl, _, _⟩ := h.len
  have hrow : StrAt w (.slice (some ⟨g, 0, none⟩) l.length (l.length + 2)) l := .inr ⟨_, _, rfl, by omega, by unfold maxLen; omega, fun j x hx => by
    rw [add_plain', Nat.zero_add, cell_block hg j, List.getElem?_toArray]
    exact strs_get (by rw [List.getElem?_append_left (List.getElem?_eq_some_iff.1 hx).1]; exact hx)⟩
  have HE := Lib.hid (eqStrs_any _ _ l l w hrow h (by omega) (by omega))
  rw [decide_eq_true rfl] at HE
  have m0 : w.cell? ⟨g, l.length, none⟩ = some (.string markB) := (cell_block hg l.length).trans (by rw [List.getElem?_toArray]; exact strs_get (by rw [List.getElem?_append_right (Nat.le_refl _)]; simp))
  have m1 : w.cell? ⟨g, l.length + 1, none⟩ = some (.string markB) := (cell_block hg (l.length + 1)).trans (by rw [List.getElem?_toArray]; exact strs_get (by rw [List.getElem?_append_right (by omega)]; simp))
  obtain ⟨n, hn⟩ : ∃ n, l.length = n := ⟨_, rfl⟩
  rw [hn] at m0 m1 hl HE ⊢
  have p0 : (0 : Int) ≤ (n : Int) := by omega
  have p1 : (n : Int) ≤ (n : Int) + 2 := by omega
  have tm : (markB.toList == [109, 97, 114, 107]) = true := by rw [ByteArray.toList_eq]; rfl
  have tm2 : (n + 2 - n : Nat) = 2 := by omega
  clear hg h hrow hn
  go_enter Tryz.func23, Tryz.ntmps23
  go_wp2_with fail
  refine HE.out.mono ?_
  rintro E w2 ⟨rfl, rfl⟩
  go_wp2_with fail
  go_ret
  exact ⟨rfl, rfl⟩
end Go.Proofs.YtdcmnpeabjallaaGreatDoor
namespace Go.Proofs.YtdcmnpeabjallaaGreatDoor
open Go.RowKit
structure Mid (B H : Nat) (w w' : World) : Prop where
  os : w'.os = w.os
  tape : w'.tape = w.tape
  output : w'.output = w.output
  size : w.heap.size ≤ w'.heap.size
  block : ∀ k, k < w.heap.size → (k < B ∨ H ≤ k) → w'.heap[k]? = w.heap[k]?
  kind : ∀ (k : Nat) (cs : Array Value) (t : TypeId), w.heap[k]? = some (.cells cs t (0, 0)) → ∃ cs' : Array Value, w'.heap[k]? = some (.cells cs' t (0, 0)) ∧ cs'.size = cs.size
theorem Mid.refl (B H : Nat) (w : World) : Mid B H w w := ⟨rfl, rfl, rfl, Nat.le_refl _, fun _ _ _ => rfl, fun _ cs _ h => ⟨cs, h, rfl⟩⟩
theorem Mid.but {B H g : Nat} {a w w' : World} (h : Mid B H a w) (hb : But g w w') (h1 : B ≤ g) (h2 : g < H) (hk : ∀ (cs : Array Value) (t : TypeId), w.heap[g]? = some (.cells cs t (0, 0)) → ∃ cs' : Array Value, w'.heap[g]? = some (.cells cs' t (0, 0)) ∧ cs'.size = cs.size) : Mid B H a w' := by
  refine ⟨hb.os.trans h.os, hb.tape.trans h.tape, hb.output.trans h.output, Nat.le_trans h.size hb.size, fun k hk1 hk2 => ?_, fun k cs t hc => ?_⟩
  · rw [hb.block k (Nat.lt_of_lt_of_le hk1 h.size) (by omega)]; exact h.block k hk1 hk2
  · obtain ⟨cs1, c1, c2⟩ := h.kind k cs t hc
    by_cases hkg : k = g
    · subst hkg
      obtain ⟨cs2, d1, d2⟩ := hk cs1 t c1
      exact ⟨cs2, d1, d2.trans c2⟩
    · exact ⟨cs1, hb.keep c1 hkg, c2⟩
theorem Mid.below {B H B0 : Nat} {a w w' : World} (h : Mid B H w w') (hb : Below B0 a w) (hB : B0 ≤ B) (hs : B0 ≤ w.heap.size) : Below B0 a w' :=
  hb.trans ⟨h.os, h.tape, h.output, h.size, fun k hk => h.block k (by omega) (.inl (by omega))⟩
theorem OwnAt.mid {α : Type} {R : Rd α} {k B H B' : Nat} {e : TypeId} {v : Value} {l : List α} {w w' : World} (hf : Flat R) (h : OwnAt R k w B' e v l) (hm : Mid B H w w') (hB : H ≤ B') : OwnAt R k w' B' e v l := by
  have hat := fun q hq => h.at (g := q) hq
  obtain ⟨css, h1, h2, h3, h4⟩ := h
  refine ⟨css, h1, h2, ⟨h3.1, ?_⟩, fun j cs y hcs hy => hf _ _ _ _ (h4 j cs y hcs hy)⟩
  rcases h3.2 with h5 | ⟨q, cap, cur, rfl, hB2, hh, hr⟩
  · exact .inl h5
  · exact .inr ⟨q, cap, cur, rfl, hB2, (hm.block q (hat q rfl).2.1 (.inr (by omega))).trans hh, hr⟩
set_option maxRecDepth 100000 in
set_option maxHeartbeats 1600000 in
theorem spoil_big (g n c : Nat) (cs : Array Value) (t : TypeId) (w : World) (h : w.heap[g]? = some (.cells cs t (0, 0))) (hn : n ≤ c) (hc : c ≤ cs.size) (hb : c ≤ 9223372036854775807) :
    Calls Tryz.prog 25 #[.slice (some ⟨g, 0, none⟩) n c] w fun e w' => e = .returned (.tuple #[]) ∧ But g w w' ∧ ∃ cs', w'.heap[g]? = some (.cells cs' t (0, 0)) ∧ cs'.size = cs.size := by
  have H := Lib.hid h
  have q0 : (0 : Int) ≤ (c : Int) := by omega
  clear h
  go_enter Tryz.func25, Tryz.ntmps25
  go_wp2_with fail
  go_loopg [9] c (fun k u9 wr => ∃ i : Nat, i + k = c ∧ u9 = .int .i64 (i : Int) ∧ Hid (But g w wr) ∧ Hid (∃ cs', wr.heap[g]? = some (.cells cs' t (0, 0)) ∧ cs'.size = cs.size))
  case atStart => exact ⟨0, by omega, rfl, Lib.hid (But.refl _ _), Lib.hid ⟨_, H.out, rfl⟩⟩
  case round =>
    obtain ⟨i, hig, rfl, Hbut, Hc⟩ := hrel
    cases gk with
    | zero =>
      obtain rfl : i = c := by omega
      go_wp2_with fail
      go_end0
      exact ⟨rfl, Hbut.out, Hc.out⟩
    | succ k =>
      have hic : i < c := by omega
      obtain ⟨cs', hcs, hsz⟩ := Hc.out
      have q1 : (0 : Int) ≤ (i : Int) := by omega
      have q2 : (i : Int) < (c : Int) := by omega
      have fr : wr.frozen? ⟨g, i, none⟩ = false := free_block hcs i
      have cc : ∃ x, wr.cell? ⟨g, i, none⟩ = some x := ⟨cs'[i]'(by omega), (cell_block hcs i).trans (Array.getElem?_eq_getElem (by omega))⟩
      obtain ⟨x, hx⟩ := cc
      obtain ⟨t1, t2⟩ := touch_setCell (i := i) (v := .string ⟨#[115, 112, 111, 105, 108, 116]⟩) hcs
      have HT1 := Lib.hid t1
      have HT2 := Lib.hid t2
      have Hs := Lib.hid hsz
      clear t1 t2 hcs hsz Hc
      go_wp2_with fail
      go_roundg k
      case measure => omega
      case rel => exact ⟨i + 1, by omega, by go_num, Lib.hid (Hbut.out.trans (But.touch HT2.out)), Lib.hid ⟨_, HT1.out, by rw [Array.size_setIfInBounds, Hs.out]⟩⟩
theorem block_lt' {w : World} {g : Nat} {o : Obj} (h : w.heap[g]? = some o) : g < w.heap.size := by
  rcases Nat.lt_or_ge g w.heap.size with h1 | h1
  · exact h1
  · rw [Array.getElem?_eq_none h1] at h; cases h
end Go.Proofs.YtdcmnpeabjallaaGreatDoor
namespace Go.Proofs.YtdcmnpeabjallaaGreatDoor
open Go.RowKit
set_option maxRecDepth 100000 in
theorem copy_any (v : Value) (l : List ByteArray) (w : World) (hrow : StrAt w v l) (hn : l.length ≤ 1073741824) :
    Calls Tryz.prog 24 #[v] w fun e w' => ∃ v', e = .returned v' ∧ w'.ownsRow w.heap.size 9 1 v' l.length (strs l) ∧ Below w.heap.size w w' := by
  obtain ⟨i0, hi0, hz0, hz1, hz2⟩ := info_parts Tryz.infoStr
  go_enter Tryz.func24, Tryz.ntmps24
  go_wp2_with (at_builtin; refine wpList_append_strs _ (by rfl) _ _ _ (by rfl) w.heap.size _ i0 Tryz.underlying28 hi0 hz0 hz1 hz2 (.slice none 0 0) 0 (by rfl) (l := []) (World.ownsRow_nil w _ _ 1) _ (by rfl) hrow (by omega) (Nat.le_refl _) ?_)
  intro v1 w1 hown hgrow
  have hb1 : Below w.heap.size w w1 := (Below.refl _ _).grown hgrow (Nat.le_refl _) (fun k hk => by simp [Value.ownBlock] at hk)
  clear hgrow
  go_wp2_with fail
  go_ret
  exact ⟨_, rfl, by simpa using hown, hb1⟩
end Go.Proofs.YtdcmnpeabjallaaGreatDoor
