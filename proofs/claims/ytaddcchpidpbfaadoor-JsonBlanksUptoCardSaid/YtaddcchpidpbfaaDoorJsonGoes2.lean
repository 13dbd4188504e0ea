/- json: the reader goes on within a list. -/
import Derived.Test.YtaddcchpidpbfaaDoorJsonGoes
namespace Go.Proofs.YtaddcchpidpbfaaDoor
open Go.RowKit
open JP (JV Bs Fr)

theorem no_type {w : World} {b : Nat} {x y : Array Value} (h1 : w.heap[b]? = some (.cells x 100 (0, 0))) (h2 : w.heap[b]? = some (.cells y 40 (0, 0))) : False := by
  rw [h1] at h2
  injection h2 with h2
  injection h2 with _ h2
  exact absurd h2 (by decide)
theorem get_snoc {α : Type} {l : List α} {x y : α} {j : Nat} (h : (l ++ [x])[j]? = some y) : (l[j]? = some y) ∨ (j = l.length ∧ y = x) := by
  rcases Nat.lt_or_ge j l.length with hj | hj
  · exact .inl (by rw [List.getElem?_append_left hj] at h; exact h)
  · rw [List.getElem?_append_right hj] at h
    have : j - l.length = 0 := by
      rcases Nat.eq_zero_or_pos (j - l.length) with h0 | h0
      · exact h0
      · rw [List.getElem?_eq_none (by rw [List.length_singleton]; omega)] at h; cases h
    rw [this] at h
    simp only [List.getElem?_cons_zero, Option.some.injEq] at h
    exact .inr ⟨by omega, h.symm⟩
/-- one more value in the list that is open -/
theorem core_app {g : Nat} {T : List Nat} {w wA w1 W : World} {vst v1 v : Value} {y : JV} {nv : Nat} {f : GF} {fs : List GF} {d : List JV} {st : List Fr} {sb c : Nat} {cur : Array Value} {xs : List Value} {n : Nat} (h : Core g T w vst (f :: fs) (.lst d :: st)) (t : Top g w vst f fs.length sb c cur) (hA : Below w.heap.size w wA)
    (hxs : xs.length = d.length) (hx : ∀ (j : Nat) (u : Value) (x : JV), xs[j]? = some u → d[j]? = some x → JvAt n T w u x) (hv : JvAt nv T w v y)
    (ho : OwnAt RVal 1 w1 (g + 1) 40 v1 (xs ++ [v])) (hg : wA.grownBy w1 f.lv.ownBlock) (hn : v1.ownBlock = f.lv.ownBlock ∨ v1.ownBlock = some wA.heap.size)
    (hh : W.heap[sb]? = some (.cells (cur.setIfInBounds (fs.length * 3 + 0) v1) 100 (0, 0))) (ht : Touch sb w1 W) :
    Core g (T ++ v1.ownBlock.toList) W vst (⟨v1, f.pv, f.nm⟩ :: fs) (.lst (d ++ [y]) :: st) ∧ KeepT (T ++ v1.ownBlock.toList) w W := by
  have hsT : sb ∈ T := h.vT sb (by rw [t.v]; rfl)
  have hsb : sb < w.heap.size := blk_lt t.at_
  have hf1 := h.all.1
  obtain ⟨fp, fn, fT, _⟩ := hf1
  have hsz1 : w.heap.size ≤ w1.heap.size := Nat.le_trans hA.size hg.size
  have hsz : w.heap.size ≤ W.heap.size := by rw [ht.size]; exact hsz1
  have hsub : ∀ b ∈ T ++ v1.ownBlock.toList, b ∈ T ∨ w.heap.size ≤ b := fun b hb => by
    rcases List.mem_append.1 hb with hb | hb
    · exact .inl hb
    · rw [Option.mem_toList] at hb
      rcases hn with e | e
      · exact .inl (fT b (by rw [← e]; exact hb))
      · rw [e] at hb
        cases hb
        exact .inr hA.size
  have hmem : ∀ {b}, b ∈ T → b ∈ T ++ v1.ownBlock.toList := fun hb => List.mem_append_left _ hb
  have hold1 : ∀ b, b < w.heap.size → f.lv.ownBlock ≠ some b → w1.heap[b]? = w.heap[b]? := fun b hb hne => (grown_block hg (Nat.lt_of_lt_of_le hb hA.size) hne).trans (hA.block b hb)
  have hold : ∀ b, b < w.heap.size → f.lv.ownBlock ≠ some b → b ≠ sb → W.heap[b]? = w.heap[b]? := fun b hb hne hs => (ht.other b hs).trans (hold1 b hb hne)
  have hkeep : KeepT (T ++ v1.ownBlock.toList) w W := ⟨ht.os.trans (hg.os.trans hA.os), ht.tape.trans (hg.tape.trans hA.tape), ht.output.trans (hg.output.trans hA.output), hsz, fun b hb hne => hold b hb (fun e => hne (hmem (fT b e))) (fun e => hne (hmem (e ▸ hsT)))⟩
  have hv1b : ∀ b, v1.ownBlock = some b → b ≠ sb := fun b hb e => by
    obtain ⟨_, _, cur', hc⟩ := ho.at hb
    subst e
    have h1 : w1.heap[b]? = some (.cells cur 100 (0, 0)) := (hold1 b hsb (fun e => by
      obtain ⟨_, _, cur2, hc2⟩ := FrAt.own h.all.1 e
      exact no_type t.at_ hc2)).trans t.at_
    exact no_type h1 hc
  refine ⟨⟨?_, hmem h.gT, fun b hb => hmem (h.vT b hb), fun b hb => ?_, lbs_cons (lbs_tail h.nd) (fun b hb hm => ?_), ⟨fp, fn, fun b hb => List.mem_append_right _ (by rw [Option.mem_toList]; exact hb), max n nv, xs ++ [v], ?_, ?_, ?_⟩, ?_⟩, hkeep⟩
  · exact row_top h t (k := 0) (u := v1) (by decide) hh rfl rfl rfl ⟨(by obtain ⟨a9, c9, e9, _⟩ := ho.row.len; rw [e9]; rfl), h.ones.2⟩
  · rcases List.mem_append.1 hb with hb | hb
    · exact ⟨(h.low b hb).1, Nat.lt_of_lt_of_le (h.low b hb).2 hsz⟩
    · rw [Option.mem_toList] at hb
      obtain ⟨k1, k2, _⟩ := ho.at hb
      exact ⟨by omega, by rw [ht.size]; exact k2⟩
  · rcases hn with e | e
    · exact lbs_head h.nd (b := b) (by rw [← e]; exact hb) hm
    · rw [hb] at e
      obtain ⟨f', hf', hb'⟩ := lbs_mem.1 hm
      have := (h.low b (AllFr.own h.all.2 f' hf' b hb').1).2
      have h9 := Option.some.inj e
      have := hA.size
      omega
  · exact ho.touch flat_val ht hv1b
  · rw [List.length_append, List.length_append, hxs]; rfl
  · intro j u x hu hd
    have hT : ∀ {m : Nat} {u : Value} {x : JV}, JvAt m T w u x → m ≤ max n nv → JvAt (max n nv) (T ++ v1.ownBlock.toList) W u x := fun hj hm => ((hj.fresh hsub).keepT hkeep).ups hm
    rcases get_snoc hu with hu | ⟨hj, rfl⟩
    · rcases get_snoc hd with hd | ⟨hj, _⟩
      · exact hT (hx j u x hu hd) (Nat.le_max_left _ _)
      · have := (List.getElem?_eq_some_iff.1 hu).1; omega
    · rcases get_snoc hd with hd | ⟨_, rfl⟩
      · have := (List.getElem?_eq_some_iff.1 hd).1; omega
      · exact hT hv (Nat.le_max_right _ _)
  · refine AllFr.keep hkeep (AllFr.fresh hsub h.all.2 fun f' hf b hb => hmem (AllFr.own h.all.2 f' hf b hb).1) fun f' hf b hb => ?_
    obtain ⟨k1, k2, cur', k3⟩ := AllFr.own h.all.2 f' hf b hb
    refine hold b (h.low b k1).2 (fun e => lbs_head h.nd e (lbs_mem.2 ⟨f', hf, hb⟩)) (fun e => ?_)
    subst e
    exact no_type t.at_ k3
/-- the list that was open is a value: its block turns no more -/
theorem core_close {g n sb c : Nat} {T : List Nat} {w : World} {f : GF} {fs : List GF} {d : List JV} {st : List Fr} (h : Core g T w (.slice (some ⟨sb, 0, none⟩) (n + 1) c) (f :: fs) (.lst d :: st)) (hn : fs.length = n) :
    ∃ T', Core g T' w (.slice (some ⟨sb, 0, none⟩) n c) fs st ∧ ∃ m, JvAt m T' w (.iface 80 f.lv) (.list d) := by
  have hsub : ∀ b ∈ T.filter (fun b => f.lv.ownBlock != some b), b ∈ T ∨ w.heap.size ≤ b := fun b hb => .inl (List.mem_filter.1 hb).1
  have hin : ∀ {b}, b ∈ T → f.lv.ownBlock ≠ some b → b ∈ T.filter (fun b => f.lv.ownBlock != some b) := fun hb hne => List.mem_filter.2 ⟨hb, by rw [bne_iff_ne]; exact hne⟩
  have hp := core_pop h hn
  have hown : ∀ {b}, f.lv.ownBlock = some b → g + 1 ≤ b ∧ ∃ cur, w.heap[b]? = some (.cells cur 40 (0, 0)) := fun hb => (FrAt.own h.all.1 hb).2
  refine ⟨T.filter (fun b => f.lv.ownBlock != some b), ⟨hp.row, hin hp.gT fun e => ?_, fun b hb => hin (hp.vT b hb) fun e => ?_, fun b hb => hp.low b (List.mem_filter.1 hb).1, hp.nd, AllFr.fresh hsub hp.all fun f' hf b hb => hin (AllFr.own hp.all f' hf b hb).1 fun e => lbs_head h.nd e (lbs_mem.2 ⟨f', hf, hb⟩)⟩, ?_⟩
  · have := (hown e).1; omega
  · obtain ⟨_, _, cur, k⟩ := hp.row.at hb
    obtain ⟨_, cur2, k2⟩ := hown e
    exact no_type k k2
  · obtain ⟨_, _, fT, m, xs, ho, hl, hx⟩ := h.all.1
    refine ⟨m + 1, f.lv, rfl, RowAt.ofRaw ho.row hl (fun j u x hu hd => ⟨u, rfl, (hx j u x hu hd).fresh hsub⟩), fun _ b hb hm => ?_⟩
    have := (List.mem_filter.1 hm).2
    rw [bne_iff_ne] at this
    exact this hb
set_option maxRecDepth 100000 in
set_option maxHeartbeats 12800000 in
theorem goes_lst (g : Nat) (s : ByteArray) (a m : Nat) (vst : Value) (f : GF) (fs : List GF) (T : List Nat) (d : List JV) (st : List Fr) (w : World) (v : Value) (y : JV) (nv : Nat) (h : RdAt g s a m vst 0 w) (hc : Core g T w vst (f :: fs) (.lst d :: st)) (hv : JvAt nv T w v y) (ha : a ≤ s.size) (hs : s.size ≤ 1048576) (hd : d.length ≤ 1048574) (hfl : fs.length ≤ 1048576) :
    Calls Tryd.prog 47 #[.pointer (some ⟨g, 0, none⟩), v] w (OutE g s w (JP.goesP y (s.data.toList.drop a) m (.lst d) st)) := by
  have hgw := h.lt
  have H := Lib.hid h
  have Hc := Lib.hid hc
  obtain ⟨X, HX⟩ : ∃ X, Hid (JP.goesP y (s.data.toList.drop a) m (.lst d) st = X) := ⟨_, Lib.hid rfl⟩
  rw [HX.out]
  clear h hc
  obtain ⟨sb, c, cur, htop⟩ := Hc.out.top
  obtain ⟨tv, tl, tr, tm, ta, ts, t0, t1, t2⟩ := htop
  have Htop : Hid (Top g w vst f fs.length sb c cur) := Lib.hid ⟨tv, tl, tr, tm, ta, ts, t0, t1, t2⟩
  obtain ⟨n, hn⟩ : ∃ n, fs.length = n := ⟨_, rfl⟩
  have Hn := Lib.hid hn
  rw [hn] at tv tr t0 t1 t2 hfl
  have hsb : sb < w.heap.size := blk_lt ta
  have hsg : sb ≠ g := by omega
  have hgs : g ≤ sb := by omega
  have hsT : sb ∈ T := Hc.out.vT sb (by rw [tv]; rfl)
  have q1 : (0 : Int) ≤ ((n + 1 : Nat) : Int) - 1 := by omega
  have q2 : (((n + 1 : Nat) : Int) - 1).toNat = n := by omega
  have q3 : ((n + 1 : Nat) : Int) - 1 < ((n + 1 : Nat) : Int) := by omega
  have v1 : IntKind.i64.wrap (((n + 1 : Nat) : Int) - 1) = (n : Int) := by rw [IntWalk.i64_in _ (by omega)]; omega
  have v2 : IntKind.i64.wrap (n : Int) = (n : Int) := IntWalk.i64_in _ (by omega)
  have q4 : (n : Int) < (n : Int) + 1 := by omega
  have q5 : (0 : Int) ≤ (n : Int) := by omega
  have Ta := Lib.hid ta
  subst tv
  have hall := Hc.out.all.1
  obtain ⟨hpq, hnm, hfT, nn, xs, hown, hxl, hxs⟩ := hall
  obtain ⟨al, cl, hlv, _, _⟩ := hown.row.len
  rw [hxl] at hlv
  obtain ⟨dl, hdl⟩ : ∃ dl, d.length = dl := ⟨_, rfl⟩
  rw [hdl] at hlv hxl hd
  have Hxl := Lib.hid hxl
  have Hdl := Lib.hid hdl
  rw [hpq] at t1
  rw [hlv] at t0 hown
  have Hown := Lib.hid hown
  have Hxs := Lib.hid hxs
  have Hjv := Lib.hid hv
  have HVf := jv_form hv
  have Hv1 := Lib.hid (jv_one hv)
  have y1 : w.cell? ⟨sb, n * 3 + 1, none⟩ = some (.pointer none) := (cell_block ta _).trans t1
  have y0 : w.cell? ⟨sb, n * 3, none⟩ = some (.slice al dl cl) := (cell_block ta _).trans t0
  have k3 : w.cell? ⟨g, 3, none⟩ = some (.slice (some ⟨sb, 0, none⟩) (n + 1) c) := cell_block H.out 3
  have Hlv := Lib.hid hlv
  have Hnm := Lib.hid hnm
  have Hpq := Lib.hid hpq
  have HfT := Lib.hid hfT
  obtain ⟨i0, hi0, hz0, hz1, hz2⟩ := info_parts Tryd.infoVal
  clear hown hv hlv hnm hpq ta ts t0 t1 t2 tl hn hxl hdl hxs hfT
  rcases HVf with rfl | ⟨tv, uv, rfl⟩
  · go_enter Tryd.func47, Tryd.ntmps47
    go_wp2_with fail
    go_quiet (fail)
    go_upto_region 6 with fail
    generalize hW : World.drewN w _ = W1
    have hR1 : RdAt g s a m (.slice (some ⟨sb, 0, none⟩) (n + 1) c) 0 W1 := by rw [← hW]; exact H.out
    have hB1 : Below w.heap.size w W1 := by rw [← hW]; exact below_drewN0 w _
    have p0 : W1.cell? ⟨sb, n * 3, none⟩ = some (.slice al dl cl) := by rw [← hW]; exact y0
    have HR1 := Lib.hid hR1
    have HB1 := Lib.hid hB1
    have HO1 : Hid (OwnAt RVal 1 W1 (g + 1) 40 (.slice al dl cl) xs) := Lib.hid (by rw [← hW]; exact Hown.out)
    have hgw1 : g + 1 ≤ W1.heap.size := hR1.lt
    have hsb1 : sb < W1.heap.size := Nat.lt_of_lt_of_le hsb hB1.size
    clear hW hR1 hB1 k3 y1 y0
    go_wp2_with (at_builtin; refine wpList_append_ownAt (R := RVal) (k := 1) (e := 40) (B := g + 1) (l := xs) (m := [_]) _ (by rfl) _ _ _ (by rfl) i0 _ 16 Tryd.underlying80 hi0 hz0 hz1 hz2 rfl (by omega) flat_val one_val _ (by rfl) (HO1.out.alloc stays_val _) (.slice (some ⟨W1.heap.size, 0, none⟩) 1 1) (by rfl) (RowAt.one (R := RVal) (k := 1) (cs := #[_]) (heap_alloc_new W1 _) rfl ⟨rfl, Hv1.out⟩) (by rw [Hxl.out]; unfold maxLen; simp; omega) (by rw [Hxl.out]; simp; omega) (by simp; omega) ?_)
    intro v1 w4 hv1 hg4 _ hn4
    have hA : Below W1.heap.size W1 (W1.alloc (.cells #[.nilIface] 40)) := (Below.refl _ _).alloc (Nat.le_refl _) _
    obtain ⟨wA, hwA⟩ : ∃ wA, W1.alloc (.cells #[.nilIface] 40) = wA := ⟨_, rfl⟩
    rw [hwA] at hg4 hA
    have hnA : v1.ownBlock = (Value.slice al dl cl).ownBlock ∨ v1.ownBlock = some wA.heap.size := by rw [← hwA]; simpa only [World.size_alloc] using hn4
    obtain ⟨a9, c9, e9, _⟩ := hv1.row.len
    have hlen : ∀ u : Value, (xs ++ [u]).length = dl + 1 := fun u => by rw [List.length_append, List.length_singleton, Hxl.out]
    rw [hlen] at e9
    subst e9
    have hA0 : Below w.heap.size w wA := HB1.out.trans (hA.mono HB1.out.size)
    have hlb : ∀ b, (Value.slice al dl cl).ownBlock = some b → g + 1 ≤ b ∧ ∃ cur, W1.heap[b]? = some (.cells cur 40 (0, 0)) := fun b hb => ⟨(HO1.out.at hb).1, (HO1.out.at hb).2.2⟩
    have hTa1 : W1.heap[sb]? = some (.cells cur 100 (0, 0)) := below_block HB1.out Ta.out
    have hTa4 : w4.heap[sb]? = some (.cells cur 100 (0, 0)) := (grown_block hg4 (Nat.lt_of_lt_of_le hsb1 hA.size) (fun e => by obtain ⟨_, cc, k⟩ := hlb sb e; exact no_type hTa1 k)).trans ((hA.block sb hsb1).trans hTa1)
    have hR4 : RdAt g s a m (.slice (some ⟨sb, 0, none⟩) (n + 1) c) 0 w4 := (grown_block hg4 (Nat.lt_of_lt_of_le HR1.out.lt hA.size) (fun e => by have := (hlb g e).1; omega)).trans ((hA.block g HR1.out.lt).trans HR1.out)
    have hB4 : Below g w w4 := (HB1.out.mono (Nat.le_of_lt hgw)).trans ⟨hg4.os.trans hA.os, hg4.tape.trans hA.tape, hg4.output.trans hA.output, Nat.le_trans hA.size hg4.size, fun b hb => (grown_block hg4 (by have := hA.size; omega) (fun e => by have := (hlb b e).1; omega)).trans (hA.block b (by omega))⟩
    have HR4 := Lib.hid hR4
    have HB4 := Lib.hid hB4
    have HTa4 := Lib.hid hTa4
    have HV4 := Lib.hid hv1
    have HG4 := Lib.hid hg4
    have HN4 := Lib.hid hnA
    have HA0 := Lib.hid hA0
    have d4 : w4.cell? ⟨sb, n * 3, none⟩ = some (.slice al dl cl) := (cell_block hTa4 _).trans ((cell_block hTa1 _).symm.trans p0)
    have z4 : w4.frozen? ⟨sb, n * 3, none⟩ = false := free_block hTa4 _
    clear hv1 hg4 hn4 hA hwA hnA hlen hA0 hlb hTa1 hTa4 hR4 hB4 HR1 HB1 HO1 p0
    go_upto_region 7 with fail
    generalize hW : World.setCell _ ⟨sb, n * 3, none⟩ _ = W5
    obtain ⟨u1, u2⟩ : W5.heap[sb]? = some (.cells (cur.setIfInBounds (n * 3) (.slice a9 (dl + 1) c9)) 100 (0, 0)) ∧ Touch sb w4 W5 := by rw [← hW]; exact touch_setCell (w := w4) (i := n * 3) (v := .slice a9 (dl + 1) c9) HTa4.out
    obtain ⟨hcore, hkeep⟩ := core_app (n := nn) Hc.out Htop.out HA0.out (by rw [Hxl.out, Hdl.out]) Hxs.out Hjv.out HV4.out (by rw [Hlv.out]; exact HG4.out) (by rw [Hlv.out]; exact HN4.out) (by rw [Hn.out]; exact u1) u2
    obtain ⟨T5, hT5⟩ : ∃ T', T ++ (Value.slice a9 (dl + 1) c9).ownBlock.toList = T' := ⟨_, rfl⟩
    rw [hT5] at hcore
    have HC5 := Lib.hid hcore
    have hR5 : RdAt g s a m (.slice (some ⟨sb, 0, none⟩) (n + 1) c) 0 W5 := (u2.other g (fun e => hsg e.symm)).trans HR4.out
    have HR5 := Lib.hid hR5
    have HB5 : Hid (Below g w W5) := Lib.hid (u2.below HB4.out hgs)
    have HU5 := Lib.hid u1
    have hgw5 := hR5.lt
    have hsb5 : sb < W5.heap.size := blk_lt u1
    have hin : n * 3 + 1 < cur.size := by rw [Htop.out.size]; omega
    have hp0 : (cur.setIfInBounds (n * 3) (.slice a9 (dl + 1) c9))[n * 3]? = some (.slice a9 (dl + 1) c9) := Array.getElem?_setIfInBounds_self_of_lt (by omega)
    have hp1 : (cur.setIfInBounds (n * 3) (.slice a9 (dl + 1) c9))[n * 3 + 1]? = some (.pointer none) := by rw [Array.getElem?_setIfInBounds_ne (by omega), ← Hn.out, Htop.out.pv, Hpq.out]
    have Hp0 := Lib.hid hp0
    have Hp1 := Lib.hid hp1
    clear hW u1 u2 hcore hkeep hT5 hR5 hin hp0 hp1 HR4 HB4 HTa4 HV4 HG4 HN4 HA0 d4 z4
    obtain ⟨z6, hz6⟩ : ∃ z, hdN (JP.skip (s.data.toList.drop a)) = z := ⟨_, rfl⟩
    have hn6 := next_any g s a m (.slice (some ⟨sb, 0, none⟩) (n + 1) c) 0 W5 HR5.out ha hs
    rw [hz6] at hn6
    have HN6 := Lib.hid hn6
    have Hz6 := Lib.hid hz6
    clear hn6 hz6
    go_wp2_with fail
    refine HN6.out.mono ?_
    rintro E w6 ⟨rfl, ⟨i6, hi6, hdi6, hr⟩, hb⟩
    have HR6 := Lib.hid hr
    have HB6 := Lib.hid (HB5.out.trans (below_but hb hgw5))
    have HC6 := Lib.hid (HC5.out.but hb)
    have Hd6 := Lib.hid hdi6
    have hgw6 := hr.lt
    have e0 : w6.cell? ⟨sb, n * 3, none⟩ = some (.slice a9 (dl + 1) c9) := (hb.cell (p := ⟨sb, _, none⟩) hsb5 hsg).trans ((cell_block HU5.out _).trans Hp0.out)
    have e1 : w6.cell? ⟨sb, n * 3 + 1, none⟩ = some (.pointer none) := (hb.cell (p := ⟨sb, _, none⟩) hsb5 hsg).trans ((cell_block HU5.out _).trans Hp1.out)
    have hs56 := hb.size
    clear hr hb hdi6 HN6
    by_cases h93 : z6 = 93
    · subst h93
      obtain ⟨t7, ht7⟩ := hd_zero (c := 93) (by decide) Hz6.out
      obtain ⟨hi7, hd7⟩ := drop_in (Hd6.out.trans ht7)
      have HX2 : Hid (X = .whole (.list (d ++ [y])) (s.data.toList.drop (i6 + 1)) m st) := Lib.hid (by rw [← HX.out, hd7]; exact goes_l_close ht7)
      clear HX ht7 hd7
      go_wp2_with fail
      refine (close_any g s i6 m sb n c (.iface 80 (.slice a9 (dl + 1) c9)) _ HR6.out hi7 hs tr tm hfl).mono ?_
      rintro E w7 ⟨rfl, hr, hbt⟩
      have Hr := Lib.hid hr
      have Hbt := Lib.hid hbt
      clear hr hbt
      go_wp2_with fail
      go_ret2
      obtain ⟨T6, hc6, m6, hj6⟩ := core_close (HC6.out.but Hbt.out) Hn.out
      exact outE_of (out_whole HX2.out ⟨i6 + 1, _, fs, T6, hi7, rfl, Hr.out, hc6, m6, hj6⟩ (HB6.out.trans (below_but Hbt.out hgw6)))
    have n93 : (z6 == 93) = false := by rw [beq_eq_false_iff_ne]; exact h93
    by_cases h44 : z6 = 44
    · subst h44
      obtain ⟨t7, ht7⟩ := hd_zero (c := 44) (by decide) Hz6.out
      obtain ⟨hi7, hd7⟩ := drop_in (Hd6.out.trans ht7)
      have HX2 : Hid (X = .more (s.data.toList.drop (i6 + 1)) m (.lst (d ++ [y]) :: st)) := Lib.hid (by rw [← HX.out, hd7]; exact goes_l_more ht7)
      have k1 : w6.cell? ⟨g, 1, none⟩ = some (.int .i64 (i6 : Int)) := cell_block HR6.out 1
      have z1 : w6.frozen? ⟨g, 1, none⟩ = false := free_block HR6.out 1
      have ww1 : IntKind.i64.wrap ((i6 : Int) + 1) = (i6 : Int) + 1 := IntWalk.i64_in _ (by omega)
      clear HX ht7 hd7 h93
      go_upto_region 15 with fail
      generalize hW : World.setCell _ ⟨g, 1, none⟩ _ = W7
      have hR7 : RdAt g s (i6 + 1) m (.slice (some ⟨sb, 0, none⟩) (n + 1) c) 0 W7 := by rw [← hW]; exact RdAt.cast (touch_setCell (w := w6) (i := 1) (v := .int .i64 ((i6 : Int) + 1)) HR6.out).1 (by omega)
      have hB7 : But g w6 W7 := by rw [← hW]; exact But.touch (touch_setCell (w := w6) (i := 1) (v := .int .i64 ((i6 : Int) + 1)) HR6.out).2
      have h7 : W7.cell? ⟨sb, n * 3 + 1, none⟩ = some (.pointer none) := (hB7.cell (p := ⟨sb, _, none⟩) (Nat.lt_of_lt_of_le hsb5 hs56) hsg).trans e1
      have HR7 := Lib.hid hR7
      have HB7 := Lib.hid (HB6.out.trans (below_but hB7 hgw6))
      have HC7 := Lib.hid (HC6.out.but hB7)
      clear hW hR7 hB7 k1 z1 ww1 e0 e1
      go_wp2_with fail
      go_ret2
      exact outE_of (out_more HX2.out ⟨i6 + 1, _, _, T5, hi7, rfl, HR7.out, HC7.out, trivial⟩ HB7.out)
    · have HX2 : Hid (X = .bad 3) := Lib.hid (by rw [← HX.out]; exact goes_l_bad (by rw [Hz6.out]; exact h93) (by rw [Hz6.out]; exact h44))
      have n44 : (z6 == 44) = false := by rw [beq_eq_false_iff_ne]; exact h44
      clear HX h93 h44
      go_wp2_with fail
      refine (fail_any g s i6 m (.slice (some ⟨sb, 0, none⟩) (n + 1) c) 0 3 w6 HR6.out).mono ?_
      rintro E w7 ⟨rfl, hr, hbt⟩
      have Hr := Lib.hid hr
      have Hbt := Lib.hid (HB6.out.trans (below_but hbt hgw6))
      clear hr hbt
      go_wp2_with fail
      go_ret2
      exact outE_of (out_bad HX2.out (by decide) Hr.out Hbt.out)
  · go_enter Tryd.func47, Tryd.ntmps47
    go_wp2_with fail
    go_quiet (fail)
    go_upto_region 6 with fail
    generalize hW : World.drewN w _ = W1
    have hR1 : RdAt g s a m (.slice (some ⟨sb, 0, none⟩) (n + 1) c) 0 W1 := by rw [← hW]; exact H.out
    have hB1 : Below w.heap.size w W1 := by rw [← hW]; exact below_drewN0 w _
    have p0 : W1.cell? ⟨sb, n * 3, none⟩ = some (.slice al dl cl) := by rw [← hW]; exact y0
    have HR1 := Lib.hid hR1
    have HB1 := Lib.hid hB1
    have HO1 : Hid (OwnAt RVal 1 W1 (g + 1) 40 (.slice al dl cl) xs) := Lib.hid (by rw [← hW]; exact Hown.out)
    have hgw1 : g + 1 ≤ W1.heap.size := hR1.lt
    have hsb1 : sb < W1.heap.size := Nat.lt_of_lt_of_le hsb hB1.size
    clear hW hR1 hB1 k3 y1 y0
    go_wp2_with (at_builtin; refine wpList_append_ownAt (R := RVal) (k := 1) (e := 40) (B := g + 1) (l := xs) (m := [_]) _ (by rfl) _ _ _ (by rfl) i0 _ 16 Tryd.underlying80 hi0 hz0 hz1 hz2 rfl (by omega) flat_val one_val _ (by rfl) (HO1.out.alloc stays_val _) (.slice (some ⟨W1.heap.size, 0, none⟩) 1 1) (by rfl) (RowAt.one (R := RVal) (k := 1) (cs := #[_]) (heap_alloc_new W1 _) rfl ⟨rfl, Hv1.out⟩) (by rw [Hxl.out]; unfold maxLen; simp; omega) (by rw [Hxl.out]; simp; omega) (by simp; omega) ?_)
    intro v1 w4 hv1 hg4 _ hn4
    have hA : Below W1.heap.size W1 (W1.alloc (.cells #[.iface tv uv] 40)) := (Below.refl _ _).alloc (Nat.le_refl _) _
    obtain ⟨wA, hwA⟩ : ∃ wA, W1.alloc (.cells #[.iface tv uv] 40) = wA := ⟨_, rfl⟩
    rw [hwA] at hg4 hA
    have hnA : v1.ownBlock = (Value.slice al dl cl).ownBlock ∨ v1.ownBlock = some wA.heap.size := by rw [← hwA]; simpa only [World.size_alloc] using hn4
    obtain ⟨a9, c9, e9, _⟩ := hv1.row.len
    have hlen : ∀ u : Value, (xs ++ [u]).length = dl + 1 := fun u => by rw [List.length_append, List.length_singleton, Hxl.out]
    rw [hlen] at e9
    subst e9
    have hA0 : Below w.heap.size w wA := HB1.out.trans (hA.mono HB1.out.size)
    have hlb : ∀ b, (Value.slice al dl cl).ownBlock = some b → g + 1 ≤ b ∧ ∃ cur, W1.heap[b]? = some (.cells cur 40 (0, 0)) := fun b hb => ⟨(HO1.out.at hb).1, (HO1.out.at hb).2.2⟩
    have hTa1 : W1.heap[sb]? = some (.cells cur 100 (0, 0)) := below_block HB1.out Ta.out
    have hTa4 : w4.heap[sb]? = some (.cells cur 100 (0, 0)) := (grown_block hg4 (Nat.lt_of_lt_of_le hsb1 hA.size) (fun e => by obtain ⟨_, cc, k⟩ := hlb sb e; exact no_type hTa1 k)).trans ((hA.block sb hsb1).trans hTa1)
    have hR4 : RdAt g s a m (.slice (some ⟨sb, 0, none⟩) (n + 1) c) 0 w4 := (grown_block hg4 (Nat.lt_of_lt_of_le HR1.out.lt hA.size) (fun e => by have := (hlb g e).1; omega)).trans ((hA.block g HR1.out.lt).trans HR1.out)
    have hB4 : Below g w w4 := (HB1.out.mono (Nat.le_of_lt hgw)).trans ⟨hg4.os.trans hA.os, hg4.tape.trans hA.tape, hg4.output.trans hA.output, Nat.le_trans hA.size hg4.size, fun b hb => (grown_block hg4 (by have := hA.size; omega) (fun e => by have := (hlb b e).1; omega)).trans (hA.block b (by omega))⟩
    have HR4 := Lib.hid hR4
    have HB4 := Lib.hid hB4
    have HTa4 := Lib.hid hTa4
    have HV4 := Lib.hid hv1
    have HG4 := Lib.hid hg4
    have HN4 := Lib.hid hnA
    have HA0 := Lib.hid hA0
    have d4 : w4.cell? ⟨sb, n * 3, none⟩ = some (.slice al dl cl) := (cell_block hTa4 _).trans ((cell_block hTa1 _).symm.trans p0)
    have z4 : w4.frozen? ⟨sb, n * 3, none⟩ = false := free_block hTa4 _
    clear hv1 hg4 hn4 hA hwA hnA hlen hA0 hlb hTa1 hTa4 hR4 hB4 HR1 HB1 HO1 p0
    go_upto_region 7 with fail
    generalize hW : World.setCell _ ⟨sb, n * 3, none⟩ _ = W5
    obtain ⟨u1, u2⟩ : W5.heap[sb]? = some (.cells (cur.setIfInBounds (n * 3) (.slice a9 (dl + 1) c9)) 100 (0, 0)) ∧ Touch sb w4 W5 := by rw [← hW]; exact touch_setCell (w := w4) (i := n * 3) (v := .slice a9 (dl + 1) c9) HTa4.out
    obtain ⟨hcore, hkeep⟩ := core_app (n := nn) Hc.out Htop.out HA0.out (by rw [Hxl.out, Hdl.out]) Hxs.out Hjv.out HV4.out (by rw [Hlv.out]; exact HG4.out) (by rw [Hlv.out]; exact HN4.out) (by rw [Hn.out]; exact u1) u2
    obtain ⟨T5, hT5⟩ : ∃ T', T ++ (Value.slice a9 (dl + 1) c9).ownBlock.toList = T' := ⟨_, rfl⟩
    rw [hT5] at hcore
    have HC5 := Lib.hid hcore
    have hR5 : RdAt g s a m (.slice (some ⟨sb, 0, none⟩) (n + 1) c) 0 W5 := (u2.other g (fun e => hsg e.symm)).trans HR4.out
    have HR5 := Lib.hid hR5
    have HB5 : Hid (Below g w W5) := Lib.hid (u2.below HB4.out hgs)
    have HU5 := Lib.hid u1
    have hgw5 := hR5.lt
    have hsb5 : sb < W5.heap.size := blk_lt u1
    have hin : n * 3 + 1 < cur.size := by rw [Htop.out.size]; omega
    have hp0 : (cur.setIfInBounds (n * 3) (.slice a9 (dl + 1) c9))[n * 3]? = some (.slice a9 (dl + 1) c9) := Array.getElem?_setIfInBounds_self_of_lt (by omega)
    have hp1 : (cur.setIfInBounds (n * 3) (.slice a9 (dl + 1) c9))[n * 3 + 1]? = some (.pointer none) := by rw [Array.getElem?_setIfInBounds_ne (by omega), ← Hn.out, Htop.out.pv, Hpq.out]
    have Hp0 := Lib.hid hp0
    have Hp1 := Lib.hid hp1
    clear hW u1 u2 hcore hkeep hT5 hR5 hin hp0 hp1 HR4 HB4 HTa4 HV4 HG4 HN4 HA0 d4 z4
    obtain ⟨z6, hz6⟩ : ∃ z, hdN (JP.skip (s.data.toList.drop a)) = z := ⟨_, rfl⟩
    have hn6 := next_any g s a m (.slice (some ⟨sb, 0, none⟩) (n + 1) c) 0 W5 HR5.out ha hs
    rw [hz6] at hn6
    have HN6 := Lib.hid hn6
    have Hz6 := Lib.hid hz6
    clear hn6 hz6
    go_wp2_with fail
    refine HN6.out.mono ?_
    rintro E w6 ⟨rfl, ⟨i6, hi6, hdi6, hr⟩, hb⟩
    have HR6 := Lib.hid hr
    have HB6 := Lib.hid (HB5.out.trans (below_but hb hgw5))
    have HC6 := Lib.hid (HC5.out.but hb)
    have Hd6 := Lib.hid hdi6
    have hgw6 := hr.lt
    have e0 : w6.cell? ⟨sb, n * 3, none⟩ = some (.slice a9 (dl + 1) c9) := (hb.cell (p := ⟨sb, _, none⟩) hsb5 hsg).trans ((cell_block HU5.out _).trans Hp0.out)
    have e1 : w6.cell? ⟨sb, n * 3 + 1, none⟩ = some (.pointer none) := (hb.cell (p := ⟨sb, _, none⟩) hsb5 hsg).trans ((cell_block HU5.out _).trans Hp1.out)
    have hs56 := hb.size
    clear hr hb hdi6 HN6
    by_cases h93 : z6 = 93
    · subst h93
      obtain ⟨t7, ht7⟩ := hd_zero (c := 93) (by decide) Hz6.out
      obtain ⟨hi7, hd7⟩ := drop_in (Hd6.out.trans ht7)
      have HX2 : Hid (X = .whole (.list (d ++ [y])) (s.data.toList.drop (i6 + 1)) m st) := Lib.hid (by rw [← HX.out, hd7]; exact goes_l_close ht7)
      clear HX ht7 hd7
      go_wp2_with fail
      refine (close_any g s i6 m sb n c (.iface 80 (.slice a9 (dl + 1) c9)) _ HR6.out hi7 hs tr tm hfl).mono ?_
      rintro E w7 ⟨rfl, hr, hbt⟩
      have Hr := Lib.hid hr
      have Hbt := Lib.hid hbt
      clear hr hbt
      go_wp2_with fail
      go_ret2
      obtain ⟨T6, hc6, m6, hj6⟩ := core_close (HC6.out.but Hbt.out) Hn.out
      exact outE_of (out_whole HX2.out ⟨i6 + 1, _, fs, T6, hi7, rfl, Hr.out, hc6, m6, hj6⟩ (HB6.out.trans (below_but Hbt.out hgw6)))
    have n93 : (z6 == 93) = false := by rw [beq_eq_false_iff_ne]; exact h93
    by_cases h44 : z6 = 44
    · subst h44
      obtain ⟨t7, ht7⟩ := hd_zero (c := 44) (by decide) Hz6.out
      obtain ⟨hi7, hd7⟩ := drop_in (Hd6.out.trans ht7)
      have HX2 : Hid (X = .more (s.data.toList.drop (i6 + 1)) m (.lst (d ++ [y]) :: st)) := Lib.hid (by rw [← HX.out, hd7]; exact goes_l_more ht7)
      have k1 : w6.cell? ⟨g, 1, none⟩ = some (.int .i64 (i6 : Int)) := cell_block HR6.out 1
      have z1 : w6.frozen? ⟨g, 1, none⟩ = false := free_block HR6.out 1
      have ww1 : IntKind.i64.wrap ((i6 : Int) + 1) = (i6 : Int) + 1 := IntWalk.i64_in _ (by omega)
      clear HX ht7 hd7 h93
      go_upto_region 15 with fail
      generalize hW : World.setCell _ ⟨g, 1, none⟩ _ = W7
      have hR7 : RdAt g s (i6 + 1) m (.slice (some ⟨sb, 0, none⟩) (n + 1) c) 0 W7 := by rw [← hW]; exact RdAt.cast (touch_setCell (w := w6) (i := 1) (v := .int .i64 ((i6 : Int) + 1)) HR6.out).1 (by omega)
      have hB7 : But g w6 W7 := by rw [← hW]; exact But.touch (touch_setCell (w := w6) (i := 1) (v := .int .i64 ((i6 : Int) + 1)) HR6.out).2
      have h7 : W7.cell? ⟨sb, n * 3 + 1, none⟩ = some (.pointer none) := (hB7.cell (p := ⟨sb, _, none⟩) (Nat.lt_of_lt_of_le hsb5 hs56) hsg).trans e1
      have HR7 := Lib.hid hR7
      have HB7 := Lib.hid (HB6.out.trans (below_but hB7 hgw6))
      have HC7 := Lib.hid (HC6.out.but hB7)
      clear hW hR7 hB7 k1 z1 ww1 e0 e1
      go_wp2_with fail
      go_ret2
      exact outE_of (out_more HX2.out ⟨i6 + 1, _, _, T5, hi7, rfl, HR7.out, HC7.out, trivial⟩ HB7.out)
    · have HX2 : Hid (X = .bad 3) := Lib.hid (by rw [← HX.out]; exact goes_l_bad (by rw [Hz6.out]; exact h93) (by rw [Hz6.out]; exact h44))
      have n44 : (z6 == 44) = false := by rw [beq_eq_false_iff_ne]; exact h44
      clear HX h93 h44
      go_wp2_with fail
      refine (fail_any g s i6 m (.slice (some ⟨sb, 0, none⟩) (n + 1) c) 0 3 w6 HR6.out).mono ?_
      rintro E w7 ⟨rfl, hr, hbt⟩
      have Hr := Lib.hid hr
      have Hbt := Lib.hid (HB6.out.trans (below_but hbt hgw6))
      clear hr hbt
      go_wp2_with fail
      go_ret2
      exact outE_of (out_bad HX2.out (by decide) Hr.out Hbt.out)
end Go.Proofs.YtaddcchpidpbfaaDoor
