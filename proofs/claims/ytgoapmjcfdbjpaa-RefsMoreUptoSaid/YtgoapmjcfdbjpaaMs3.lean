/- Texts of ours joined. -/
import Derived.Deep.DeepCutAuto
import Derived.Lib.Hide
import Derived.IntWalk
import Derived.Test.YtgoapmjcfdbjpaaMs2
set_option linter.unusedVariables false
set_option linter.unusedSimpArgs false
namespace Go.Proofs.Ytgoapmjcfdbjpaa
open Go.RowKit Go.MapKept Go.ChangeMaps
def sortS (l : List ByteArray) : List ByteArray := (sortedL (l.map (·.data.toList))).map mkB
def csOf (l : List ByteArray) : List ByteArray := (Lib.compact ((sortS l).map (·.data.toList))).map mkB
theorem mkB_inj {a b : List UInt8} (h : mkB a = mkB b) : a = b := by
  have := congrArg (fun z : ByteArray => z.data.toList) h
  simpa [mkB] using this
theorem mkB_self (s : ByteArray) : mkB s.data.toList = s := by unfold mkB; simp
theorem nodup_mkB {l : List (List UInt8)} (h : l.Nodup) : (l.map mkB).Nodup := by
  rw [List.nodup_iff_pairwise_ne, List.pairwise_map]
  exact (List.nodup_iff_pairwise_ne.1 h).imp fun hne e => hne (mkB_inj e)
theorem sortS_data (l : List ByteArray) : (sortS l).map (·.data.toList) = sortedL (l.map (·.data.toList)) := by
  unfold sortS
  rw [List.map_map]
  have : ((fun x : ByteArray => x.data.toList) ∘ mkB) = id := funext fun x => by simp [mkB]
  rw [this, List.map_id]
theorem sortS_mem (l : List ByteArray) (s : ByteArray) : s ∈ sortS l ↔ s ∈ l := by
  unfold sortS
  rw [List.mem_map]
  constructor
  · rintro ⟨x, hx, rfl⟩
    rw [sorted_mem] at hx
    obtain ⟨y, hy, rfl⟩ := List.mem_map.1 hx
    rw [mkB_self]; exact hy
  · intro h
    exact ⟨s.data.toList, (sorted_mem _ _).2 (List.mem_map_of_mem h), mkB_self s⟩
theorem sortS_nodup {l : List ByteArray} (h : l.Nodup) : (sortS l).Nodup := by
  refine nodup_mkB ?_
  have h1 : (l.map (·.data.toList)).Nodup := by
    rw [List.nodup_iff_pairwise_ne, List.pairwise_map]
    exact (List.nodup_iff_pairwise_ne.1 h).imp fun hne e => hne (kb_eq e)
  exact (List.mergeSort_perm (l.map (·.data.toList)) fun x y => decide (x ≤ y)).nodup_iff.2 h1
theorem csOf_mem (l : List ByteArray) (s : ByteArray) : s ∈ csOf l ↔ s ∈ l := by
  unfold csOf
  rw [List.mem_map]
  have hc := (compact_rising _ (by rw [sortS_data]; exact sorted_pair _ : ((sortS l).map (·.data.toList)).Pairwise fun x y => leL x y = true)).2
  constructor
  · rintro ⟨x, hx, rfl⟩
    rw [hc, sortS_data, sorted_mem] at hx
    obtain ⟨y, hy, rfl⟩ := List.mem_map.1 hx
    rw [mkB_self]; exact hy
  · intro h
    exact ⟨s.data.toList, (hc _).2 (by rw [sortS_data, sorted_mem]; exact List.mem_map_of_mem h), mkB_self s⟩
theorem csOf_nodup (l : List ByteArray) : (csOf l).Nodup := by
  refine nodup_mkB ?_
  have hc := (compact_rising _ (by rw [sortS_data]; exact sorted_pair _ : ((sortS l).map (·.data.toList)).Pairwise fun x y => leL x y = true)).1
  rw [List.nodup_iff_pairwise_ne]
  refine hc.imp fun {a b} h e => ?_
  subst e
  have h2 := bl_asymm h
  rw [h] at h2
  cases h2
theorem sortS_len (l : List ByteArray) : (sortS l).length = l.length := by unfold sortS; rw [List.length_map, sorted_len, List.length_map]
theorem csOf_len (l : List ByteArray) : (csOf l).length ≤ l.length := Rf.nodup_len (csOf_nodup l) fun s hs => (csOf_mem l s).1 hs
theorem get_notin {l : List ByteArray} (hn : l.Nodup) {j : Nat} {s : ByteArray} (hs : l[j]? = some s) : s ∉ l.take j := by
  intro h
  have h1 : l = l.take j ++ (s :: l.drop (j + 1)) := by rw [← Rf.drop_succ hs, List.take_append_drop]
  rw [h1] at hn
  exact (List.nodup_append.1 hn).2.2 s h s (List.mem_cons_self ..) rfl
def WaitF (F : KB → Option Value) (W : ByteArray → Nat) : Prop := ∀ s : ByteArray, (F s.data.toList).getD (.int .i64 0) = .int .i64 (W s : Int)
theorem waitF_zero : WaitF (fun _ => none) fun _ => 0 := fun _ => rfl
theorem WaitF.put {F : KB → Option Value} {W : ByteArray → Nat} (h : WaitF F W) (s : ByteArray) (n : Nat) : WaitF (updF F s.data.toList (.int .i64 (n : Int))) (Rf.upd W s n) := fun z => by
  unfold updF
  by_cases e : z = s
  · subst e; rw [if_pos rfl, Rf.upd_same]; rfl
  · rw [if_neg (fun e' => e (kb_eq e')), Rf.upd_other _ _ e]; exact h z
theorem upd_upd (W : ByteArray → Nat) (s : ByteArray) (a b : Nat) : Rf.upd (Rf.upd W s a) s b = Rf.upd W s b := funext fun z => by
  unfold Rf.upd
  by_cases e : z = s
  · rw [if_pos e, if_pos e]
  · rw [if_neg e, if_neg e, if_neg e]
theorem upd_id {W : ByteArray → Nat} {s : ByteArray} {a : Nat} (h : W s = a) : Rf.upd W s a = W := funext fun z => by
  unfold Rf.upd
  by_cases e : z = s
  · rw [if_pos e, e, h]
  · rw [if_neg e]
def Owing (l : List GCard) (cs : List ByteArray) (j c : Nat) : Prop := Rf.Cnt (fun o => o ∈ cs.take j ∧ o ∈ Rf.uids (cds l)) c
theorem owing_zero (l : List GCard) (cs : List ByteArray) : Owing l cs 0 0 := Rf.Cnt.zero fun o h => by simp at h
theorem Owing.yes {l : List GCard} {cs : List ByteArray} {j c : Nat} (h : Owing l cs j c) (hn : cs.Nodup) {o : ByteArray} (ho : cs[j]? = some o) (hin : o ∈ Rf.uids (cds l)) : Owing l cs (j + 1) (c + 1) := by
  refine (h.add (u := o) fun h' => get_notin hn ho h'.1).congr fun z => ?_
  rw [Rf.take_succ ho]
  constructor
  · rintro (⟨a, b⟩ | rfl)
    · exact ⟨List.mem_append_left _ a, b⟩
    · exact ⟨by simp, hin⟩
  · rintro ⟨a, b⟩
    rcases List.mem_append.1 a with a | a
    · exact .inl ⟨a, b⟩
    · exact .inr (by simpa using a)
theorem Owing.no {l : List GCard} {cs : List ByteArray} {j c : Nat} (h : Owing l cs j c) {o : ByteArray} (ho : cs[j]? = some o) (hin : o ∉ Rf.uids (cds l)) : Owing l cs (j + 1) c := by
  refine Rf.Cnt.congr h fun z => ?_
  rw [Rf.take_succ ho]
  constructor
  · rintro ⟨a, b⟩; exact ⟨List.mem_append_left _ a, b⟩
  · rintro ⟨a, b⟩
    rcases List.mem_append.1 a with a | a
    · exact ⟨a, b⟩
    · simp only [List.mem_singleton] at a; subst a; exact (hin b).elim
theorem Owing.le {l : List GCard} {cs : List ByteArray} {j c : Nat} (h : Owing l cs j c) : c ≤ cs.length := Rf.Cnt.le h fun _ ho => List.mem_of_mem_take ho.1
theorem Owing.all {l : List GCard} {x : GCard} {j c : Nat} (h : Owing l (csOf x.owners) j c) (hj : (csOf x.owners).length ≤ j) : Rf.Cnt (fun o => o ∈ (cdOf x).own ∧ o ∈ Rf.uids (cds l)) c := by
  refine Rf.Cnt.congr h fun z => ?_
  rw [List.take_of_length_le hj, csOf_mem]
  exact Iff.rfl
def DOut (out : List ByteArray) (uid : ByteArray) (us : List ByteArray) (j : Nat) : ByteArray → ByteArray → Prop := fun o u => o ∈ out ∨ (o = uid ∧ u ∈ us.take j)
theorem ginv_begin {l : List GCard} {W : ByteArray → Nat} {out r : List ByteArray} {uid : ByteArray} (h : Rf.GInv (cds l) W (out ++ uid :: r) (fun o _ => o ∈ out)) (us : List ByteArray) : Rf.GInv (cds l) W ((out ++ [uid]) ++ r) (DOut out uid us 0) := by
  have e : (out ++ [uid]) ++ r = out ++ uid :: r := by simp
  rw [e]
  refine h.congr (fun x hx o ho hol => ?_) fun o u hd => ?_
  · unfold DOut; simp
  · unfold DOut at hd
    simp only [List.take_zero, List.not_mem_nil, and_false, or_false] at hd
    exact List.mem_append_left _ hd
theorem ginv_round {l : List GCard} (hn : (Rf.uids (cds l)).Nodup) {W : ByteArray → Nat} {out r : List ByteArray} {uid u : ByteArray} {j : Nat} (h : Rf.GInv (cds l) W ((out ++ [uid]) ++ r) (DOut out uid (ownsB l uid) j)) (hu : (ownsB l uid)[j]? = some u) :
    1 ≤ W u ∧ W u ≤ 1048576 + l.length * 1048576 ∧ Rf.GInv (cds l) (Rf.upd W u (W u - 1)) ((out ++ [uid]) ++ (if W u - 1 = 0 then r ++ [u] else r)) (DOut out uid (ownsB l uid) (j + 1)) ∧ W u ≤ l.length := by
  have hin : uid ∈ (out ++ [uid]) ++ r := by simp
  have huo : u ∈ Rf.ownsL (cds l) uid := List.mem_of_getElem? hu
  have hno : uid ∉ out := fun h' => by
    have := h.nodup
    rw [List.append_assoc] at this
    exact (List.nodup_append.1 this).2.2 uid h' uid (by simp) rfl
  obtain ⟨h1, h2⟩ := h.step hn hin huo (by
    unfold DOut
    rintro (h' | ⟨_, h'⟩)
    · exact hno h'
    · exact get_notin (Rf.owns_nodup hn uid) hu h')
  have hle : W u ≤ l.length := by
    obtain ⟨x, hx, _, rfl⟩ := Rf.mem_owns.1 huo
    have := (h.cnt x hx).le (m := Rf.uids (cds l)) fun o ho => ho.2.1
    simpa [Rf.uids, cds] using this
  refine ⟨h1, by omega, ?_, hle⟩
  have e : ((out ++ [uid]) ++ (if W u - 1 = 0 then r ++ [u] else r)) = (if W u - 1 = 0 then ((out ++ [uid]) ++ r) ++ [u] else (out ++ [uid]) ++ r) := by
    split <;> simp
  rw [e]
  refine h2.congr (fun x hx o ho hol => ?_) fun o z hd => ?_
  · unfold DOut
    rw [Rf.take_succ hu]
    constructor
    · rintro ((a | ⟨a, b⟩) | ⟨a, b⟩)
      · exact .inl a
      · exact .inr ⟨a, List.mem_append_left _ b⟩
      · exact .inr ⟨a, by rw [b]; simp⟩
    · rintro (a | ⟨a, b⟩)
      · exact .inl (.inl a)
      · rcases List.mem_append.1 b with b | b
        · exact .inl (.inr ⟨a, b⟩)
        · exact .inr ⟨a, by simpa using b⟩
  · have : o ∈ (out ++ [uid]) ++ r := by
      rcases hd with hd | ⟨rfl, _⟩
      · rw [List.append_assoc]; exact List.mem_append_left _ hd
      · exact hin
    split
    · exact List.mem_append_left _ this
    · exact this
theorem ginv_end {l : List GCard} {W : ByteArray → Nat} {out r : List ByteArray} {uid : ByteArray} {j : Nat} (h : Rf.GInv (cds l) W ((out ++ [uid]) ++ r) (DOut out uid (ownsB l uid) j)) (hj : (ownsB l uid).length ≤ j) : Rf.GInv (cds l) W ((out ++ [uid]) ++ r) (fun o _ => o ∈ out ++ [uid]) := by
  refine h.congr (fun x hx o ho hol => ?_) fun o u hd => List.mem_append_left _ hd
  unfold DOut
  rw [List.take_of_length_le hj, List.mem_append, List.mem_singleton]
  constructor
  · rintro (a | ⟨a, _⟩)
    · exact .inl a
    · exact .inr a
  · rintro (a | a)
    · exact .inl a
    · subst a
      exact .inr ⟨rfl, Rf.mem_owns.2 ⟨x, hx, ho, rfl⟩⟩
theorem isGone_sort {l : List GCard} {W : ByteArray → Nat} {out : List ByteArray} (h : Rf.GInv (cds l) W (out ++ []) (fun o _ => o ∈ out)) : Rf.IsGone (cds l) (sortS out) := by
  rw [List.append_nil] at h
  exact ⟨sortS_nodup h.nodup, fun u => by rw [sortS_mem]; exact h.all u⟩
theorem grown_row {wd w1 w2 : World} {m : Nat} {row : Option Nat} (h : wd.grownBy w1 (some m)) (hg : w1.grownBy w2 row) (hr : ∀ q, row = some q → wd.heap.size ≤ q) : wd.grownBy w2 (some m) :=
  ⟨hg.os.trans h.os, hg.tape.trans h.tape, hg.output.trans h.output, Nat.le_trans h.size hg.size, fun k hk hne => (hg.block k (Nat.lt_of_lt_of_le hk h.size) fun e => by have := hr k e.symm; omega).trans (h.block k hk hne)⟩
theorem grown_below {wd w1 w2 : World} {m : Nat} (h : wd.grownBy w1 (some m)) (hb : Below w1.heap.size w1 w2) : wd.grownBy w2 (some m) := grown_row h (below_grown hb none) fun q e => by cases e
theorem grown_self (w : World) (row : Option Nat) : w.grownBy w row := ⟨rfl, rfl, rfl, Nat.le_refl _, fun _ _ _ => rfl⟩
theorem GraphAt.but {w w' : World} {lo tb ob n m : Nat} {T f : KB → Option Value} {l : List GCard} (h : GraphAt w lo tb ob n T f l) (hg : w.grownBy w' (some m)) (hm : ∃ es clock, w.heap[m]? = some (.map es clock)) (h1 : tb ≠ m) (h2 : ob ≠ m) : GraphAt w' lo tb ob n T f l := by
  refine ⟨h.there.block (hg.block tb h.there.lt fun e => h1 (by injection e)), h.seen, h.owns.kept (hg.block ob h.owns.map.lt fun e => h2 (by injection e)) fun k v q hk hq => hg.block q (h.owns.lt hk hq).2.1 fun e => ?_, h.ne, h.tlo⟩
  obtain ⟨s, rfl⟩ := kb_form k
  obtain ⟨_, _, cur, h9⟩ := (h.owns.row s v hk).at hq
  obtain ⟨es, clock, h8⟩ := hm
  injection e with e
  rw [e, h8] at h9; cases h9
theorem QAt.but {w w' : World} {B m : Nat} {e : TypeId} {v : Value} {l : List ByteArray} (h : QAt Value.string e w B v l) (hg : w.grownBy w' (some m)) (hm : ∃ es clock, w.heap[m]? = some (.map es clock)) : QAt Value.string e w' B v l :=
  h.keep fun q hq => hg.block q (h.at hq).2.1 fun e => by
    obtain ⟨_, _, cur, h9⟩ := h.at hq
    obtain ⟨es, clock, h8⟩ := hm
    injection e with e
    rw [e, h8] at h9; cases h9
theorem own_but {w w' : World} {B m : Nat} {v : Value} {l : List ByteArray} (h : OwnAt RString 1 w B 9 v l) (hg : w.grownBy w' (some m)) (hm : ∃ es clock, w.heap[m]? = some (.map es clock)) : OwnAt RString 1 w' B 9 v l :=
  own_keepB h fun q hq => hg.block q (h.at hq).2.1 fun e => by
    obtain ⟨_, _, cur, h9⟩ := h.at hq
    obtain ⟨es, clock, h8⟩ := hm
    injection e with e
    rw [e, h8] at h9; cases h9
theorem box_but {w w' : World} {m b : Nat} {cs : Array Value} {t : TypeId} {fr : Nat × Nat} (h : w.heap[b]? = some (.cells cs t fr)) (hg : w.grownBy w' (some m)) (hne : b ≠ m) : w'.heap[b]? = some (.cells cs t fr) :=
  (hg.block b (Array.getElem?_eq_some_iff.1 h).1 fun e => hne (by injection e)).trans h
theorem strAt_but {w w' : World} {m : Nat} {v : Value} {l : List ByteArray} (h : StrAt w v l) (hg : w.grownBy w' (some m)) (hm : ∃ es clock, w.heap[m]? = some (.map es clock)) : StrAt w' v l :=
  h.keep fun p u hp => (World.cell?_of_block (hg.block p.block (World.block_lt_of_cell? w _ hp) fun e => by
    obtain ⟨es, clock, h8⟩ := hm
    injection e with e
    unfold World.cell? at hp
    rw [e, h8] at hp
    simp at hp)).trans hp
def SepV (a b : Value) : Prop := ∀ q, a.ownBlock = some q → b.ownBlock ≠ some q
end Go.Proofs.Ytgoapmjcfdbjpaa
namespace Go.Proofs.Ytgoapmjcfdbjpaa
open Go.RowKit Go.MapKept Go.ChangeMaps
set_option maxRecDepth 100000 in
set_option maxHeartbeats 12800000 in
theorem refsGarbage_any (v : Value) (l : List GCard) (w : World) (h : RowAt CardR 2 w v l) (hok : OkCards l) :
    Calls Try.prog 8 #[v] w fun e w' => ∃ (v' : Value) (g : List ByteArray), e = .returned (.tuple #[v', .int .i64 (refsE l)]) ∧ OwnAt RString 1 w' w.heap.size 9 v' g ∧ (refsE l ≠ 0 → g = []) ∧ (refsE l = 0 → Rf.IsGone (cds l) g) ∧ Below w.heap.size w w' := by
  obtain ⟨a1, c1, rfl, -, -⟩ := h.len
  have HRow := Lib.hid h
  have Hok := Lib.hid hok
  have HCk := Lib.hid (refsCheck_any _ l w h hok)
  obtain ⟨c, Hc⟩ : ∃ c, Hid (refsE l = c) := ⟨_, Lib.hid rfl⟩
  rw [Hc.out] at HCk ⊢
  obtain ⟨nl, hnl⟩ : ∃ n, l.length = n := ⟨_, rfl⟩
  rw [hnl] at HCk HRow ⊢
  have Hnl := Lib.hid hnl
  clear h hok hnl
  go_enter Try.func8, Try.ntmps8
  go_wp2_with fail
  refine HCk.out.mono ?_
  rintro e wa ⟨rfl, hba⟩
  have HBa := Lib.hid hba
  clear HCk hba
  by_cases hc0 : c = 0
  · subst hc0
    have hgd : GoodL l := refsE_zero.1 Hc.out
    have Hgd := Lib.hid hgd
    have HOf := Lib.hid (refsOf_any (.slice a1 nl c1) l wa (HRow.out.below stays_card HBa.out) Hok.out hgd)
    have hl := hgd.len
    have Hs := Lib.hid Hok.out.2
    have Hun := Lib.hid hgd.nodup
    have Huz : Hid (∀ s ∈ Rf.uids (cds l), s.size ≤ 1048576) := Lib.hid fun s hs => by
      rw [cds_uids] at hs
      obtain ⟨x, hx, rfl⟩ := List.mem_map.1 hs
      exact (Hok.out.2 x hx).1
    rw [Hnl.out] at hl
    have hmm := @run_makeMap Try.prog
    clear hgd
    go_wp2_with fail
    refine HOf.out.mono ?_
    rintro e wb ⟨tb, ob, n, T, f, rfl, hG, hn3, hbb⟩
    have HG0 := Lib.hid hG
    have HBb := Lib.hid (HBa.out.trans (hbb.mono HBa.out.size))
    clear HOf hG hbb HBa
    obtain ⟨gg, hgg⟩ : ∃ b, b = wb.heap.size := ⟨_, rfl⟩
    obtain ⟨wm, hwm⟩ : ∃ b, b = wb.heap.size + 1 := ⟨_, rfl⟩
    obtain ⟨wc, hwc⟩ : ∃ x, x = wb.alloc (.cells #[.map (some tb), .map (some ob)] 56) := ⟨_, rfl⟩
    obtain ⟨wd, hwd⟩ : ∃ x, x = wc.alloc (.map #[] 0) := ⟨_, rfl⟩
    have sc0 : wc.heap.size = wb.heap.size + 1 := by rw [hwc, World.size_alloc]
    have bc : Below wb.heap.size wb wc := by rw [hwc]; exact (Below.refl _ wb).alloc (Nat.le_refl _) _
    have bd : Below wc.heap.size wc wd := by rw [hwd]; exact (Below.refl _ wc).alloc (Nat.le_refl _) _
    have bbd : Below wb.heap.size wb wd := bc.trans (bd.mono (by omega))
    have hGc : wc.heap[gg]? = some (.cells #[.map (some tb), .map (some ob)] 56 (0, 0)) := by rw [hwc, hgg]; exact heap_alloc_new wb _
    have hMd : MapS Try.prog 9 wd wm 0 fun _ => none := by rw [hwd, hwm, ← sc0]; exact mapS_made _ _ _
    have sz0 := HBb.out.size
    have HG := Lib.hid (HG0.out.below bbd)
    have BG0 := Lib.hid (below_block bd hGc)
    have HM0 := Lib.hid hMd
    have HBd0 : Hid (Below wd.heap.size wd wd) := Lib.hid (Below.refl _ _)
    have HBwd := Lib.hid (HBb.out.trans (bbd.mono HBb.out.size))
    have hle : w.heap.size ≤ gg ∧ w.heap.size ≤ wm ∧ gg ≠ wm ∧ tb ≠ wm ∧ ob ≠ wm ∧ tb ≠ gg ∧ ob ≠ gg := by
      have h1 := HG0.out.there.lt
      have h2 := HG0.out.owns.map.lt
      omega
    have Hle := Lib.hid hle
    have HW0 : Hid (WaitF (fun _ => none) fun _ => 0) := Lib.hid waitF_zero
    have HP0 := Lib.hid (Rf.gpre_zero (cds l))
    have HQ0 : Hid (QAt Value.string 9 wd w.heap.size (.slice none 0 0) []) := Lib.hid (QAt.nil _ _ _ _)
    go_upto_region 6 with fail
    rw [← hwc]
    try rw [← hwm]
    try rw [← hgg]
    rw [← hwd]
    clear hwc hwd bc bd bbd hGc hMd hmm hgg hwm sc0 HG0 HBb hle
    have Hmm : Hid (∃ es clock, wd.heap[wm]? = some (.map es clock)) := Lib.hid HM0.out.isMap
    have HK0 : Hid (wd.grownBy wd (some wm)) := Lib.hid (grown_self wd _)
    have HQ1 : Hid (QAt Value.string 9 wd wd.heap.size (.slice none 0 0) []) := Lib.hid (QAt.nil _ _ _ _)
    clear HQ0 HBd0
    go_wp2_with fail
    go_loopg [7, 28] nl (fun k u7 u28 wr => ∃ (i m : Nat) (F : KB → Option Value) (W : ByteArray → Nat) (Q : List ByteArray), i + k = nl ∧ u28 = .int .i64 (i : Int) ∧ Hid (Rf.GPre (cds l) i W Q) ∧ Hid (QAt Value.string 9 wr wd.heap.size u7 Q) ∧ Hid (MapS Try.prog 9 wr wm m F) ∧ Hid (WaitF F W) ∧ m ≤ 4 * i ∧ Hid (wd.grownBy wr (some wm)))
    case atStart => exact ⟨0, 0, _, _, [], by omega, rfl, HP0, HQ1, HM0, HW0, by omega, HK0⟩
    case round =>
      clear HP0 HQ1 HM0 HW0 HK0
      obtain ⟨i, m, F, W, Q, hik, rfl, HP, HQ, HM, HW, hm4, HK⟩ := hrel
      have HB : Hid (Below w.heap.size w wr) := Lib.hid (HBwd.out.grown HK.out HBwd.out.size fun q hq => by cases hq; exact Hle.out.2.1)
      have BG := Lib.hid (box_but BG0.out HK.out Hle.out.2.2.1)
      cases gk with
      | zero =>
        obtain rfl : nl = i := by omega
        have HI0 : Hid (Rf.GInv (cds l) W ([] ++ Q) (fun o _ => o ∈ ([] : List ByteArray))) := Lib.hid (by
          have h9 := HP.out
          rw [← Hnl.out, ← cds_len] at h9
          exact (h9.inv Hun.out).congr (fun _ _ _ _ _ => by simp) fun o u h => by cases h)
        have HO0 : Hid (OwnAt RString 1 wr wd.heap.size 9 (.slice none 0 0) []) := Lib.hid (OwnAt.nil _)
        have HSe0 : Hid (SepV u7 (.slice none 0 0)) := Lib.hid fun q _ h => by cases h
        clear HB HP BG
        go_wp2_with fail
        go_loopg [7, 8] nl (fun kk u7 u8 wr3 => ∃ (out nx : List ByteArray) (m : Nat) (F : KB → Option Value) (W : ByteArray → Nat), out.length + kk = nl ∧ Hid (Rf.GInv (cds l) W (out ++ nx) (fun o _ => o ∈ out)) ∧ Hid (QAt Value.string 9 wr3 wd.heap.size u7 nx) ∧ Hid (OwnAt RString 1 wr3 wd.heap.size 9 u8 out) ∧ Hid (SepV u7 u8) ∧ Hid (MapS Try.prog 9 wr3 wm m F) ∧ Hid (WaitF F W) ∧ m ≤ 300 + 60 * out.length ∧ Hid (wd.grownBy wr3 (some wm)))
        case atStart => exact ⟨[], Q, m, F, W, by simp, HI0, HQ, HO0, HSe0, HM, HW, by omega, HK⟩
        case round =>
          clear HI0 HO0 HSe0 HQ HM HW HK hm4
          obtain ⟨out, nx, m, F, W, hokk, HI, HQ, HO, HSe, HM, HW, hm4, HK⟩ := hrel
          have hql := HI.out.lenQ
          rw [cds_len, Hnl.out, List.length_append] at hql
          have BG := Lib.hid (box_but BG0.out HK.out Hle.out.2.2.1)
          have hwdr := HK.out.size
          obtain ⟨a8, c8, hu8, -, -⟩ := HO.out.row.len
          obtain ⟨on, hon⟩ : ∃ z, out.length = z := ⟨_, rfl⟩
          rw [hon] at hu8 hokk hql hm4
          subst hu8
          have Hon := Lib.hid hon
          clear hon
          cases nx with
          | nil =>
            have hQn := HQ.out
            obtain ⟨a7, c7, rfl, -, -⟩ := hQn.len
            have HSo := Lib.hid (sortStr_any (.slice a8 on c8) out wd.heap.size wr HO.out hwdr (by rw [Hon.out]; omega))
            have HGn := Lib.hid (isGone_sort HI.out)
            have HB : Hid (Below w.heap.size w wr) := Lib.hid (HBwd.out.grown HK.out HBwd.out.size fun q hq => by cases hq; exact Hle.out.2.1)
            have hwl := HBwd.out.size
            clear hQn HI
            go_wp2_with fail
            refine HSo.out.mono ?_
            rintro e w9 ⟨rfl, h1, h2⟩
            have Hfin : Hid (OwnAt RString 1 w9 w.heap.size 9 (.slice a8 on c8) (sortS out) ∧ Below w.heap.size w w9) := Lib.hid ⟨h1.mono hwl, HB.out.trans (h2.mono hwl)⟩
            clear HSo h1 h2
            go_wp2_with fail
            go_ret2
            exact ⟨_, rfl, sortS out, Hfin.out.1, HGn.out, Hfin.out.2⟩
          | cons uid r =>
            rw [List.length_cons] at hql
            obtain ⟨kg, rfl⟩ : ∃ kg, gk = kg + 1 := ⟨gk - 1, by omega⟩
            obtain ⟨qb, qo, qc, hu7, c0, hqc, hqm, hQt⟩ := HQ.out.head
            obtain ⟨rn, hrn⟩ : ∃ z, r.length = z := ⟨_, rfl⟩
            rw [hrn] at hu7 hqc hQt hql
            obtain ⟨nn, hnn⟩ : ∃ z, rn + 1 = z := ⟨_, rfl⟩
            rw [hnn] at hu7
            subst hu7
            have q0 : (0 : Int) < (nn : Int) := by omega
            have p1 : (1 : Int) ≤ (nn : Int) := by omega
            have HQt := Lib.hid hQt
            have hsep : ∀ (z : Option Addr) (n9 c9 : Nat), (z = some ⟨qb, qo, none⟩ ∨ z = some ⟨qb, qo + 1, none⟩) → SepV (.slice z n9 c9) (.slice a8 on c8) := fun z n9 c9 hz q hq => by
              refine HSe.out q ?_
              rcases hz with rfl | rfl <;> exact hq
            have HSep := Lib.hid hsep
            have huz : uid.size ≤ 1048576 := Huz.out uid ((HI.out.gone uid (by simp)).uid)
            have huz9 : uid.size ≤ maxLen := by unfold maxLen; omega
            clear hQt hsep
            go_upto_region 22 with fail
            go_cut [7] (fun u7 wx => Hid (QAt Value.string 9 wx wd.heap.size u7 r) ∧ Hid (SepV u7 (.slice a8 on c8)) ∧ wr = wx)
            case first =>
              have hnq : nn - 1 = rn := by omega
              by_cases hc1 : qc = 1
              · subst hc1
                obtain rfl : rn = 0 := by omega
                obtain rfl : nn = 1 := by omega
                have HQu := HQt
                rw [if_pos rfl] at HQu
                have HSu := Lib.hid (HSep.out (some ⟨qb, qo, none⟩) 0 0 (.inl rfl))
                clear HQt
                go_wp2_with fail
                go_meet
                exact ⟨HQu, HSu, rfl⟩
              · have HQu := HQt
                rw [if_neg hc1] at HQu
                have HSu := Lib.hid (HSep.out (some ⟨qb, qo + 1, none⟩) rn (qc - 1) (.inr rfl))
                have hc0 : ¬ (qc - 1 = 0) := by omega
                clear HQt
                go_wp2_with fail
                go_meet
                exact ⟨HQu, HSu, rfl⟩
            case rest =>
              obtain ⟨HQc, HSc, rfl⟩ := hcut
              clear HQt HSep c0 HQ HSe hqc hqm
              obtain ⟨w5, hw5⟩ : ∃ z, z = wr.alloc (.cells #[.string uid] 9) := ⟨_, rfl⟩
              have hb5 : Below wr.heap.size wr w5 := by rw [hw5]; exact (Below.refl _ wr).alloc (Nat.le_refl _) _
              obtain ⟨q9, hq9⟩ : ∃ q, q = wr.heap.size := ⟨_, rfl⟩
              have hq5 : w5.heap[q9]? = some (.cells #[.string uid] 9 (0, 0)) := by rw [hw5, hq9]; exact heap_alloc_new wr _
              have HQ5 := Lib.hid (HQc.out.below hb5)
              have HO5 := Lib.hid (HO.out.below stays_string hb5)
              have HM5 := Lib.hid (HM.out.belowW hb5)
              have HK5 := Lib.hid (grown_below HK.out hb5)
              have hwl5 : wd.heap.size ≤ w5.heap.size := HK5.out.size
              obtain ⟨i0, hi0, hz0, hz1, hz2⟩ := info_parts Try.infoStr
              clear hb5 HM HK HO HQc
              go_upto_region 24 with (at_builtin; rw [← hw5]; try rw [← hq9]; clear hw5 hq9; refine wpList_append_ownAt (R := RString) (k := 1) (e := 9) (B := wd.heap.size) (l := out) (m := [uid]) _ (by rfl) _ _ _ (by rfl) i0 _ 16 Try.underlying23 hi0 hz0 hz1 hz2 rfl (by omega) flat_string one_string _ (by rfl) HO5.out _ (by rfl) (RowAt.one hq5 rfl rfl) (by rw [Hon.out]; unfold maxLen; simp; omega) (by rw [Hon.out]; simp; omega) hwl5 ?_; intro v8 w6 hO6 hg6 hlo6 hat6)
              have hne6 : ∀ q, (Value.slice a8 on c8).ownBlock = some q → wd.heap.size ≤ q ∧ q ≠ wm := fun q hq => by
                obtain ⟨h1, _, cur, h9⟩ := HO5.out.at hq
                exact ⟨h1, fun e => HM5.out.ne h9 e.symm⟩
              have HM6 := Lib.hid (HM5.out.kept hg6 fun e => (hne6 wm e.symm).2 rfl)
              have HK6 := Lib.hid (grown_row HK5.out hg6 fun q hq => (hne6 q hq).1)
              have HO6 := Lib.hid hO6
              have HQ6 : Hid (QAt Value.string 9 w6 wd.heap.size u7 r) := Lib.hid (HQ5.out.keep fun q hq => hg6.block q (HQ5.out.at hq).2.1 fun e => HSc.out q hq e.symm)
              have HS6 : Hid (SepV u7 v8) := Lib.hid fun q hq h8 => by
                rcases hat6 with e | e
                · exact HSc.out q hq (by rw [← e]; exact h8)
                · rw [e] at h8; cases h8; exact absurd (HQ5.out.at hq).2.1 (Nat.lt_irrefl _)
              have BG6 := Lib.hid (box_but BG0.out HK6.out Hle.out.2.2.1)
              clear hO6 hg6 hlo6 hat6 hne6 HM5 HK5 HO5 HQ5 HSc hq5
              have hGr := HG.out.but HK6.out Hmm.out Hle.out.2.2.2.1 Hle.out.2.2.2.2.1
              have hlk := hGr.owns.look uid huz9
              obtain ⟨va, vc, hva, -, -⟩ := (hGr.owns.at uid).row.len
              obtain ⟨vn, hvn⟩ : ∃ vn, (ownsB l uid).length = vn := ⟨_, rfl⟩
              rw [hvn] at hva
              rw [hva] at hlk
              have HSt0 : Hid (StrAt wd (.slice va vn vc) (ownsB l uid)) := Lib.hid (by rw [← hva]; exact (HG.out.owns.at uid).row.strs)
              have Hvn := Lib.hid hvn
              have hvl : vn ≤ nl := by rw [← hvn, ← Hnl.out]; exact ownsB_len l uid
              have cg := fun z => cell_block BG6.out z
              have HI6 := Lib.hid (ginv_begin HI.out (ownsB l uid))
              clear hGr hva hvn HI
              go_wp2_with fail
              clear cg hlk
              go_loopg [7, 90] vn (fun k2 u7 u90 wr4 => ∃ (j m2 : Nat) (r2 : List ByteArray) (F2 : KB → Option Value) (W2 : ByteArray → Nat), j + k2 = vn ∧ u90 = .int .i64 (j : Int) ∧ Hid (Rf.GInv (cds l) W2 ((out ++ [uid]) ++ r2) (DOut out uid (ownsB l uid) j)) ∧ Hid (QAt Value.string 9 wr4 wd.heap.size u7 r2) ∧ Hid (OwnAt RString 1 wr4 wd.heap.size 9 v8 (out ++ [uid])) ∧ Hid (SepV u7 v8) ∧ Hid (MapS Try.prog 9 wr4 wm m2 F2) ∧ Hid (WaitF F2 W2) ∧ m2 ≤ 300 + 60 * on + j ∧ Hid (wd.grownBy wr4 (some wm)))
              case atStart => exact ⟨0, m, r, F, W, by omega, rfl, HI6, HQ6, HO6, HS6, HM6, HW, by omega, HK6⟩
              case round =>
                clear HI6 HQ6 HO6 HS6 HM6 HW HK6 BG6 BG hwdr hrn
                obtain ⟨j, m2, r2, F2, W2, hjk, rfl, HI, HQ, HO, HSe, HM, HW, hm2, HK⟩ := hrel
                cases gk with
                | zero =>
                  obtain rfl : vn = j := by omega
                  have HI' := Lib.hid (ginv_end HI.out (by rw [Hvn.out]; exact Nat.le_refl _))
                  clear HI
                  go_wp2_with fail
                  go_roundg kg
                  case measure => omega
                  case rel => exact ⟨out ++ [uid], r2, m2, F2, W2, by rw [List.length_append, Hon.out]; simp; omega, HI', HQ, HO, HSe, HM, HW, by rw [List.length_append, Hon.out]; simp; omega, HK⟩
                | succ k2 =>
                  have hjl : j < vn := by omega
                  obtain ⟨u, hju⟩ : ∃ u, (ownsB l uid)[j]? = some u := ⟨(ownsB l uid)[j]'(by rw [Hvn.out]; exact hjl), List.getElem?_eq_getElem _⟩
                  obtain ⟨b9, o9, c9, hv9, _, _, _, hcy⟩ := (strAt_but HSt0.out HK.out Hmm.out).form (by rw [Hvn.out]; omega)
                  injection hv9 with u1 u2 u3
                  subst u1
                  clear u2 u3
                  have e0 := hcy j u hju
                  have q3 : (0 : Int) ≤ (j : Int) := by omega
                  have q4 : (j : Int) < (vn : Int) := by omega
                  have hus : u.size ≤ 1048576 := Huz.out u (Rf.owns_uids (List.mem_of_getElem? hju))
                  have hus9 : u.size ≤ maxLen := by unfold maxLen; omega
                  obtain ⟨hw1, -, hI', hwl⟩ := ginv_round Hun.out HI.out hju
                  rw [Hnl.out] at hwl
                  have hlw := (MapS.look HM.out Try.underlying9 Try.underlying37 (Try.zeroIntR wr) u hus9).2
                  rw [HW.out u] at hlw
                  have hms9 : m2 < maxLen := by unfold maxLen; omega
                  have HWp := HW.out.put u (W2 u - 1)
                  obtain ⟨wu, hwu⟩ : ∃ z, W2 u = z := ⟨_, rfl⟩
                  rw [hwu] at hw1 hI' hwl hlw HWp
                  have hcast : ((wu - 1 : Nat) : Int) = (wu : Int) - 1 := by omega
                  rw [hcast] at HWp
                  have HWp := Lib.hid HWp
                  have HI' := Lib.hid hI'
                  clear hcy hju hI' hwu hcast HI
                  go_upto_region 28 with (at_mapUpdate; refine wpList_store_mapS _ (by rfl) _ _ _ 37 (by rfl) 9 3 Try.underlying9 Try.underlying37 wm m2 F2 (by rfl) HM.out hms9 u hus9 (by rfl) (.int .i64 ((wu : Int) - 1)) (by rfl) ?_; intro w7 hm7 ht7)
                  have HM7 := Lib.hid hm7
                  have hwm7 : w7.heap.size = w7.heap.size := rfl
                  have HK7 := Lib.hid (grown_trans HK.out ht7.grown)
                  have HQ7 : Hid (QAt Value.string 9 w7 wd.heap.size u7 r2) := Lib.hid (HQ.out.but ht7.grown HM.out.isMap)
                  have HO7 : Hid (OwnAt RString 1 w7 wd.heap.size 9 v8 (out ++ [uid])) := Lib.hid (own_but HO.out ht7.grown HM.out.isMap)
                  have hlw7 := (MapS.look HM7.out Try.underlying9 Try.underlying37 (Try.zeroIntR w7) u hus9).2
                  rw [show (updF F2 u.data.toList (.int .i64 ((wu : Int) - 1)) u.data.toList).getD (.int .i64 0) = .int .i64 ((wu : Int) - 1) by unfold updF; rw [if_pos rfl]; rfl] at hlw7
                  clear hm7 ht7 hlw e0 HQ HO HM HK hwm7
                  by_cases hz : wu = 1
                  · subst hz
                    have HI9 : Hid (Rf.GInv (cds l) (Rf.upd W2 u (1 - 1)) ((out ++ [uid]) ++ (r2 ++ [u])) (DOut out uid (ownsB l uid) (j + 1))) := Lib.hid (by
                      have h9 := HI'.out
                      rw [if_pos rfl] at h9
                      exact h9)
                    have hr2 : r2.length ≤ 1048576 := by
                      have h9 := HI9.out.lenQ
                      rw [cds_len, Hnl.out] at h9
                      simp at h9
                      omega
                    have hz1 : ((1 : Nat) : Int) - 1 = 0 := rfl
                    rw [hz1] at hlw7
                    obtain ⟨a6, c6, hu6, -, -⟩ := HQ7.out.len
                    obtain ⟨n6, hn6⟩ : ∃ z, r2.length = z := ⟨_, rfl⟩
                    rw [hn6] at hu6
                    subst hu6
                    clear HI' hn6
                    obtain ⟨i0, hi0, hz0, hz1, hz2⟩ := info_parts Try.infoStr
                    obtain ⟨w8, hw8⟩ : ∃ z, z = w7.alloc (.cells #[.string u] 9) := ⟨_, rfl⟩
                    have hb8 : Below w7.heap.size w7 w8 := by rw [hw8]; exact (Below.refl _ w7).alloc (Nat.le_refl _) _
                    obtain ⟨q9, hq9⟩ : ∃ q, q = w7.heap.size := ⟨_, rfl⟩
                    have hq8 : w8.heap[q9]? = some (.cells #[.string u] 9 (0, 0)) := by rw [hw8, hq9]; exact heap_alloc_new w7 _
                    have HQ8 := Lib.hid (HQ7.out.below hb8)
                    have HO8 := Lib.hid (HO7.out.below stays_string hb8)
                    have HM8 := Lib.hid (HM7.out.belowW hb8)
                    have HK8 := Lib.hid (grown_below HK7.out hb8)
                    have hwl8 : wd.heap.size ≤ w8.heap.size := HK8.out.size
                    clear hb8 HQ7 HO7 HM7 HK7
                    go_upto_region 30 with (at_builtin; rw [← hw8]; try rw [← hq9]; clear hw8 hq9; refine wpList_append_q (enc := Value.string) (by rfl) _ _ _ (by rfl) Try.underlying23 hi0 hz0 hz1 hz2 rfl one_enc (by rfl) HQ8.out u q9 (by rfl) hq8 hr2 (by omega) hwl8 ?_; intro v9 w9 hQ9 hg9 hat9)
                    have hne9 : ∀ q, (Value.slice a6 n6 c6).ownBlock = some q → wd.heap.size ≤ q ∧ q ≠ wm := fun q hq => by
                      obtain ⟨h1, _, cur, h9⟩ := HQ8.out.at hq
                      exact ⟨h1, fun e => HM8.out.ne h9 e.symm⟩
                    have HM9 := Lib.hid (HM8.out.kept hg9 fun e => (hne9 wm e.symm).2 rfl)
                    have HK9 := Lib.hid (grown_row HK8.out hg9 fun q hq => (hne9 q hq).1)
                    have HO9 : Hid (OwnAt RString 1 w9 wd.heap.size 9 v8 (out ++ [uid])) := Lib.hid (own_keepB HO8.out fun q hq => hg9.block q (HO8.out.at hq).2.1 fun e => HSe.out q e.symm hq)
                    have HS9 : Hid (SepV v9 v8) := Lib.hid fun q hq h8 => by
                      rcases hat9 with e | e
                      · exact HSe.out q (by rw [← e]; exact hq) h8
                      · rw [e] at hq; cases hq; exact absurd (HO8.out.at h8).2.1 (Nat.lt_irrefl _)
                    have HQ9 := Lib.hid hQ9
                    clear hQ9 hg9 hat9 hne9 HQ8 HM8 HK8 HO8 hlw7 hq8
                    go_wp2_with fail
                    go_roundg k2
                    case measure => omega
                    case rel => exact ⟨j + 1, m2 + 1, r2 ++ [u], _, _, by omega, by go_num, HI9, HQ9, HO9, HS9, HM9, HWp, by omega, HK9⟩
                  · have HI9 : Hid (Rf.GInv (cds l) (Rf.upd W2 u (wu - 1)) ((out ++ [uid]) ++ r2) (DOut out uid (ownsB l uid) (j + 1))) := Lib.hid (by
                      have h9 := HI'.out
                      rw [if_neg (by omega)] at h9
                      exact h9)
                    have tz : ¬ ((wu : Int) - 1 = 0) := by omega
                    have tz2 : ((wu : Int) - 1 == 0) = false := by simpa using tz
                    clear HI'
                    go_wp2_with fail
                    clear hlw7
                    go_roundg k2
                    case measure => omega
                    case rel => exact ⟨j + 1, m2 + 1, r2, _, _, by omega, by go_num, HI9, HQ7, HO7, HSe, HM7, HWp, by omega, HK7⟩
      | succ k =>
        have hil : i < nl := by omega
        obtain ⟨x, hxi⟩ : ∃ x, l[i]? = some x := ⟨l[i]'(by rw [Hnl.out]; exact hil), List.getElem?_eq_getElem _⟩
        obtain ⟨bb, o, c', hv, _, _, hbs, hcell⟩ := HRow.out.form (by rw [Hnl.out]; omega) (by omega)
        injection hv with u1 u2 u3
        subst u1
        clear u2 u3
        obtain ⟨ds, _, hcc, v1, rfl, hst⟩ := hcell i x hxi
        obtain ⟨sa, sc, rfl, -, -⟩ := hst.row.len
        obtain ⟨sn, hsn⟩ : ∃ sn, x.owners.length = sn := ⟨_, rfl⟩
        rw [hsn] at hcc hst
        obtain ⟨hmu, hmo, hms⟩ := Hs.out x (List.mem_of_getElem? hxi)
        have e0 : wr.cell? ⟨bb, o + i * 2, none⟩ = some (.string x.uid) := (HB.out.cell (p := ⟨bb, _, none⟩) hbs).trans (by simpa using hcc 0 _ rfl)
        have e1 : wr.cell? ⟨bb, o + i * 2 + 1, none⟩ = some (.slice sa sn sc) := (HB.out.cell (p := ⟨bb, _, none⟩) hbs).trans (hcc 1 _ rfl)
        have q1 : (0 : Int) ≤ (i : Int) := by omega
        have q2 : (i : Int) < (nl : Int) := by omega
        obtain ⟨w2, hw2⟩ : ∃ w2, w2 = wr.alloc (.cells #[.string x.uid, .slice sa sn sc] 31) := ⟨_, rfl⟩
        obtain ⟨gx, hgx⟩ : ∃ gx, gx = wr.heap.size := ⟨_, rfl⟩
        have b2 : w2.heap[gx]? = some (.cells #[.string x.uid, .slice sa sn sc] 31 (0, 0)) := by rw [hw2, hgx]; exact heap_alloc_new wr _
        have hb2 : Below wr.heap.size wr w2 := by rw [hw2]; exact (Below.refl _ wr).alloc (Nat.le_refl _) _
        have HB2 := Lib.hid (HB.out.trans (hb2.mono HB.out.size))
        have Hxi := Lib.hid hxi
        have BX := Lib.hid b2
        have hsm : sn ≤ 4 := by rw [← hsn]; exact (Hgd.out.good x (List.mem_of_getElem? hxi)).2.1
        have Hsn := Lib.hid hsn
        have Hms := Lib.hid hms
        have Hu9 : Hid (x.uid.size ≤ maxLen) := Lib.hid (by unfold maxLen; omega)
        have hrest : W x.uid = 0 := HP.out.rest (cdOf x) (by rw [Rf.drop_succ (cds_get hxi)]; exact List.mem_cons_self ..)
        have Hrest := Lib.hid hrest
        have HM2 := Lib.hid (HM.out.belowW hb2)
        have HQ2 := Lib.hid (HQ.out.below hb2)
        have HK2 := Lib.hid (grown_below HK.out hb2)
        have BG2 := Lib.hid (below_block hb2 BG.out)
        have HSt := Lib.hid (hst.below HB2.out)
        have hgxm : gx ≠ wm := fun e => HM2.out.ne b2 e.symm
        have cc := fun z => cell_block b2 z
        have hwdl := HK2.out.size
        clear hcc hcell hxi hst hb2 b2 hsn hbs hmo hms hmu HB HM HQ HK BG hrest
        go_upto_region 10 with fail
        rw [← hw2]
        try rw [← hgx]
        clear hw2 hgx e0 e1
        obtain ⟨w3, hw3⟩ : ∃ z, z = w2.alloc (.cells #[.slice sa sn sc] 23) := ⟨_, rfl⟩
        obtain ⟨gv, hgv⟩ : ∃ z, z = w2.heap.size := ⟨_, rfl⟩
        have hv3 : w3.heap[gv]? = some (.cells #[.slice sa sn sc] 23 (0, 0)) := by rw [hw3, hgv]; exact heap_alloc_new w2 _
        have hb3 : Below w2.heap.size w2 w3 := by rw [hw3]; exact (Below.refl _ w2).alloc (Nat.le_refl _) _
        have HVa := Lib.hid (values_any (.slice sa sn sc) sa sn sc rfl w2)
        have HSo := Lib.hid (sortedVals_any (.slice sa sn sc) x.owners gv w3 (HSt.out.below hb3) hv3 (by rw [Hsn.out]; omega))
        have HM3 := Lib.hid (HM2.out.belowW hb3)
        have HQ3 := Lib.hid (HQ2.out.below hb3)
        have HK3 := Lib.hid (grown_below HK2.out hb3)
        have BG3 := Lib.hid (below_block hb3 BG2.out)
        have BX3 := Lib.hid (below_block hb3 BX.out)
        have hs3 := hb3.size
        clear hv3 hb3 HM2 HQ2 HK2 BG2 BX HSt
        go_wp2_with fail
        refine HVa.out.mono ?_
        rintro e w9 ⟨rfl, hw9⟩
        rw [← hw3] at hw9
        subst hw9
        rw [← hgv]
        clear HVa hw3 hgv
        go_wp2_with fail
        refine HSo.out.mono ?_
        rintro e w4 ⟨v4, rfl, ho4, hb4⟩
        have HCo := Lib.hid (compactStr_any v4 (sortS x.owners) w9.heap.size w4 ho4 (by rw [sortS_len, Hsn.out]; omega))
        have HB34 := Lib.hid hb4
        clear HSo ho4 hb4
        go_wp2_with fail
        refine HCo.out.mono ?_
        rintro e w5 ⟨v5, rfl, ho5, hb5⟩
        have Hcs : Hid (OwnAt RString 1 w5 w9.heap.size 9 v5 (csOf x.owners)) := Lib.hid ho5
        obtain ⟨va, vc, hv5, -, -⟩ := ho5.row.len
        obtain ⟨cn, hcn⟩ : ∃ z, (csOf x.owners).length = z := ⟨_, rfl⟩
        have hv5' : v5 = .slice va cn vc := by
          rw [hv5]; exact congrArg (fun z => Value.slice va z vc) hcn
        subst hv5'
        have HCs : Hid (StrAt w5 (.slice va cn vc) (csOf x.owners)) := Lib.hid Hcs.out.row.strs
        have hcl : cn ≤ sn := by rw [← hcn, ← Hsn.out]; exact csOf_len x.owners
        have Hcn := Lib.hid hcn
        have Hb9 : Hid (Below w9.heap.size w9 w5) := Lib.hid (HB34.out.trans hb5)
        clear HCo ho5 hb5 hv5 hcn Hcs HB34
        have HM5 := Lib.hid (HM3.out.belowW Hb9.out)
        have HQ5 := Lib.hid (HQ3.out.below Hb9.out)
        have HK5 := Lib.hid (grown_below HK3.out Hb9.out)
        have BG5 := Lib.hid (below_block Hb9.out BG3.out)
        have BX5 := Lib.hid (below_block Hb9.out BX3.out)
        have HM5m : Hid (∃ es clock, w5.heap[wm]? = some (.map es clock)) := Lib.hid HM5.out.isMap
        have HW5 : Hid (WaitF F (Rf.upd W x.uid 0)) := Lib.hid (by rw [upd_id Hrest.out]; exact HW.out)
        have HO5 := Lib.hid (owing_zero l (csOf x.owners))
        have HK55 : Hid (w5.grownBy w5 (some wm)) := Lib.hid (grown_self w5 _)
        clear HM3 HQ3 HK3 BG3 BX3 Hb9
        go_wp2_with fail
        go_loopg [38] cn (fun k2 u38 wr2 => ∃ (j c2 m2 : Nat) (F2 : KB → Option Value), j + k2 = cn ∧ u38 = .int .i64 (j : Int) ∧ Hid (Owing l (csOf x.owners) j c2) ∧ Hid (MapS Try.prog 9 wr2 wm m2 F2) ∧ Hid (WaitF F2 (Rf.upd W x.uid c2)) ∧ m2 ≤ 4 * i + j ∧ Hid (w5.grownBy wr2 (some wm)))
        case atStart => exact ⟨0, 0, m, F, by omega, rfl, HO5, HM5, HW5, by omega, HK55⟩
        case round =>
          clear HO5 HM5 HW5 HK55 HW
          obtain ⟨j, c2, m2, F2, hjk, rfl, HO, HM, HW, hm2, HKr⟩ := hrel
          have HKw : Hid (wd.grownBy wr (some wm)) := Lib.hid (grown_trans HK5.out HKr.out)
          have BGr := Lib.hid (box_but BG5.out HKr.out Hle.out.2.2.1)
          have BXr := Lib.hid (box_but BX5.out HKr.out hgxm)
          have hc2 : c2 ≤ 4 := by have := HO.out.le; rw [Hcn.out] at this; omega
          have cc := fun z => cell_block BXr.out z
          have cg := fun z => cell_block BGr.out z
          cases gk with
          | zero =>
            obtain rfl : cn = j := by omega
            have hP' := HP.out.step Hun.out (cds_get Hxi.out) (HO.out.all (by rw [Hcn.out]; exact Nat.le_refl _))
            have HQr : Hid (QAt Value.string 9 wr wd.heap.size u7 Q) := Lib.hid (HQ5.out.but HKr.out HM5m.out)
            have hlw := (MapS.look HM.out Try.underlying9 Try.underlying37 (Try.zeroIntR wr) x.uid Hu9.out).2
            rw [HW.out x.uid, Rf.upd_same] at hlw
            have hwdr := HKw.out.size
            by_cases hs0 : sn = 0
            · have hnil : x.owners = [] := List.eq_nil_of_length_eq_zero (by rw [Hsn.out]; exact hs0)
              have HP' : Hid (Rf.GPre (cds l) (i + 1) (Rf.upd W x.uid c2) Q) := Lib.hid (by
                rw [if_neg (fun h => h.1 hnil)] at hP'
                exact hP')
              subst hs0
              clear hP' hnil HP HQ5
              go_wp2_with fail
              clear hlw cc cg
              go_roundg k
              case measure => omega
              case rel => exact ⟨i + 1, m2, F2, _, Q, by omega, by go_num, HP', HQr, HM, HW, by omega, HKw⟩
            · have hne : x.owners ≠ [] := fun e => hs0 (by rw [← Hsn.out, e]; rfl)
              have t0 : (0 : Int) < (sn : Int) := by omega
              by_cases hz : c2 = 0
              · subst hz
                have HP' : Hid (Rf.GPre (cds l) (i + 1) (Rf.upd W x.uid 0) (Q ++ [x.uid])) := Lib.hid (by
                  rw [if_pos ⟨hne, rfl⟩] at hP'
                  exact hP')
                have hql : Q.length ≤ 1048576 := by
                  have h9 := Rf.nodup_len HP.out.nodup (ks := Rf.uids (cds l)) fun u hu => by
                    obtain ⟨z, hz, he, _⟩ := (HP.out.inq u).1 hu
                    rw [← he]
                    exact List.mem_map_of_mem (List.mem_of_mem_take hz)
                  rw [cds_uids, List.length_map, Hnl.out] at h9
                  omega
                obtain ⟨a6, c6, hu6, -, -⟩ := HQr.out.len
                obtain ⟨n6, hn6⟩ : ∃ z, Q.length = z := ⟨_, rfl⟩
                rw [hn6] at hu6
                subst hu6
                obtain ⟨i0, hi0, hz0, hz1, hz2⟩ := info_parts Try.infoStr
                clear hP' hne HP HQ5 hn6 hs0
                obtain ⟨w6, hw6⟩ : ∃ z, z = wr.alloc (.cells #[.string x.uid] 9) := ⟨_, rfl⟩
                have hb6 : Below wr.heap.size wr w6 := by rw [hw6]; exact (Below.refl _ wr).alloc (Nat.le_refl _) _
                obtain ⟨q9, hq9⟩ : ∃ q, q = wr.heap.size := ⟨_, rfl⟩
                have hq6 : w6.heap[q9]? = some (.cells #[.string x.uid] 9 (0, 0)) := by rw [hw6, hq9]; exact heap_alloc_new wr _
                have HQ6 := Lib.hid (HQr.out.below hb6)
                have HM6 := Lib.hid (HM.out.belowW hb6)
                have HK6 := Lib.hid (grown_below HKw.out hb6)
                have hwl6 : wd.heap.size ≤ w6.heap.size := HK6.out.size
                clear hb6
                go_upto_region 19 with (at_builtin; rw [← hw6]; try rw [← hq9]; clear hw6 hq9; refine wpList_append_q (enc := Value.string) (by rfl) _ _ _ (by rfl) Try.underlying23 hi0 hz0 hz1 hz2 rfl one_enc (by rfl) HQ6.out x.uid q9 (by rfl) hq6 hql (by omega) hwl6 ?_; intro v7 w7 hQ7 hg7 hat7)
                have hne7 : ∀ q, (Value.slice a6 n6 c6).ownBlock = some q → wd.heap.size ≤ q ∧ q ≠ wm := fun q hq => by
                  obtain ⟨h1, _, cur, h9⟩ := HQ6.out.at hq
                  exact ⟨h1, fun e => HM6.out.ne h9 e.symm⟩
                have HM7 := Lib.hid (HM6.out.kept hg7 fun e => (hne7 wm e.symm).2 rfl)
                have HK7 := Lib.hid (grown_row HK6.out hg7 fun q hq => (hne7 q hq).1)
                have HQ7 := Lib.hid hQ7
                clear hQ7 hg7 hat7 hne7 HQ6 HM6 HK6 hlw cc cg
                go_wp2_with fail
                go_roundg k
                case measure => omega
                case rel => exact ⟨i + 1, m2, F2, _, _, by omega, by go_num, HP', HQ7, HM7, HW, by omega, HK7⟩
              · have HP' : Hid (Rf.GPre (cds l) (i + 1) (Rf.upd W x.uid c2) Q) := Lib.hid (by
                  rw [if_neg (fun h => hz h.2)] at hP'
                  exact hP')
                have tz : ¬ ((c2 : Int) = 0) := by omega
                have tz2 : ((c2 : Int) == 0) = false := by simpa using hz
                clear hP' hne HP HQ5
                go_wp2_with fail
                clear hlw cc cg
                go_roundg k
                case measure => omega
                case rel => exact ⟨i + 1, m2, F2, _, Q, by omega, by go_num, HP', HQr, HM, HW, by omega, HKw⟩
          | succ k2 =>
            have hjl : j < cn := by omega
            obtain ⟨y, hy⟩ : ∃ y, (csOf x.owners)[j]? = some y := ⟨(csOf x.owners)[j]'(by rw [Hcn.out]; exact hjl), List.getElem?_eq_getElem _⟩
            obtain ⟨b9, o9, c9, hv9, _, _, _, hcy⟩ := (strAt_but HCs.out HKr.out HM5m.out).form (by rw [Hcn.out]; omega)
            injection hv9 with u1 u2 u3
            subst u1
            clear u2 u3
            have e0 := hcy j y hy
            have q3 : (0 : Int) ≤ (j : Int) := by omega
            have q4 : (j : Int) < (cn : Int) := by omega
            have hys : y.size ≤ maxLen := by have := Hms.out y ((csOf_mem _ _).1 (List.mem_of_getElem? hy)); unfold maxLen; omega
            have hGr := (HG.out.but HKw.out Hmm.out Hle.out.2.2.2.1 Hle.out.2.2.2.2.1)
            obtain ⟨bin, Hbin⟩ : ∃ b, Hid (decide (y ∈ l.map (·.uid)) = b) := ⟨_, Lib.hid rfl⟩
            have hlk := (MapS.look hGr.there Try.underlying9 Try.underlying37 (Try.zeroIntR wr) y hys).1
            obtain ⟨va2, hva2⟩ : ∃ z, (T y.data.toList).getD (.int .i64 0) = z := ⟨_, rfl⟩
            rw [hGr.seen y, Hbin.out, hva2] at hlk
            have Hy := Lib.hid hy
            clear hva2 hcy hy hGr
            cases bin with
            | true =>
              have hin : Hid (y ∈ Rf.uids (cds l)) := Lib.hid (by rw [cds_uids]; exact of_decide_eq_true Hbin.out)
              have HO' := Lib.hid (HO.out.yes (csOf_nodup _) Hy.out hin.out)
              have hlw := (MapS.look HM.out Try.underlying9 Try.underlying37 (Try.zeroIntR wr) x.uid Hu9.out).2
              rw [HW.out x.uid, Rf.upd_same] at hlw
              have hms9 : m2 < maxLen := by unfold maxLen; omega
              go_upto_region 16 with (at_mapUpdate; refine wpList_store_mapS _ (by rfl) _ _ _ 37 (by rfl) 9 3 Try.underlying9 Try.underlying37 wm m2 F2 (by rfl) HM.out hms9 x.uid Hu9.out (by rfl) (.int .i64 ((c2 : Int) + 1)) (by rfl) ?_; intro w6 hm6 ht6)
              have HM6 := Lib.hid hm6
              have HW6 : Hid (WaitF (updF F2 x.uid.data.toList (.int .i64 ((c2 : Int) + 1))) (Rf.upd W x.uid (c2 + 1))) := Lib.hid (by
                have h9 := HW.out.put x.uid (c2 + 1)
                rw [upd_upd] at h9
                exact h9)
              have HK6 := Lib.hid (grown_trans HKr.out ht6.grown)
              clear hm6 ht6 hlw hlk e0 cc cg HO HM HW
              go_wp2_with fail
              go_roundg k2
              case measure => omega
              case rel => exact ⟨j + 1, c2 + 1, m2 + 1, _, by omega, by go_num, HO', HM6, HW6, by omega, HK6⟩
            | false =>
              have HO' := Lib.hid (HO.out.no Hy.out (by rw [cds_uids]; exact of_decide_eq_false Hbin.out))
              clear HO
              go_wp2_with fail
              clear cc cg hlk e0
              go_roundg k2
              case measure => omega
              case rel => exact ⟨j + 1, c2, m2, F2, by omega, by go_num, HO', HM, HW, by omega, HKr⟩
  · have qc : (c != 0) = true := by simp [hc0]
    have Hc0 := Lib.hid hc0
    clear hc0
    go_wp2_with fail
    go_ret2
    exact ⟨_, [], rfl, OwnAt.nil _, fun _ => rfl, fun e => (Hc0.out e).elim, HBa.out⟩
end Go.Proofs.Ytgoapmjcfdbjpaa
namespace Go.Proofs.Ytgoapmjcfdbjpaa
open Go.RowKit
def restOf (a b : Int) : Int := if a.tmod b < 0 then a.tmod b + b else a.tmod b
theorem restOf_in {a b : Int} (hb : 0 < b) : 0 ≤ restOf a b ∧ restOf a b < b := by
  have h1 := Int.tmod_lt_of_pos a hb
  have h2 : -b < a.tmod b := by
    have := Int.lt_tmod_of_pos a hb
    omega
  unfold restOf
  split <;> omega
theorem rest_any (a b : Int) (w : World) (hb : 0 < b) (hb2 : b ≤ 1073741824) : Calls Try.prog 13 #[.int .i64 a, .int .i64 b] w fun e w' => e = .returned (.int .i64 (restOf a b)) ∧ w = w' := by
  have h1 := Int.tmod_lt_of_pos a hb
  have h2 : -b < a.tmod b := by
    have := Int.lt_tmod_of_pos a hb
    omega
  have hb0 : (b == 0) = false := by rw [beq_eq_false_iff_ne]; omega
  by_cases h : a.tmod b < 0
  · have hr : restOf a b = a.tmod b + b := by unfold restOf; rw [if_pos h]
    have Hr := Lib.hid hr
    have q1 : IntKind.i64.wrap (a.tmod b) = a.tmod b := IntWalk.i64_in _ (by omega)
    have q2 : IntKind.i64.wrap (a.tmod b + b) = a.tmod b + b := IntWalk.i64_in _ (by omega)
    clear hr
    go_enter Try.func13, Try.ntmps13
    go_wp2_with fail
    go_ret
    exact ⟨congrArg (fun x => Ending.returned (Value.int .i64 x)) Hr.out.symm, rfl⟩
  · have hr : restOf a b = a.tmod b := by unfold restOf; rw [if_neg h]
    have Hr := Lib.hid hr
    have q1 : IntKind.i64.wrap (a.tmod b) = a.tmod b := IntWalk.i64_in _ (by omega)
    clear hr
    go_enter Try.func13, Try.ntmps13
    go_wp2_with fail
    go_ret
    exact ⟨congrArg (fun x => Ending.returned (Value.int .i64 x)) Hr.out.symm, rfl⟩
end Go.Proofs.Ytgoapmjcfdbjpaa
namespace Go.Proofs.Ytgoapmjcfdbjpaa
open Go.RowKit Go.MapKept Go.ChangeMaps
set_option maxRecDepth 100000 in
set_option maxHeartbeats 3200000 in
theorem refsUnder_any (v : Value) (l : List GCard) (uid : ByteArray) (w : World) (h : RowAt CardR 2 w v l) (hok : OkCards l) (hgd : GoodL l) (hin : uid ∈ l.map (·.uid)) :
    Calls Try.prog 14 #[v, .string uid] w fun e w' => ∃ (v' : Value) (ss : List ByteArray), e = .returned (.tuple #[v', .int .i64 0]) ∧ OwnAt RString 1 w' w.heap.size 9 v' ss ∧ ss.Nodup ∧ (∀ s, s ∈ ss ↔ Rf.Comes (cds l) uid s) ∧ Below w.heap.size w w' := by
  obtain ⟨a1, c1, rfl, -, -⟩ := h.len
  have HRow := Lib.hid h
  have Hok := Lib.hid hok
  have Hgd := Lib.hid hgd
  have Hin := Lib.hid hin
  have HCk := Lib.hid (refsCheck_any _ l w h hok)
  rw [refsE_zero.2 hgd] at HCk
  obtain ⟨nl, hnl⟩ : ∃ n, l.length = n := ⟨_, rfl⟩
  rw [hnl] at HCk HRow ⊢
  have hus : uid.size ≤ 1048576 := by
    obtain ⟨x, hx, rfl⟩ := List.mem_map.1 hin
    exact (hok.2 x hx).1
  have hus9 : uid.size ≤ maxLen := by unfold maxLen; omega
  clear h hok hnl hgd hin
  go_enter Try.func14, Try.ntmps14
  go_wp2_with fail
  refine HCk.out.mono ?_
  rintro e wa ⟨rfl, hba⟩
  have HOf := Lib.hid (refsOf_any (.slice a1 nl c1) l wa (HRow.out.below stays_card hba) Hok.out Hgd.out)
  have HBa := Lib.hid hba
  clear HCk hba
  go_wp2_with fail
  refine HOf.out.mono ?_
  rintro e wb ⟨tb, ob, n, T, f, rfl, hG, hn3, hbb⟩
  obtain ⟨wc, hwc⟩ : ∃ x, x = wb.alloc (.cells #[.map (some tb), .map (some ob)] 56) := ⟨_, rfl⟩
  obtain ⟨gg, hgg⟩ : ∃ b, b = wb.heap.size := ⟨_, rfl⟩
  have bc : Below wb.heap.size wb wc := by rw [hwc]; exact (Below.refl _ wb).alloc (Nat.le_refl _) _
  have hGc : wc.heap[gg]? = some (.cells #[.map (some tb), .map (some ob)] 56 (0, 0)) := by rw [hwc, hgg]; exact heap_alloc_new wb _
  have HBc := Lib.hid (HBa.out.trans ((hbb.mono HBa.out.size).trans (bc.mono (Nat.le_trans HBa.out.size hbb.size))))
  have HG := Lib.hid (hG.below bc)
  have HUn := Lib.hid (graphUnder_any uid wc (hG.below bc) Hgd.out Hok.out hus)
  have hlk := (MapS.look HG.out.there Try.underlying9 Try.underlying37 (Try.zeroIntR wc) uid hus9).1
  rw [HG.out.seen uid, decide_eq_true Hin.out] at hlk
  obtain ⟨va2, hva2⟩ : ∃ z, (T uid.data.toList).getD (.int .i64 0) = z := ⟨_, rfl⟩
  rw [hva2] at hlk
  have hwl := HBc.out.size
  have cg := fun z => cell_block hGc z
  have BG := Lib.hid hGc
  clear HOf hG hbb bc hva2 hGc HBa
  go_upto_region 5 with fail
  rw [← hwc]
  try rw [← hgg]
  clear hwc hgg
  go_upto_region 8 with fail
  clear cg hlk
  go_wp2_with (first | (refine wpList_load_row (by rfl) _ _ (by rfl) gg (by rfl) _ _ _ _ (by exact BG.out) Try.underlying56 rfl (by exact Try.sizeGraph) ?_) | fail)
  refine HUn.out.mono ?_
  rintro e w9 ⟨v9, ss, rfl, h1, h2, h3, h4⟩
  have Hfin : Hid (OwnAt RString 1 w9 w.heap.size 9 v9 ss ∧ ss.Nodup ∧ (∀ s, s ∈ ss ↔ Rf.Comes (cds l) uid s) ∧ Below w.heap.size w w9) := Lib.hid ⟨h1.mono hwl, h2, h3, HBc.out.trans (h4.mono hwl)⟩
  clear HUn h1 h2 h3 h4
  go_wp2_with fail
  go_ret2
  exact ⟨v9, ss, rfl, Hfin.out⟩
theorem one_card : OneR CardR := fun _ _ _ ⟨_, hcs, s0⟩ u hu => by
  subst hcs
  rcases List.mem_cons.1 hu with rfl | hu
  · rfl
  · simp at hu
    subst hu
    obtain ⟨a, c, h, _⟩ := s0.len
    rw [h]; rfl
theorem Try.infoCard : (Try.prog.info? 31).map (fun i => (i.zero, i.size, i.bytes)) = some (some (.agg #[.string ByteArray.empty, .slice none 0 0]), 2, 40) := by kernel_rfl
theorem Try.sizeCard : (Try.prog.info? 31).map (·.size) = some 2 := by kernel_rfl
def noCard : GCard := ⟨⟨#[]⟩, []⟩
theorem odd_any (w : World) : Calls Try.prog 9 #[] w fun e w' => e = .returned (.bool true) ∧ Below w.heap.size w w' := by
  obtain ⟨w1, hw1⟩ : ∃ z, z = w.alloc (.cells #[.string ⟨#[]⟩, .slice none 0 0] 31) := ⟨_, rfl⟩
  obtain ⟨g, hg⟩ : ∃ z, z = w.heap.size := ⟨_, rfl⟩
  have h1 : w1.heap[g]? = some (.cells #[.string ⟨#[]⟩, .slice none 0 0] 31 (0, 0)) := by rw [hw1, hg]; exact heap_alloc_new w _
  have hb : Below w.heap.size w w1 := by rw [hw1]; exact (Below.refl _ w).alloc (Nat.le_refl _) _
  have HB := Lib.hid hb
  have hrow : RowAt CardR 2 w1 (.slice (some ⟨g, 0, none⟩) 1 1) [noCard] := RowAt.one h1 rfl ⟨_, rfl, StrAt.nil _⟩
  have hok : OkCards [noCard] := ⟨by simp, fun x hx => by
    simp only [List.mem_singleton] at hx
    subst hx
    exact ⟨by decide, by simp [noCard], fun o ho => by simp [noCard] at ho⟩⟩
  have HC := Lib.hid (refsCheck_any _ _ w1 hrow hok)
  have he : refsE [noCard] = 6 := by decide +kernel
  rw [he] at HC
  have hwl := hb.size
  clear hb hrow hok he h1
  go_enter Try.func9, Try.ntmps9
  go_wp2_with fail
  rw [← hw1]
  try rw [← hg]
  refine HC.out.mono ?_
  rintro e w9 ⟨rfl, hb9⟩
  have HF := Lib.hid (HB.out.trans (hb9.mono hwl))
  clear HC hb9
  go_wp2_with fail
  go_ret
  exact ⟨rfl, HF.out⟩
def withoutL (l : List GCard) (out : List ByteArray) : List GCard := l.filter fun x => !Lib.containsS out x.uid
theorem withoutL_more {l : List GCard} {out : List ByteArray} {i : Nat} {x : GCard} (hx : l[i]? = some x) : withoutL (l.take (i + 1)) out = withoutL (l.take i) out ++ if Lib.containsS out x.uid = true then [] else [x] := by
  unfold withoutL
  rw [Rf.take_succ hx, List.filter_append]
  congr 1
  cases h : Lib.containsS out x.uid <;> simp [h]
set_option maxRecDepth 100000 in
set_option maxHeartbeats 6400000 in
theorem without_any (v v2 : Value) (l : List GCard) (out : List ByteArray) (w : World) (h : RowAt CardR 2 w v l) (h2 : StrAt w v2 out) (hok : OkCards l) (ho : out.length ≤ 1048576) :
    Calls Try.prog 11 #[v, v2] w fun e w' => ∃ v', e = .returned v' ∧ RowAt CardR 2 w' v' (withoutL l out) ∧ Below w.heap.size w w' := by
  obtain ⟨a1, c1, rfl, -, -⟩ := h.len
  obtain ⟨a2, c2, rfl, -, -⟩ := h2.row.len
  obtain ⟨nl, hnl⟩ : ∃ n, l.length = n := ⟨_, rfl⟩
  have hl := hok.1
  rw [hnl] at h hl ⊢
  have HRow := Lib.hid h
  have HOut := Lib.hid h2
  have Hnl := Lib.hid hnl
  have Hs := Lib.hid hok.2
  have HO0 : Hid (OwnAt (AtW w CardR) 2 w w.heap.size 31 (.slice none 0 0) (withoutL (l.take 0) out)) := Lib.hid (by
    have : withoutL (l.take 0) out = [] := by simp [withoutL]
    rw [this]; exact OwnAt.nil _)
  have HB0 : Hid (Below w.heap.size w w) := Lib.hid (Below.refl _ _)
  obtain ⟨i0, hi0, hz0, hz1, hz2⟩ := info_parts Try.infoCard
  clear h h2 hok hnl
  go_enter Try.func11, Try.ntmps11
  go_wp2_with fail
  go_loopg [5, 10] nl (fun k u5 u10 wr => ∃ i : Nat, i + k = nl ∧ u10 = .int .i64 (i : Int) ∧ Hid (OwnAt (AtW w CardR) 2 wr w.heap.size 31 u5 (withoutL (l.take i) out)) ∧ Hid (Below w.heap.size w wr))
  case atStart => exact ⟨0, by omega, rfl, HO0, HB0⟩
  case round =>
    clear HO0 HB0
    obtain ⟨i, hik, rfl, HO, HB⟩ := hrel
    cases gk with
    | zero =>
      obtain rfl : nl = i := by omega
      have ht : l.take nl = l := List.take_of_length_le (by rw [Hnl.out]; exact Nat.le_refl _)
      rw [ht] at HO
      go_wp2_with fail
      go_ret
      exact ⟨_, rfl, RowAt.ofW stays_card HO.out.row HB.out, HB.out⟩
    | succ k =>
      have hil : i < nl := by omega
      obtain ⟨x, hxi⟩ : ∃ x, l[i]? = some x := ⟨l[i]'(by rw [Hnl.out]; exact hil), List.getElem?_eq_getElem _⟩
      obtain ⟨bb, o, c', hv, _, _, hbs, hcell⟩ := HRow.out.form (by rw [Hnl.out]; omega) (by omega)
      injection hv with u1 u2 u3
      subst u1
      clear u2 u3
      obtain ⟨ds, _, hcc, v1, rfl, hst⟩ := hcell i x hxi
      obtain ⟨sa, sc, rfl, -, -⟩ := hst.row.len
      obtain ⟨sn, hsn⟩ : ∃ sn, x.owners.length = sn := ⟨_, rfl⟩
      rw [hsn] at hcc hst
      obtain ⟨hmu, hmo, hms⟩ := Hs.out x (List.mem_of_getElem? hxi)
      have e0 : wr.cell? ⟨bb, o + i * 2, none⟩ = some (.string x.uid) := (HB.out.cell (p := ⟨bb, _, none⟩) hbs).trans (by simpa using hcc 0 _ rfl)
      have e1 : wr.cell? ⟨bb, o + i * 2 + 1, none⟩ = some (.slice sa sn sc) := (HB.out.cell (p := ⟨bb, _, none⟩) hbs).trans (hcc 1 _ rfl)
      have q1 : (0 : Int) ≤ (i : Int) := by omega
      have q2 : (i : Int) < (nl : Int) := by omega
      obtain ⟨w2, hw2⟩ : ∃ w2, w2 = wr.alloc (.cells #[.string x.uid, .slice sa sn sc] 31) := ⟨_, rfl⟩
      obtain ⟨gx, hgx⟩ : ∃ gx, gx = wr.heap.size := ⟨_, rfl⟩
      have b2 : w2.heap[gx]? = some (.cells #[.string x.uid, .slice sa sn sc] 31 (0, 0)) := by rw [hw2, hgx]; exact heap_alloc_new wr _
      have hb2 : Below wr.heap.size wr w2 := by rw [hw2]; exact (Below.refl _ wr).alloc (Nat.le_refl _) _
      have HB2 := Lib.hid (HB.out.trans (hb2.mono HB.out.size))
      have Hxi := Lib.hid hxi
      have BX := Lib.hid b2
      have hsm : sn ≤ 1048576 := by rw [← hsn]; exact hmo
      have Hsn := Lib.hid hsn
      have Hms := Lib.hid hms
      have Hu9 : Hid (x.uid.size ≤ maxLen) := Lib.hid (by unfold maxLen; omega)
      have HSt := Lib.hid hst
      have HO2 := Lib.hid (HO.out.below (flat_atW w CardR).stays hb2)
      have HC := Lib.hid (hasStr_any (.slice a2 out.length c2) out x.uid w2 (HOut.out.below HB2.out) (by omega))
      obtain ⟨cb, Hcb⟩ : ∃ cb, Hid (Lib.containsS out x.uid = cb) := ⟨_, Lib.hid rfl⟩
      rw [Hcb.out] at HC
      have Hml : Hid ((withoutL (l.take i) out).length ≤ 1048576) := Lib.hid (by
        unfold withoutL
        have := List.length_filter_le (fun x : GCard => !Lib.containsS out x.uid) (l.take i)
        rw [List.length_take] at this
        omega)
      have cc := fun z => cell_block b2 z
      clear hcc hcell hxi hst hb2 b2 hsn hbs hmo hms hmu HB HO
      go_upto_region 5 with fail
      rw [← hw2]
      try rw [← hgx]
      clear hw2 hgx e0 e1
      go_wp2_with fail
      refine HC.out.mono ?_
      rintro e w9 ⟨rfl, hw9⟩
      subst hw9
      clear HC
      cases cb with
      | true =>
        have HO' : Hid (OwnAt (AtW w CardR) 2 w2 w.heap.size 31 u5 (withoutL (l.take (i + 1)) out)) := Lib.hid (by rw [withoutL_more Hxi.out, Hcb.out, if_pos rfl, List.append_nil]; exact HO2.out)
        clear HO2
        go_wp2_with fail
        clear cc
        go_roundg k
        case measure => omega
        case rel => exact ⟨i + 1, by omega, by go_num, HO', HB2⟩
      | false =>
        have Hmore : Hid (withoutL (l.take (i + 1)) out = withoutL (l.take i) out ++ [x]) := Lib.hid (by rw [withoutL_more Hxi.out, Hcb.out, if_neg (by simp)])
        obtain ⟨a6, c6, hu6, -, -⟩ := HO2.out.row.len
        obtain ⟨n6, hn6⟩ : ∃ z, (withoutL (l.take i) out).length = z := ⟨_, rfl⟩
        rw [hn6] at hu6
        subst hu6
        have Hn6 := Lib.hid hn6
        clear hn6
        obtain ⟨w6, hw6⟩ : ∃ z, z = w2.alloc (.cells #[.string x.uid, .slice sa sn sc] 31) := ⟨_, rfl⟩
        have hb6 : Below w2.heap.size w2 w6 := by rw [hw6]; exact (Below.refl _ w2).alloc (Nat.le_refl _) _
        obtain ⟨q9, hq9⟩ : ∃ q, q = w2.heap.size := ⟨_, rfl⟩
        have hq6 : w6.heap[q9]? = some (.cells #[.string x.uid, .slice sa sn sc] 31 (0, 0)) := by rw [hw6, hq9]; exact heap_alloc_new w2 _
        have HO6 := Lib.hid (HO2.out.below (flat_atW w CardR).stays hb6)
        have HB6 := Lib.hid (HB2.out.trans (hb6.mono HB2.out.size))
        have hwl6 := HB6.out.size
        clear hb6 HO2
        go_upto_region 7 with (first | (refine wpList_load_row (by rfl) _ _ (by rfl) gx (by rfl) _ _ _ _ (by exact BX.out) Try.underlying31 rfl (by exact Try.sizeCard) ?_) | (at_builtin; rw [← hw6]; try rw [← hq9]; clear hw6 hq9; refine wpList_append_ownAt (R := AtW w CardR) (k := 2) (e := 31) (B := w.heap.size) (l := withoutL (l.take i) out) (m := [x]) _ (by rfl) _ _ _ (by rfl) i0 _ 40 Try.underlying22 hi0 hz0 hz1 hz2 rfl (by omega) (flat_atW w CardR) (one_atW w one_card) _ (by rfl) HO6.out _ (by rfl) (RowAt.one hq6 rfl ⟨_, rfl, HSt.out⟩) (by have := Hml.out; unfold maxLen; simp; omega) (by have := Hml.out; simp; omega) hwl6 ?_; intro v7 w7 hO7 hg7 hlo7 hat7))
        have HB7 : Hid (Below w.heap.size w w7) := Lib.hid (HB6.out.grown hg7 hwl6 hlo7)
        rw [← Hmore.out] at hO7
        have HO7 := Lib.hid hO7
        clear hO7 hg7 hlo7 hat7 HO6 HB6 cc
        go_wp2_with fail
        go_roundg k
        case measure => omega
        case rel => exact ⟨i + 1, by omega, by go_num, HO7, HB7⟩
end Go.Proofs.Ytgoapmjcfdbjpaa
namespace Go.Proofs.Ytgoapmjcfdbjpaa
open Go.RowKit Go.MapKept Go.ChangeMaps
theorem sum_memC {α : Type} {f : α → Nat} : ∀ {l : List α} {x : α}, x ∈ l → f x ≤ (l.map f).sum
  | y :: r, x, h => by
    rw [List.map_cons, List.sum_cons]
    rcases List.mem_cons.1 h with rfl | h
    · omega
    · have := sum_memC (f := f) h; omega
theorem okCards_bulk {l : List GCard} (h : (l.map cardB).sum ≤ 1048576) : OkCards l := by
  refine ⟨Nat.le_trans (sum_ge_length cardB (fun x => by unfold cardB; omega) l) h, fun x hx => ?_⟩
  have h1 := sum_memC (f := cardB) hx
  have h2 := total_length x.owners
  unfold cardB at h1 h
  refine ⟨by omega, by omega, fun o ho => ?_⟩
  have := total_mem ho
  omega
theorem OkCards.filter {l : List GCard} (h : OkCards l) (p : GCard → Bool) : OkCards (l.filter p) := ⟨Nat.le_trans (List.length_filter_le ..) h.1, fun x hx => h.2 x (List.mem_filter.1 hx).1⟩
theorem cds_without (l : List GCard) (out : List ByteArray) : cds (withoutL l out) = (cds l).filter fun c => decide (c.uid ∉ out) := by
  rw [cds_filter]
  unfold withoutL
  congr 1
  refine List.filter_congr fun x _ => ?_
  show (!Lib.containsS out x.uid) = decide (x.uid ∉ out)
  by_cases h : x.uid ∈ out
  · rw [(Lib.containsS_iff _ _).2 h, decide_eq_false (fun h' => h' h)]; rfl
  · rw [decide_eq_true h, Bool.not_eq_true']
    cases hc : Lib.containsS out x.uid with
    | false => rfl
    | true => exact absurd ((Lib.containsS_iff _ _).1 hc) h
theorem isGone_len {l : List GCard} {g : List ByteArray} (h : Rf.IsGone (cds l) g) : g.length ≤ l.length := by
  have := Rf.nodup_len h.1 (ks := Rf.uids (cds l)) fun u hu => ((h.2 u).1 hu).uid
  rwa [cds_uids, List.length_map] at this
end Go.Proofs.Ytgoapmjcfdbjpaa
namespace Go.Proofs.Ytgoapmjcfdbjpaa
open Go.RowKit Go.MapKept Go.ChangeMaps
theorem text_eqB {a b : ByteArray} (h : a = b) : (a.toList == b.toList) = true := by subst h; simp
theorem text_neB {a b : ByteArray} (h : a ≠ b) : (a.toList == b.toList) = false := by
  rw [beq_eq_false_iff_ne, ByteArray.toList_eq, ByteArray.toList_eq]
  exact fun e => h (kb_eq e)
theorem hasB_of {l : List ByteArray} {x : ByteArray} (h : x ∈ l) : Lib.containsS l x = true := (Lib.containsS_iff _ _).2 h
theorem str_cellR {w w' : World} {a : Option Addr} {n c : Nat} {l : List ByteArray} (h : StrAt w (.slice a n c) l) (hn : l.length = n) (hb : Below w.heap.size w w') {j : Nat} {y : ByteArray} (hy : l[j]? = some y) : ∃ b o, a = some ⟨b, o, none⟩ ∧ w'.cell? ⟨b, o + j, none⟩ = some (.string y) := by
  have hj : j < l.length := (List.getElem?_eq_some_iff.1 hy).1
  obtain ⟨b9, o9, c9, hv9, _, _, _, hcy⟩ := (h.below hb).form (by omega)
  injection hv9 with u1 u2 u3
  exact ⟨b9, o9, u1, hcy j y hy⟩
set_option maxRecDepth 100000 in
set_option maxHeartbeats 12800000 in
theorem refsMore_walk (v : Value) (l : List GCard) (a : Int) (w : World) (h : RowAt CardR 2 w v l) (_ha : (Lit.int .i64 a).wf = true) (hbulk : (l.map cardB).sum + 1 ≤ 1048576) :
    Calls Try.prog 4 #[v, .int .i64 a] w fun e w' => e = .returned (.bool true) ∧ Below w.heap.size w w' := by
  have hok := okCards_bulk (l := l) (by omega)
  obtain ⟨a1, c1, rfl, -, -⟩ := h.len
  have HGa := Lib.hid (refsGarbage_any _ l w h hok)
  have HRow := Lib.hid h
  have Hok := Lib.hid hok
  have Hs := Lib.hid hok.2
  obtain ⟨c, Hc⟩ : ∃ c, Hid (refsE l = c) := ⟨_, Lib.hid rfl⟩
  rw [Hc.out] at HGa
  obtain ⟨nl, hnl⟩ : ∃ n, l.length = n := ⟨_, rfl⟩
  have hl0 := hok.1
  rw [hnl] at HGa HRow hl0 ⊢
  have Hnl := Lib.hid hnl
  clear h hok hnl hbulk _ha
  go_enter Try.func4, Try.ntmps4
  go_wp2_with fail
  refine HGa.out.mono ?_
  rintro e wa ⟨vg, g, rfl, hgo, hge, hgg, hba⟩
  have HGo := Lib.hid hgo
  have HGe := Lib.hid hge
  have HGg := Lib.hid hgg
  have HBa := Lib.hid hba
  have HOd := Lib.hid (odd_any wa)
  obtain ⟨ag, cg, hvg, -, -⟩ := hgo.row.len
  obtain ⟨gn, hgn⟩ : ∃ n, g.length = n := ⟨_, rfl⟩
  rw [hgn] at hvg
  subst hvg
  have Hgn := Lib.hid hgn
  clear HGa hgo hge hgg hba hgn
  go_wp2_with fail
  refine HOd.out.mono ?_
  rintro e wb ⟨rfl, hbb⟩
  have HBb := Lib.hid (HBa.out.trans (hbb.mono HBa.out.size))
  have HGb := Lib.hid (HGo.out.below stays_string hbb)
  clear HOd hbb HGo
  by_cases hc0 : c = 0
  · subst hc0
    have hgd : GoodL l := refsE_zero.1 Hc.out
    have Hgd := Lib.hid hgd
    have hgone : Rf.IsGone (cds l) g := HGg.out rfl
    have hgl := isGone_len hgone
    rw [Hgn.out, Hnl.out] at hgl
    have Hgone := Lib.hid hgone
    clear hgd hgone
    by_cases hn0 : nl = 0
    · have hg0 : gn = 0 := by omega
      subst hn0
      subst hg0
      go_wp2_with fail
      go_ret
      exact ⟨by first | rfl | simp, HBb.out⟩
    · have t0 : ¬ ((nl : Int) = 0) := by omega
      have t1 : ((nl : Int) == 0) = false := by simpa using hn0
      have hr := restOf_in (a := a) (b := (nl : Int)) (by omega)
      obtain ⟨i, hi⟩ : ∃ i : Nat, restOf a (nl : Int) = (i : Int) := ⟨(restOf a (nl : Int)).toNat, by omega⟩
      have hil : i < nl := by omega
      have HRe := Lib.hid (rest_any a (nl : Int) wb (by omega) (by omega))
      rw [hi] at HRe
      clear hr hi
      obtain ⟨x, hxi⟩ : ∃ x, l[i]? = some x := ⟨l[i]'(by rw [Hnl.out]; exact hil), List.getElem?_eq_getElem _⟩
      obtain ⟨bb, o, c', hv, _, _, hbs, hcell⟩ := HRow.out.form (by rw [Hnl.out]; omega) (by omega)
      injection hv with u1 u2 u3
      subst u1
      clear u2 u3
      obtain ⟨ds, _, hcc, v1, rfl, hst⟩ := hcell i x hxi
      obtain ⟨sa, sc, rfl, -, -⟩ := hst.row.len
      obtain ⟨sn, hsn⟩ : ∃ sn, x.owners.length = sn := ⟨_, rfl⟩
      rw [hsn] at hcc hst
      obtain ⟨hmu, hmo, hms⟩ := Hs.out x (List.mem_of_getElem? hxi)
      have e0 : wb.cell? ⟨bb, o + i * 2, none⟩ = some (.string x.uid) := (HBb.out.cell (p := ⟨bb, _, none⟩) hbs).trans (by simpa using hcc 0 _ rfl)
      have e1 : wb.cell? ⟨bb, o + i * 2 + 1, none⟩ = some (.slice sa sn sc) := (HBb.out.cell (p := ⟨bb, _, none⟩) hbs).trans (hcc 1 _ rfl)
      have q1 : (0 : Int) ≤ (i : Int) := by omega
      have q2 : (i : Int) < (nl : Int) := by omega
      obtain ⟨w2, hw2⟩ : ∃ w2, w2 = wb.alloc (.cells #[.string x.uid, .slice sa sn sc] 31) := ⟨_, rfl⟩
      obtain ⟨gx, hgx⟩ : ∃ gx, gx = wb.heap.size := ⟨_, rfl⟩
      have b2 : w2.heap[gx]? = some (.cells #[.string x.uid, .slice sa sn sc] 31 (0, 0)) := by rw [hw2, hgx]; exact heap_alloc_new wb _
      have hb2 : Below wb.heap.size wb w2 := by rw [hw2]; exact (Below.refl _ wb).alloc (Nat.le_refl _) _
      have HB2 := Lib.hid (HBb.out.trans (hb2.mono HBb.out.size))
      have Hxi := Lib.hid hxi
      have BX := Lib.hid b2
      have hsm : sn ≤ 4 := by rw [← hsn]; exact (Hgd.out.good x (List.mem_of_getElem? hxi)).2.1
      have Hsn := Lib.hid hsn
      have Hms := Lib.hid hms
      have Hu9 : Hid (x.uid.size ≤ maxLen) := Lib.hid (by unfold maxLen; omega)
      have HSt := Lib.hid (hst.below HB2.out)
      have hpos : 0 < nl := by omega
      have HG2 := Lib.hid (HGb.out.below stays_string hb2)
      clear hcc hcell hst hb2 hsn hbs hmo hms hn0 HGb
      go_wp2_with fail
      refine HRe.out.mono ?_
      rintro e w9 ⟨rfl, hw9⟩
      subst hw9
      clear HRe
      go_upto_region 7 with fail
      rw [← hw2]
      try rw [← hgx]
      clear hw2 hgx e0 e1 t0 t1
      obtain ⟨w3, hw3⟩ : ∃ z, z = w2.alloc (.cells #[.string x.uid] 9) := ⟨_, rfl⟩
      obtain ⟨q9, hq9⟩ : ∃ q, q = w2.heap.size := ⟨_, rfl⟩
      have hb3 : Below w2.heap.size w2 w3 := by rw [hw3]; exact (Below.refl _ w2).alloc (Nat.le_refl _) _
      have hq3 : w3.heap[q9]? = some (.cells #[.string x.uid] 9 (0, 0)) := by rw [hw3, hq9]; exact heap_alloc_new w2 _
      have HB3 := Lib.hid (HB2.out.trans (hb3.mono HB2.out.size))
      have HW := Lib.hid (without_any (.slice (some ⟨bb, o, none⟩) nl c1) (.slice (some ⟨q9, 0, none⟩) 1 1) l [x.uid] w3 (HRow.out.below stays_card HB3.out) (RowAt.one hq3 rfl rfl : RowAt RString 1 w3 _ [x.uid]).strs Hok.out (by simp))
      have BX3 := Lib.hid (below_block hb3 BX.out)
      have HG3 := Lib.hid (HG2.out.below stays_string hb3)
      have cc := fun z => cell_block b2 z
      clear hb3 hq3 HG2
      go_wp2_with fail
      rw [← hw3]
      try rw [← hq9]
      clear cc hw3 hq9
      refine HW.out.mono ?_
      rintro e w4 ⟨v4, rfl, hR4, hb4⟩
      obtain ⟨m, Hm⟩ : ∃ m, Hid (withoutL l [x.uid] = m) := ⟨_, Lib.hid rfl⟩
      rw [Hm.out] at hR4
      have hokm : OkCards m := by rw [← Hm.out]; exact Hok.out.filter _
      have hgdm : GoodL m := by rw [← Hm.out]; exact Hgd.out.filter _
      have HGm := Lib.hid (refsGarbage_any v4 m w4 hR4 hokm)
      rw [refsE_zero.2 hgdm] at HGm
      have HB4 := Lib.hid (HB3.out.trans (hb4.mono HB3.out.size))
      have BX4 := Lib.hid (below_block hb4 BX3.out)
      have HG4 := Lib.hid (HG3.out.below stays_string hb4)
      clear HW hR4 hb4 hokm hgdm BX3 HG3
      go_wp2_with fail
      refine HGm.out.mono ?_
      rintro e w5 ⟨vh, hh, rfl, hho, -, hhg, hb5⟩
      have Hmo := Lib.hid (Rf.more Hgd.out.nodup (x := cdOf x) (p := fun c => decide (c.uid ∉ [x.uid])) (fun z => by by_cases h9 : z.uid = x.uid <;> simp [h9, cdOf]) Hgone.out (h := hh) (by rw [← cds_without, Hm.out]; exact hhg (by simp)))
      have HB5 := Lib.hid (HB4.out.trans (hb5.mono HB4.out.size))
      have BX5 := Lib.hid (below_block hb5 BX4.out)
      have HG5 := Lib.hid (HG4.out.below stays_string hb5)
      have HH5 := Lib.hid hho
      have hhl : hh.length ≤ nl := by
        have h9 := isGone_len (hhg (by simp))
        have h8 : m.length ≤ l.length := by rw [← Hm.out]; exact List.length_filter_le ..
        rw [Hnl.out] at h8
        omega
      have HUn := Lib.hid (refsUnder_any (.slice (some ⟨bb, o, none⟩) nl c1) l x.uid w5 (HRow.out.below stays_card HB5.out) Hok.out Hgd.out (List.mem_map_of_mem (List.mem_of_getElem? hxi)))
      have cc := fun z => cell_block BX5.out z
      obtain ⟨ah, ch, hvh, -, -⟩ := hho.row.len
      obtain ⟨hn, hhn⟩ : ∃ n, hh.length = n := ⟨_, rfl⟩
      rw [hhn] at hvh hhl
      subst hvh
      have Hhn := Lib.hid hhn
      clear HGm hho hhg hb5 BX4 HG4 hhn hxi b2
      go_upto_region 8 with fail
      go_wp2_with fail
      refine HUn.out.mono ?_
      rintro e w6 ⟨vu, us, rfl, huo, hund, hus, hb6⟩
      have HB6 := Lib.hid (HB5.out.trans (hb6.mono HB5.out.size))
      have BX6 := Lib.hid (below_block hb6 BX5.out)
      have HG6 := Lib.hid (HG5.out.below stays_string hb6).row.strs
      have HH6 := Lib.hid (HH5.out.below stays_string hb6).row.strs
      have HU6 := Lib.hid huo.row.strs
      obtain ⟨au, cu, hvu, -, -⟩ := huo.row.len
      obtain ⟨un, hun⟩ : ∃ n, us.length = n := ⟨_, rfl⟩
      rw [hun] at hvu
      subst hvu
      have Hus := Lib.hid hus
      have hunl : un ≤ 1048576 := by
        have h9 := Rf.nodup_len hund (ks := Rf.uids (cds l)) fun s hs => ((hus s).1 hs).uid
        rw [cds_uids, List.length_map, Hnl.out, hun] at h9
        omega
      have Hun := Lib.hid hun
      clear HUn huo hund hus hb6 HG5 HH5 BX5 cc hun
      have cc := fun z => cell_block BX6.out z
      go_wp2_with fail
      go_loopg [63] gn (fun k u63 wr => ∃ j : Nat, j + k = gn ∧ u63 = .int .i64 (j : Int) ∧ wr = w6)
      case atStart => exact ⟨0, by omega, rfl, rfl⟩
      case round =>
        obtain ⟨j, hjk, rfl, rfl⟩ := hrel
        cases gk with
        | zero =>
          obtain rfl : gn = j := by omega
          go_wp2_with fail
          clear cc
          go_loopg [80] hn (fun k u80 wr2 => ∃ j : Nat, j + k = hn ∧ u80 = .int .i64 (j : Int) ∧ wr2 = wr)
          case atStart => exact ⟨0, by omega, rfl, rfl⟩
          case round =>
            obtain ⟨j, hjk, rfl, rfl⟩ := hrel
            cases gk with
            | zero =>
              obtain rfl : hn = j := by omega
              go_wp2_with fail
              go_ret
              exact ⟨rfl, HB6.out⟩
            | succ k2 =>
              have hjl : j < hn := by omega
              obtain ⟨y, hy⟩ : ∃ y, hh[j]? = some y := ⟨hh[j]'(by rw [Hhn.out]; exact hjl), List.getElem?_eq_getElem _⟩
              obtain ⟨b9, o9, u1, e0⟩ := str_cellR HH6.out Hhn.out (Below.refl _ wr) hy
              subst u1
              have q3 : (0 : Int) ≤ (j : Int) := by omega
              have q4 : (j : Int) < (hn : Int) := by omega
              have Hy : Hid (y ∈ g ∨ Rf.Comes (cds l) x.uid y) := Lib.hid (Hmo.out.2 y (List.mem_of_getElem? hy))
              have HC := Lib.hid (hasStr_any (.slice ag gn cg) g y wr HG6.out (by rw [Hgn.out]; omega))
              obtain ⟨cb, Hcb⟩ : ∃ cb, Hid (Lib.containsS g y = cb) := ⟨_, Lib.hid rfl⟩
              rw [Hcb.out] at HC
              clear hy
              go_wp2_with fail
              refine HC.out.mono ?_
              rintro e w9 ⟨rfl, rfl⟩
              clear HC
              cases cb with
              | true =>
                go_wp2_with fail
                clear e0
                go_roundg k2
                case measure => omega
                case rel => exact ⟨j + 1, by omega, by go_num, rfl⟩
              | false =>
                have hin : y ∈ us := (Hus.out y).2 (Hy.out.resolve_left fun h9 => by have := hasB_of h9; rw [Hcb.out] at this; cases this)
                have HC2 := Lib.hid (hasStr_any (.slice au un cu) us y wr HU6.out (by rw [Hun.out]; omega))
                rw [hasB_of hin] at HC2
                clear hin
                go_wp2_with fail
                refine HC2.out.mono ?_
                rintro e w9 ⟨rfl, rfl⟩
                clear HC2
                go_wp2_with fail
                clear e0
                go_roundg k2
                case measure => omega
                case rel => exact ⟨j + 1, by omega, by go_num, rfl⟩
        | succ k =>
          have hjl : j < gn := by omega
          obtain ⟨y, hy⟩ : ∃ y, g[j]? = some y := ⟨g[j]'(by rw [Hgn.out]; exact hjl), List.getElem?_eq_getElem _⟩
          obtain ⟨b9, o9, u1, e0⟩ := str_cellR HG6.out Hgn.out (Below.refl _ wr) hy
          subst u1
          have q3 : (0 : Int) ≤ (j : Int) := by omega
          have q4 : (j : Int) < (gn : Int) := by omega
          by_cases hyx : y = x.uid
          · have t2 := text_eqB hyx
            have t3 : (y.toList != x.uid.toList) = false := by unfold bne; rw [t2]; rfl
            clear hy
            go_wp2_with fail
            clear e0 t2 t3
            go_roundg k
            case measure => omega
            case rel => exact ⟨j + 1, by omega, by go_num, rfl⟩
          · have t2 := text_neB hyx
            have t3 : (y.toList != x.uid.toList) = true := by unfold bne; rw [t2]; rfl
            have hin : y ∈ hh := Hmo.out.1 y (List.mem_of_getElem? hy) hyx
            have HC2 := Lib.hid (hasStr_any (.slice ah hn ch) hh y wr HH6.out (by rw [Hhn.out]; omega))
            rw [hasB_of hin] at HC2
            clear hin hy hyx
            go_wp2_with fail
            refine HC2.out.mono ?_
            rintro e w9 ⟨rfl, rfl⟩
            clear HC2
            go_wp2_with fail
            clear e0 t2 t3
            go_roundg k
            case measure => omega
            case rel => exact ⟨j + 1, by omega, by go_num, rfl⟩
  · have qc : (c != 0) = true := by simp [hc0]
    have hg0 : g = [] := HGe.out hc0
    subst hg0
    have hgn0 : gn = 0 := Hgn.out.symm
    subst hgn0
    clear hc0
    go_wp2_with fail
    go_ret
    exact ⟨by first | rfl | simp, HBb.out⟩
end Go.Proofs.Ytgoapmjcfdbjpaa
