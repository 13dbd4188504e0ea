/- Texts of ours joined. -/
import Derived.Test.YtdcmnpeabjallaaGreatDoorChecked
import Derived.WalkKit
import Derived.WalkSpells
import Derived.WalkLawsBesides
import Derived.Lib.Hide
import Derived.KernelRfl
import Derived.Deep.LoopGhost
import Derived.Deep.DeepCutAuto
import Derived.IntWalk
import Derived.Lib.AppendIntMem
import Derived.Test.YtdcmnpeabjallaaGreatDoorMz8
set_option linter.unusedVariables false
set_option linter.unusedSimpArgs false
namespace Go.Proofs.YtdcmnpeabjallaaGreatDoor
open Go.RowKit Go.MapKept Go.ChangeMaps
open JP (JV Bs Lf)
theorem nodup_len {α : Type} [DecidableEq α] : ∀ {l ks : List α}, l.Nodup → (∀ x, x ∈ l → x ∈ ks) → l.length ≤ ks.length
  | [], _, _, _ => Nat.zero_le _
  | a :: r, ks, h, hs => by
    obtain ⟨h1, h2⟩ := List.nodup_cons.1 h
    have ha := hs a (List.mem_cons_self ..)
    have ih := nodup_len (ks := ks.erase a) h2 fun x hx => (List.mem_erase_of_ne (fun e => h1 (by rw [← e]; exact hx))).2 (hs x (List.mem_cons_of_mem _ hx))
    rw [List.length_erase_of_mem ha] at ih
    have := List.length_pos_of_mem ha
    rw [List.length_cons]; omega
theorem Tryz.infoOwned : (Tryz.prog.info? 30).map (fun i => (i.zero, i.size, i.bytes)) = some (some (.agg #[.string ByteArray.empty, .slice none 0 0]), 2, 40) := by kernel_rfl
structure Listed (g : BookF) (left : Bs → Bool) (l : List JP.OwnP) : Prop where
  mem : ∀ x, x ∈ l ↔ g x.1 = some x.2 ∧ left x.1 = false ∧ x.2 ≠ []
  one : (l.map (·.1)).Nodup
theorem Listed.pass {g : BookF} {left : Bs → Bool} {l : List JP.OwnP} {k : Bs} (h : Listed g left l) (hk : g k = some []) : Listed g (fun z => left z && !decide (z = k)) l := by
  refine ⟨fun x => (h.mem x).trans ⟨fun ⟨h1, h2, h3⟩ => ⟨h1, by show (left x.1 && _) = false; rw [h2]; rfl, h3⟩, fun ⟨h1, h2, h3⟩ => ⟨h1, ?_, h3⟩⟩, h.one⟩
  have h4 : (left x.1 && !decide (x.1 = k)) = false := h2
  by_cases e : x.1 = k
  · rw [e, hk] at h1; exact absurd (Option.some.inj h1).symm h3
  · rw [decide_eq_false e] at h4; simpa using h4
theorem Listed.more {g : BookF} {left : Bs → Bool} {l : List JP.OwnP} {k : Bs} {ps : List Bs} (h : Listed g left l) (hk : g k = some ps) (hl : left k = true) (hn : ps ≠ []) : Listed g (fun z => left z && !decide (z = k)) (l ++ [(k, ps)]) := by
  have hno : ∀ x ∈ l, x.1 ≠ k := fun x hx e => by
    have h1 := ((h.mem x).1 hx).2.1
    rw [e, hl] at h1; cases h1
  refine ⟨fun x => ?_, ?_⟩
  · rw [List.mem_append, List.mem_singleton]
    constructor
    · rintro (hx | rfl)
      · obtain ⟨h1, h2, h3⟩ := (h.mem x).1 hx
        exact ⟨h1, by show (left x.1 && _) = false; rw [h2]; rfl, h3⟩
      · exact ⟨hk, by show (left k && !decide (k = k)) = false; rw [decide_eq_true rfl]; simp, hn⟩
    · rintro ⟨h1, h2, h3⟩
      have h4 : (left x.1 && !decide (x.1 = k)) = false := h2
      by_cases e : x.1 = k
      · right
        rw [e, hk] at h1
        exact Prod.ext e (Option.some.inj h1).symm
      · left
        rw [decide_eq_false e] at h4
        exact (h.mem x).2 ⟨h1, by simpa using h4, h3⟩
  · rw [List.map_append, List.nodup_append]
    refine ⟨h.one, List.nodup_cons.2 ⟨fun h => (by cases h), List.nodup_nil⟩, fun a ha b hb => ?_⟩
    obtain ⟨x, hx, rfl⟩ := List.mem_map.1 ha
    obtain rfl := List.mem_singleton.1 hb
    exact hno x hx
theorem Listed.start {g : BookF} {left : Bs → Bool} (h : ∀ k, left k = (g k).isSome) : Listed g left [] := by
  refine ⟨fun x => ⟨fun h => (by cases h), fun ⟨h1, h2, _⟩ => ?_⟩, List.nodup_nil⟩
  rw [h, h1] at h2; cases h2
theorem ownedX_stays (lo : Nat) (w0 : World) : Stays (OwnedX lo w0) := fun _ _ _ _ _ h => h
set_option maxRecDepth 100000 in
set_option maxHeartbeats 6400000 in
theorem list_any (w : World) (lo b n : Nat) (g : BookF) (hb : BookAt w lo b n g) (hg : ∀ k l, g k = some l → l.length ≤ 1048576) (hn : n ≤ 1048576) :
    Calls Tryz.prog 38 #[.map (some b)] w fun e w' => ∃ v L, e = .returned v ∧ Listed g (fun _ => false) L ∧ RiseO L ∧ OwnAt (OwnedX lo w) 2 w' w.heap.size 30 v L ∧ Below w.heap.size w w' := by
  obtain ⟨i0, hi0, hz0, hz1, hz2⟩ := info_parts Tryz.infoOwned
  obtain ⟨F, hm, h2, h3, h4, h5⟩ := hb
  have HM := Lib.hid hm
  have H2 := Lib.hid h2
  have H3 := Lib.hid h3
  have Hg := Lib.hid hg
  have Hkeys : Hid (∃ ks : List KB, (∀ k, k ∈ ks ↔ (F k).isSome = true) ∧ ks.length ≤ n) := Lib.hid (let ⟨ks, _, k2, k3, _⟩ := hm.keys Tryz.underlying9; ⟨ks, k2, k3⟩)
  have hbw := hm.lt
  clear hm h2 h3 h4 h5 hg
  go_enter Tryz.func38, Tryz.ntmps38
  go_wp2_with (at_range; refine wpList_range_mapS _ (by rfl) _ 56 (by rfl) 9 28 Tryz.underlying9 Tryz.underlying56 b n F (by rfl) HM.out ?_; intro w1 cnt hrg hgr hsz)
  try go_frame
  have hb1 : Below w.heap.size w w1 := ⟨hgr.os, hgr.tape, hgr.output, hgr.size, fun k hk => hgr.block k hk (by simp)⟩
  have HR1 := Lib.hid hrg
  have HB1 := Lib.hid hb1
  have hsr : w.heap.size < w1.heap.size := by omega
  obtain ⟨r, hr⟩ : ∃ r, w.heap.size = r := ⟨_, rfl⟩
  rw [hr] at HR1 ⊢
  have Hr := Lib.hid hr
  clear hrg hgr hsz hb1 hr
  go_loopg [3, 4, 5] cnt (fun k u3 u4 u5 wr => ∃ (left : KB → Bool) (l1 : List JP.OwnP), Hid (RangeS Tryz.prog 9 wr b r n F left k) ∧ Hid (OwnAt (OwnedX lo w) 2 wr (r + 1) 30 u3 l1) ∧ Hid (Listed g left l1) ∧ Hid (Below w.heap.size w wr))
  case atStart =>
    exact ⟨_, [], HR1, Lib.hid (OwnAt.nil _), Lib.hid (.start fun k => H2.out k), HB1⟩
  case round =>
    obtain ⟨left, l1, HR, HO, HL, Hbel⟩ := hrel
    go_wp2_with (at_next; refine wpList_next_rangeS _ (by rfl) _ (by rfl) 9 Tryz.underlying9 b r n F left gk (by rfl) HR.out ?_ ?_)
    · intro hl0
      have HLf : Hid (Listed g (fun _ => false) l1) := Lib.hid (by
        have : left = fun _ => false := funext hl0
        rw [← this]; exact HL.out)
      have hlen : l1.length ≤ n := by
        obtain ⟨ks, k1, k2⟩ := Hkeys.out
        have h1 := nodup_len HL.out.one (ks := ks) fun x hx => by
          obtain ⟨y, hy, rfl⟩ := List.mem_map.1 hx
          have h9 := ((HL.out.mem y).1 hy).1
          rw [k1, H2.out, h9]; rfl
        rw [List.length_map] at h1
        omega
      have hrw : r + 1 ≤ wr.heap.size := by have := HR.out.lt; omega
      have HS := Lib.hid (ownedSort_any u3 l1 (r + 1) lo w wr HO.out hrw (by omega))
      have hrow := HO.out.row.len
      have HBr := Hbel
      clear hl0 HL HO HR hlen
      obtain ⟨a3, c3, e3, -, -⟩ := hrow
      obtain ⟨n3, hn3⟩ : ∃ n, l1.length = n := ⟨_, rfl⟩
      rw [hn3] at e3
      subst e3
      clear hn3
      go_wp2_with fail
      refine HS.out.mono ?_
      rintro E w3 ⟨rfl, L, hp, hri, ho, hb3, -⟩
      have HLf2 : Hid (Listed g (fun _ => false) L) := Lib.hid ⟨fun x => (hp.mem_iff).trans (HLf.out.mem x), ((hp.map (·.1)).nodup_iff).2 HLf.out.one⟩
      have Hri := Lib.hid hri
      have Hho := Lib.hid (ho.mono (B' := w.heap.size) (by rw [Hr.out]; omega))
      have HB3 : Hid (Below w.heap.size w w3) := Lib.hid (HBr.out.trans (by rw [Hr.out]; exact hb3.mono (by omega)))
      clear hp hri ho hb3 HS
      go_wp2_with fail
      go_ret
      exact ⟨_, L, rfl, HLf2.out, Hri.out, Hho.out, HB3.out⟩
    · intro s v w2 cnt2 hs hlk hv hrg2 hlt hgr2 hsz2 hen
      obtain ⟨k, rfl⟩ : ∃ k, s = mkB k := ⟨s.data.toList, (mkB_of s).symm⟩
      rw [mkB_list] at hlk hv hrg2
      obtain ⟨l, hgl⟩ : ∃ l, g k = some l := by
        have h9 := H2.out k
        rw [hv] at h9
        exact Option.isSome_iff_exists.1 h9.symm
      have hown := H3.out _ _ _ hv hgl
      have hrl := HR.out.lt
      have hrw : w.heap.size ≤ r := by rw [Hr.out]; exact Nat.le_refl _
      have hbel2 : Below w.heap.size w w2 := Hbel.out.grown hgr2 Hbel.out.size (fun j hj => by cases hj; exact hrw)
      have hr2 : r + 1 ≤ w2.heap.size := by omega
      have hO2 : OwnAt (OwnedX lo w) 2 w2 (r + 1) 30 u3 l1 := HO.out.grown (ownedX_flat lo w) hgr2 (fun q hq => by
        have := (HO.out.at hq).1
        intro e; cases e; omega)
      obtain ⟨va, vc, rfl, -, -⟩ := hown.row.len
      obtain ⟨vn, hvn⟩ : ∃ vn, (l.map mkB).length = vn := ⟨_, rfl⟩
      rw [hvn] at hen hown hv ⊢
      rw [List.length_map] at hvn
      have hlen : l1.length ≤ n := by
        obtain ⟨ks, k1, k2⟩ := Hkeys.out
        have h1 := nodup_len HL.out.one (ks := ks) fun x hx => by
          obtain ⟨y, hy, rfl⟩ := List.mem_map.1 hx
          have h9 := ((HL.out.mem y).1 hy).1
          rw [k1, H2.out, h9]; rfl
        rw [List.length_map] at h1
        omega
      have hvl : vn ≤ 1048576 := by rw [← hvn]; exact Hg.out _ _ hgl
      have HR2 := Lib.hid hrg2
      have HB2 := Lib.hid hbel2
      have HO2 := Lib.hid hO2
      have Hown := Lib.hid hown
      have Hlk := Lib.hid hlk
      clear hrg2 hgr2 hsz2 hbel2 hO2 hown hv hlk HR HO Hbel hrw
      rcases Nat.eq_zero_or_pos vn with h0 | h0
      · have hl0 : l = [] := List.eq_nil_of_length_eq_zero (hvn.trans h0)
        subst hl0
        have HL2 := Lib.hid (HL.out.pass hgl)
        clear hgl HL hvn
        subst h0
        go_wp2_with fail
        go_roundg cnt2
        case measure => exact hlt
        case rel => exact ⟨_, l1, HR2, HO2, HL2, HB2⟩
      · have hne : l ≠ [] := fun e => by rw [e] at hvn; rw [← hvn] at h0; exact absurd h0 (Nat.lt_irrefl _)
        have HL2 := Lib.hid (HL.out.more hgl Hlk.out hne)
        have q1 : (0 : Int) < (vn : Int) := by omega
        have Hlen := Lib.hid hlen
        clear hgl HL hvn hne hlen
        obtain ⟨w5, hw5⟩ : ∃ w5, w5 = w2.alloc (.cells #[.string (mkB k), .slice va vn vc] 30) := ⟨_, rfl⟩
        have HO5 : Hid (OwnAt (OwnedX lo w) 2 w5 (r + 1) 30 u3 l1) := Lib.hid (by rw [hw5]; exact HO2.out.below (ownedX_stays lo w) ((Below.refl _ w2).alloc (Nat.le_refl _) _))
        have HB5 : Hid (Below w.heap.size w w5) := Lib.hid (by rw [hw5]; exact HB2.out.alloc HB2.out.size _)
        have HRg5 : Hid (RangeS Tryz.prog 9 w5 b r n F (fun z => left z && !decide (z = k)) cnt2) := Lib.hid (by rw [hw5]; exact HR2.out.belowW ((Below.refl _ w2).alloc (Nat.le_refl _) _))
        have HR5 : Hid (RowAt (OwnedX lo w) 2 w5 (.slice (some ⟨w2.heap.size, 0, none⟩) 1 1) [(k, l)]) := Lib.hid (RowAt.one (R := OwnedX lo w) (k := 2) (cs := #[.string (mkB k), .slice va vn vc]) (x := (k, l)) (by rw [hw5]; exact heap_alloc_new w2 _) rfl ⟨_, rfl, Hown.out⟩)
        have hsz5 : r + 1 ≤ w5.heap.size := by rw [hw5, World.size_alloc]; omega
        go_wp2_with (at_builtin; rw [← hw5]; refine wpList_append_ownAt (R := OwnedX lo w) (k := 2) (e := 30) (B := r + 1) (m := [(k, l)]) _ (by rfl) _ _ _ (by rfl) i0 _ 40 Tryz.underlying22 hi0 hz0 hz1 hz2 rfl (by omega) (ownedX_flat lo w) (ownedX_one lo w) _ (by rfl) HO5.out _ (by rfl) HR5.out (by unfold maxLen; have := Hlen.out; simp only [List.length_singleton]; omega) (by have := Hlen.out; simp only [List.length_singleton]; omega) hsz5 ?_)
        intro v' w6 hv' hg6 hr6 _
        rw [← hw5] at hg6
        have HB6 := Lib.hid (HB5.out.grown hg6 HB5.out.size (fun j hj => by have := hr6 j hj; have := Hr.out; omega))
        have HR6 := Lib.hid (HRg5.out.kept hg6 (fun e => by have := hr6 b e.symm; have := Hr.out; omega) (fun e => by have := hr6 r e.symm; omega))
        have HO6 := Lib.hid hv'
        clear hv' hg6 hr6 HO5 HB5 HRg5 HR5 hw5
        go_wp2_with fail
        go_roundg cnt2
        case measure => exact hlt
        case rel => exact ⟨_, _, HR6, HO6, HL2, HB6⟩
end Go.Proofs.YtdcmnpeabjallaaGreatDoor
namespace Go.Proofs.YtdcmnpeabjallaaGreatDoor
open Go.RowKit Go.ChangeShapes Go.WideShapes
structure GOwned where
  manager : ByteArray
  paths : List ByteArray
def OwnedR : Rd GOwned := fun w cs x => ∃ v1, cs = [.string x.manager, v1] ∧ StrAt w v1 x.paths
theorem stays_owned : Stays OwnedR := fun _ _ _ _ hk ⟨v1, h, g1⟩ => ⟨v1, h, g1.keep hk⟩
def ownedB (x : GOwned) : Nat := ((x.manager.size + 1) + ((total x.paths + 1) + 0)) + 1
set_option maxRecDepth 10000 in
theorem opens_owned : Opens Tryz.prog 30 OwnedR ownedB := by
  intro H enc w base spare held fuel cs x h
  obtain ⟨xs, n, _, rfl, hl, hx, hf⟩ := DataW.trod_struct Tryz.underlying30 h
  have hl2 : cs.length = 2 := hl.trans (by kernel_rfl)
  clear hl h
  match cs, hl2, xs, hx, hf with
  | [c0, c1], _, [x0, x1], _, hf =>
    obtain ⟨a0, r0, m0⟩ := (opens_string Tryz.underlying9).at (o := 0) (cs := [c0, c1]) (ds := [c0]) (x := x0) (hf 0 _ rfl) (k := 1) (by kernel_rfl) rfl
    obtain ⟨a1, r1, m1⟩ := (opens_strs Tryz.underlying28 Tryz.underlying9 (by kernel_rfl)).at (o := 1) (cs := [c0, c1]) (ds := [c1]) (x := x1) (hf 1 _ rfl) (k := 1) (by kernel_rfl) rfl
    clear hf
    obtain rfl : c0 = .string a0 := by simpa [RString] using r0
    obtain ⟨v1, r1, s1⟩ := r1
    obtain rfl : c1 = v1 := by simpa using r1
    refine ⟨⟨a0, a1⟩, ⟨c1, rfl, s1⟩, ?_⟩
    simp only [List.map_cons, List.map_nil, Rows.uptoBulk, Rows.uptoBulkAll, ownedB]
    omega
end Go.Proofs.YtdcmnpeabjallaaGreatDoor
namespace Go.Proofs.YtdcmnpeabjallaaGreatDoor
open Go.RowKit Go.MapKept Go.ChangeMaps
open JP (JV Bs Lf)
set_option maxRecDepth 100000 in
theorem cloneTexts_any (v : Value) (l : List ByteArray) (w : World) (h : StrAt w v l) (hl : l.length ≤ 1073741824) :
    Calls Tryz.prog 52 #[v] w fun e w' => ∃ v', e = .returned v' ∧ OwnAt RString 1 w' w.heap.size 9 v' l ∧ Below w.heap.size w w' := by
  obtain ⟨i0, hi0, hz0, hz1, hz2⟩ := info_parts Tryz.infoStr
  have hrow := h.row
  have hn := fun (w : World) (a : Option Addr) (n c : Nat) => Lib.run_eql_slice_nil (P := Tryz.prog) w 28 9 a n c 0 0 Tryz.underlying28
  rcases h with ⟨rfl, rfl⟩ | ⟨a, c, rfl, _, _, _⟩
  · go_enter Tryz.func52, Tryz.ntmps52
    go_wp2_with fail
    go_ret
    exact ⟨_, rfl, OwnAt.nil _, Below.refl _ _⟩
  · have Hrow := Lib.hid hrow
    clear hrow
    go_enter Tryz.func52, Tryz.ntmps52
    go_wp2_with (at_builtin; refine wpList_append_ownAt (R := RString) (k := 1) (e := 9) (B := w.heap.size) (l := []) (m := l) _ (by rfl) _ _ _ (by rfl) i0 _ 16 Tryz.underlying28 hi0 hz0 hz1 hz2 rfl (by omega) flat_string one_string _ (by rfl) (own_empty w 1 _ (Nat.le_refl _)) _ (by rfl) (Hrow.out.below stays_string ((Below.refl _ _).alloc (Nat.le_refl _) _)) (by unfold maxLen; simp; omega) (by simp; omega) (by simp) ?_)
    intro v' w' hv' hg hr _
    have hb : Below w.heap.size w w' := below_of_grown ((Below.refl _ _).alloc (Nat.le_refl _) _) (by simp) hg hr
    go_wp2_with fail
    go_ret
    exact ⟨_, rfl, by simpa using hv', hb⟩
def oP (x : GOwned) : JP.OwnP := (x.manager.data.toList, x.paths.map (·.data.toList))
def bkOf (l : List JP.OwnP) : BookF := l.foldl (fun g x => updG g x.1 x.2) fun _ => none
theorem bkOf_more (l : List JP.OwnP) (x : JP.OwnP) : bkOf (l ++ [x]) = updG (bkOf l) x.1 x.2 := by unfold bkOf; rw [List.foldl_append]; rfl
theorem BookAt.into {w : World} {lo b n : Nat} {g : BookF} (h : BookAt w lo b n g) : BookIn lo w.heap.size w b n g := by
  obtain ⟨f, h1, h2, h3, h4, h5⟩ := h
  refine ⟨f, h1, h2, h3, h4, fun k v q hk hq => ?_, h5, h1.lt⟩
  obtain ⟨l, hl⟩ : ∃ l, g k = some l := by
    have h9 := h2 k
    rw [hk] at h9
    exact Option.isSome_iff_exists.1 h9.symm
  exact ((h3 k v l hk hl).at hq).2.1
theorem paths_back (l : List ByteArray) : (l.map (·.data.toList)).map mkB = l := by
  rw [List.map_map]
  have : (mkB ∘ fun x : ByteArray => x.data.toList) = id := funext fun x => mkB_of x
  rw [this, List.map_id]
set_option maxRecDepth 100000 in
set_option maxHeartbeats 6400000 in
theorem bookOf_any (v : Value) (l : List GOwned) (w : World) (h : RowAt OwnedR 2 w v l) (hl : l.length ≤ 1048576) (hs : ∀ x ∈ l, x.manager.size ≤ 1048576 ∧ x.paths.length ≤ 1048576) :
    Calls Tryz.prog 32 #[v] w fun e w' => ∃ b, e = .returned (.map (some b)) ∧ BookAt w' w.heap.size b l.length (bkOf (l.map oP)) ∧ Below w.heap.size w w' := by
  obtain ⟨a1, c1, rfl, -, -⟩ := h.len
  obtain ⟨nl, hnl⟩ : ∃ n, l.length = n := ⟨_, rfl⟩
  rw [hnl] at h hl ⊢
  have HRow := Lib.hid h
  have Hnl := Lib.hid hnl
  have Hs := Lib.hid hs
  obtain ⟨w1, hw1⟩ : ∃ w1, w1 = w.alloc (.map #[] 0) := ⟨_, rfl⟩
  obtain ⟨b, hb⟩ : ∃ b, b = w.heap.size := ⟨_, rfl⟩
  have HBk : Hid (BookAt w1 w.heap.size b 0 (bkOf ((l.take 0).map oP))) := Lib.hid (by rw [hw1, hb]; exact book_made w)
  have HB1 : Hid (Below w.heap.size w w1) := Lib.hid (by rw [hw1]; exact (Below.refl _ _).alloc (Nat.le_refl _) _)
  have hmm := @run_makeMap Tryz.prog
  clear h hs hnl
  go_enter Tryz.func32, Tryz.ntmps32
  go_upto_region 2 with fail
  rw [← hw1]
  try rw [← hb]
  have Hb := Lib.hid hb
  clear hw1 hb hmm
  go_wp2_with fail
  go_loopg [9] nl (fun k u9 wr => ∃ i : Nat, i + k = nl ∧ u9 = .int .i64 (i : Int) ∧ Hid (BookAt wr w.heap.size b i (bkOf ((l.take i).map oP))) ∧ Hid (Below w.heap.size w wr))
  case atStart => exact ⟨0, by omega, rfl, HBk, HB1⟩
  case round =>
    obtain ⟨i, hik, rfl, HBr, Hbel⟩ := hrel
    cases gk with
    | zero =>
      obtain rfl : nl = i := by omega
      have HB' : Hid (BookAt wr w.heap.size b nl (bkOf (l.map oP))) := Lib.hid (by
        have h9 := HBr.out
        rw [List.take_of_length_le (by rw [Hnl.out]; exact Nat.le_refl _)] at h9
        exact h9)
      clear HBr
      go_wp2_with fail
      go_ret
      exact ⟨_, rfl, HB'.out, Hbel.out⟩
    | succ k =>
      have hil : i < nl := by omega
      obtain ⟨x, hxi⟩ : ∃ x, l[i]? = some x := ⟨l[i]'(by rw [Hnl.out]; exact hil), List.getElem?_eq_getElem _⟩
      obtain ⟨bb, o, c', hv, _, _, hbs, hcell⟩ := HRow.out.form (by rw [Hnl.out]; omega) (by omega)
      injection hv with u1 u2 u3
      subst u1
      clear u2 u3
      obtain ⟨ds, _, hcc, v1, rfl, hst⟩ := hcell i x hxi
      obtain ⟨sa, sc, rfl, -, -⟩ := hst.row.len
      obtain ⟨sn, hsn⟩ : ∃ sn, x.paths.length = sn := ⟨_, rfl⟩
      rw [hsn] at hcc hst
      have hmx := Hs.out x (List.mem_of_getElem? hxi)
      have e0 : wr.cell? ⟨bb, o + i * 2, none⟩ = some (.string x.manager) := (Hbel.out.cell (p := ⟨bb, _, none⟩) hbs).trans (by simpa using hcc 0 _ rfl)
      have e1 : wr.cell? ⟨bb, o + i * 2 + 1, none⟩ = some (.slice sa sn sc) := (Hbel.out.cell (p := ⟨bb, _, none⟩) hbs).trans (hcc 1 _ rfl)
      have q1 : (0 : Int) ≤ (i : Int) := by omega
      have q2 : (i : Int) < (nl : Int) := by omega
      obtain ⟨w2, hw2⟩ : ∃ w2, w2 = wr.alloc (.cells #[.string x.manager, .slice sa sn sc] 30) := ⟨_, rfl⟩
      obtain ⟨gx, hgx⟩ : ∃ gx, gx = wr.heap.size := ⟨_, rfl⟩
      have b2 : w2.heap[gx]? = some (.cells #[.string x.manager, .slice sa sn sc] 30 (0, 0)) := by rw [hw2, hgx]; exact heap_alloc_new wr _
      have hb2 : Below wr.heap.size wr w2 := by rw [hw2]; exact (Below.refl _ wr).alloc (Nat.le_refl _) _
      have hb12 := Hbel.out.trans (hb2.mono Hbel.out.size)
      have HB2 := Lib.hid hb12
      have HBk2 := Lib.hid (HBr.out.below hb2)
      have HSt := Lib.hid (hst.below hb12)
      have Hxi := Lib.hid hxi
      have B2 := Lib.hid b2
      have hsp : sn ≤ 1048576 := by rw [← hsn]; exact hmx.2
      have hsm := hmx.1
      have Hsn := Lib.hid hsn
      have hs02 := hb12.size
      clear hcc hcell hxi hst hb2 b2 hb12 HBr hsn hbs hmx
      go_upto_region 5 with fail
      rw [← hw2]
      try rw [← hgx]
      clear hw2 hgx e0 e1
      refine wp_region_relB 6 (fun ii U w' => match ii with
        | 0 => U 0 = .map (some b)
        | 1 => U 1 = .pointer (some ⟨gx, 0, none⟩)
        | 2 => U 2 = .string x.manager
        | 3 => U 3 = .pointer (some ⟨gx, 1, none⟩)
        | 4 => U 4 = .slice sa sn sc
        | 5 => OwnAt RString 1 w' w2.heap.size 9 (U 5) x.paths
        | _ => True)
        (fun | 2 => [1] | 4 => [3] | 5 => [4] | _ => []) (by kernel_rfl) (by kernel_rfl) ?_ ⟨?_, ?_, ?_, ?_, ?_, ?_, trivial⟩ ?_
      · intro j u w1 w2 hb h
        match j, h with
        | 0, h => exact h
        | 1, h => exact h
        | 2, h => exact h
        | 3, h => exact h
        | 4, h => exact h
        | 5, h => exact h.below stays_string hb
        | _ + 6, h => trivial
      · intro x' w' hb hd
        have hb2r : Below w2.heap.size w2 w' := (below_drewF w2).trans hb
        refine owes_here (.map (some b)) (by rfl) ?_ rfl
        simp only [putAll, List.take_succ_cons, List.take_zero]
        go_simp
      · intro x' w' hb hd
        have hb2r : Below w2.heap.size w2 w' := (below_drewF w2).trans hb
        refine owes_here (.pointer (some ⟨gx, 0, none⟩)) (by rfl) ?_ rfl
        simp only [putAll, List.take_succ_cons, List.take_zero]
        go_simp
      · intro x' w' hb hd
        have hb2r : Below w2.heap.size w2 w' := (below_drewF w2).trans hb
        have k1 : x' 1 = .pointer (some ⟨gx, 0, none⟩) := hd 1 (by simp)
        have cc := fun i => cell_block (below_block hb2r B2.out) i
        refine owes_here (.string x.manager) (by rfl) ?_ rfl
        simp only [putAll, List.take_succ_cons, List.take_zero]
        go_simp
      · intro x' w' hb hd
        have hb2r : Below w2.heap.size w2 w' := (below_drewF w2).trans hb
        refine owes_here (.pointer (some ⟨gx, 1, none⟩)) (by rfl) ?_ rfl
        simp only [putAll, List.take_succ_cons, List.take_zero]
        go_simp
      · intro x' w' hb hd
        have hb2r : Below w2.heap.size w2 w' := (below_drewF w2).trans hb
        have k3 : x' 3 = .pointer (some ⟨gx, 1, none⟩) := hd 3 (by simp)
        have cc := fun i => cell_block (below_block hb2r B2.out) i
        refine owes_here (.slice sa sn sc) (by rfl) ?_ rfl
        simp only [putAll, List.take_succ_cons, List.take_zero]
        go_simp
      · intro x' w' hb hd
        have hb2r : Below w2.heap.size w2 w' := (below_drewF w2).trans hb
        have k4 : x' 4 = .slice sa sn sc := hd 4 (by simp)
        refine owes_call 52 #[.slice sa sn sc] (by rfl) ?_ ((cloneTexts_any _ _ w' (HSt.out.below hb2r) (by rw [Hsn.out]; omega)).mono fun e w3 ⟨uu, h1, h2, h3⟩ => ⟨_, h1, h2.mono hb2r.size, h3⟩)
        simp only [putAll, List.take_succ_cons, List.take_zero]
        go_simp
      · intro x' w' hb hR
        have hb2r : Below w2.heap.size w2 w' := (below_drewF w2).trans hb
        have k0 : x' 0 = .map (some b) := hR 0 (by omega)
        have k2 : x' 2 = .string x.manager := hR 2 (by omega)
        have k5 : OwnAt RString 1 w' w2.heap.size 9 (x' 5) x.paths := hR 5 (by omega)
        obtain ⟨v5, hv5⟩ : ∃ v5, x' 5 = v5 := ⟨_, rfl⟩
        rw [hv5] at k5
        have HBk3 := Lib.hid (HBk2.out.below hb2r)
        have HB3 := Lib.hid (HB2.out.trans (hb2r.mono hs02))
        have K5 := Lib.hid k5
        have HIn := Lib.hid HBk2.out.into
        obtain ⟨F2, hM2, r2, r3, r4, r5, r6, r7⟩ := HIn.out
        have HF : Hid (MapS Tryz.prog 9 w' b i F2) := Lib.hid (hM2.belowW hb2r)
        have HP : Hid (BookF' w' w.heap.size w2.heap.size b F2 (bkOf ((l.take i).map oP))) := Lib.hid (BookF'.below ⟨r2, r3, r4, r5, r6, r7⟩ hb2r)
        have hkey := mkB_of x.manager
        have hil9 : i < maxLen := by unfold maxLen; omega
        have hsm9 : x.manager.size ≤ maxLen := by unfold maxLen; omega
        clear hR hb hb2r k5 hM2 r2 r3 r4 r5 r6 r7
        simp only [putAll, List.take_succ_cons, List.take_zero, List.drop_succ_cons, List.drop_zero]
        rw [k0, k2, hv5]
        clear k0 k2 hv5
        try simp only [Act.put, List.setIfInBounds_toArray, List.set_cons_zero, List.set_cons_succ]
        go_wp2_with (at_mapUpdate; refine wpList_store_mapS _ (by rfl) _ _ _ 56 (by rfl) 9 28 Tryz.underlying9 Tryz.underlying56 b i F2 (by rfl) HF.out hil9 x.manager hsm9 (by rfl) v5 (by rfl) ?_; intro w4 hm4 ht4)
        try go_frame
        have HBk4 : Hid (BookAt w4 w.heap.size b (i + 1) (bkOf ((l.take (i + 1)).map oP))) := Lib.hid (by
          have e1 : (l.take (i + 1)).map oP = (l.take i).map oP ++ [oP x] := by rw [List.take_add_one, Hxi.out, List.map_append]; rfl
          rw [e1, bkOf_more]
          obtain ⟨p2, p3, p4, p5, p6, p7⟩ := HP.out
          refine book_put (n := 0) p2 p3 p4 p6 hm4 ht4 ?_ ?_
          · show OwnAt RString 1 w' w.heap.size 9 v5 ((x.paths.map (·.data.toList)).map mkB)
            rw [paths_back]
            exact K5.out.mono hs02
          · intro k' v' q hk hf hq hq'
            have h1 := p5 k' v' q hf hq
            have h2 := (K5.out.at hq').1
            omega)
        have HB4 : Hid (Below w.heap.size w w4) := Lib.hid (HB3.out.trans (by
          have hg := ht4.grown
          exact ⟨hg.os, hg.tape, hg.output, hg.size, fun k hk => turned_block ht4 (fun e => by have := HP.out.2.2.2.2.1; omega)⟩))
        clear hm4 ht4 HF HP HIn K5 HBk3 HB3 HBk2 HB2
        go_wp2_with fail
        go_roundg k
        case measure => omega
        case rel => exact ⟨i + 1, by omega, by go_num, HBk4, HB4⟩
end Go.Proofs.YtdcmnpeabjallaaGreatDoor
namespace Go.Proofs.YtdcmnpeabjallaaGreatDoor
open Go.RowKit
theorem byteRanges (c : Nat) : c < 48 ∨ (48 ≤ c ∧ c ≤ 57) ∨ (57 < c ∧ c < 65) ∨ (65 ≤ c ∧ c ≤ 90) ∨ (90 < c ∧ c < 97) ∨ (97 ≤ c ∧ c ≤ 122) ∨ 122 < c := by omega
set_option maxHeartbeats 800000 in
theorem isEdge_any (c : Nat) (w : World) (_h8 : c < 256) :
    Calls Tryz.prog 118 #[.int .u8 (c : Int)] w fun e w' => e = .returned (.bool (NameP.edge c)) ∧ w = w' := by
  rcases byteRanges c with h | ⟨h, h'⟩ | ⟨h, h'⟩ | ⟨h, h'⟩ | ⟨h, h'⟩ | ⟨h, h'⟩ | h
  all_goals
    go_enter Tryz.func118, Tryz.ntmps118
    go_wp2
    go_ret
    exact ⟨congrArg (fun b => Ending.returned (.bool b)) (by unfold NameP.edge; rw [Bool.eq_iff_iff]; simp; omega), rfl⟩
set_option maxHeartbeats 800000 in
theorem isLow_any (c : Nat) (w : World) (h8 : c < 256) :
    Calls Tryz.prog 85 #[.int .u8 (c : Int)] w fun e w' => e = .returned (.bool (NameP.low c)) ∧ w = w' := by
  cases he : NameP.edge c with
  | false =>
    have He := Lib.hid he; clear he
    go_enter Tryz.func85, Tryz.ntmps85
    go_wp2_with fail
    refine (isEdge_any c _ h8).mono ?_
    rintro e w' ⟨rfl, rfl⟩
    rw [He.out]
    go_wp2
    go_ret
    exact ⟨congrArg (fun b => Ending.returned (.bool b)) (by simp [NameP.low, He.out]), rfl⟩
  | true =>
    have He := Lib.hid he; clear he
    by_cases h1 : c < 65
    · go_enter Tryz.func85, Tryz.ntmps85
      go_wp2_with fail
      refine (isEdge_any c _ h8).mono ?_
      rintro e w' ⟨rfl, rfl⟩
      rw [He.out]
      go_wp2
      go_ret
      exact ⟨congrArg (fun b => Ending.returned (.bool b)) (by unfold NameP.low; rw [He.out, Bool.eq_iff_iff]; simp; omega), rfl⟩
    · by_cases h2 : 90 < c
      · go_enter Tryz.func85, Tryz.ntmps85
        go_wp2_with fail
        refine (isEdge_any c _ h8).mono ?_
        rintro e w' ⟨rfl, rfl⟩
        rw [He.out]
        go_wp2
        go_ret
        exact ⟨congrArg (fun b => Ending.returned (.bool b)) (by unfold NameP.low; rw [He.out, Bool.eq_iff_iff]; simp; omega), rfl⟩
      · go_enter Tryz.func85, Tryz.ntmps85
        go_wp2_with fail
        refine (isEdge_any c _ h8).mono ?_
        rintro e w' ⟨rfl, rfl⟩
        rw [He.out]
        go_wp2
        go_ret
        exact ⟨congrArg (fun b => Ending.returned (.bool b)) (by unfold NameP.low; rw [He.out, Bool.eq_iff_iff]; simp; omega), rfl⟩
theorem dash_any (c : Nat) (w : World) (_h8 : c < 256) :
    Calls Tryz.prog 86 #[.int .u8 (c : Int)] w fun e w' => e = .returned (.bool (NameP.dash c)) ∧ w = w' := by
  by_cases h : c = 45
  · subst h
    go_enter Tryz.func86, Tryz.ntmps86
    go_wp2
    go_ret
    exact ⟨rfl, rfl⟩
  · have hc : ((c : Int) == 45) = false := by rw [beq_eq_false_iff_ne]; omega
    have Hc := Lib.hid h; clear h
    go_enter Tryz.func86, Tryz.ntmps86
    go_wp2
    go_ret
    exact ⟨congrArg (fun b => Ending.returned (.bool b)) (by simp [NameP.dash]; exact Hc.out), rfl⟩
end Go.Proofs.YtdcmnpeabjallaaGreatDoor
namespace Go.Proofs.YtdcmnpeabjallaaGreatDoor
open Go.RowKit
structure Tells (f : FuncId) (p : Nat → Bool) : Prop where
  enter : ∀ (a : Array Value) (w : World), (callFunc f a).run Tryz.prog w = .ok (.enter f a) w
  calls : ∀ (c : Nat) (w : World), c < 256 → Calls Tryz.prog f #[.int .u8 (c : Int)] w fun e w' => e = .returned (.bool (p c)) ∧ w = w'
theorem low_tells : Tells 85 NameP.low := ⟨run_callFunc_body Tryz.func85 (by kernel_rfl) (by kernel_rfl), fun c w h => isLow_any c w h⟩
theorem dash_tells : Tells 86 NameP.dash := ⟨run_callFunc_body Tryz.func86 (by kernel_rfl) (by kernel_rfl), fun c w h => dash_any c w h⟩
theorem made_nil {e v : Nat → Bool} {s : ByteArray} (h : s.toList = []) : NameP.made e v s.data.toList = false := by
  rw [ByteArray.toList_eq] at h; rw [h]; rfl
theorem made_cons {p q : Nat → Bool} (s : ByteArray) (h : 1 ≤ s.size) :
    NameP.made p q s.data.toList = (p s[0].toNat && p s[s.size - 1].toNat && s.data.toList.all fun c => p c.toNat || q c.toNat) := by
  have hl : s.data.toList.length = s.size := by simp
  have h0 : s.data.toList[0]? = some s[0] := by rw [List.getElem?_eq_getElem (by omega)]; rfl
  have h1 : s.data.toList.getLast? = some s[s.size - 1] := by
    rw [List.getLast?_eq_getElem?, hl, List.getElem?_eq_getElem (by omega)]; rfl
  cases hd : s.data.toList with
  | nil => rw [hd] at hl; simp at hl; omega
  | cons x r =>
    rw [hd] at h0 h1
    simp only [List.getElem?_cons_zero, Option.some.injEq] at h0
    rw [List.getLast?_eq_some_getLast (by simp)] at h1
    simp only [Option.some.injEq] at h1
    unfold NameP.made
    rw [← h0, ← h1]
theorem all_snocM {s : ByteArray} {k : Nat} {f : UInt8 → Bool} (h : k < s.size) (ha : Hid ((s.data.toList.take k).all f = true)) (hk : f s[k] = true) : Hid ((s.data.toList.take (k + 1)).all f = true) := by
  show _ = _
  rw [take_snoc s k h, List.all_append, ha.out]
  simp [hk]
theorem all_not {s : ByteArray} {k : Nat} {f : UInt8 → Bool} (h : k < s.size) (hk : f s[k] = false) : s.data.toList.all f = false := by
  rw [List.all_eq_false]
  refine ⟨s[k], ?_, by rw [hk]; simp⟩
  have : s[k] = s.data.toList[k]'(by simpa using h) := rfl
  rw [this]
  exact List.getElem_mem _
set_option maxRecDepth 100000 in
set_option maxHeartbeats 1600000 in
theorem made_any {ef vf : FuncId} {p q : Nat → Bool} (hp : Tells ef p) (hq : Tells vf q) (s : ByteArray) (w : World) (hs : s.size ≤ 1099511627776) :
    Calls Tryz.prog 84 #[.string s, .func (.func ef) #[] #[], .func (.func vf) #[] #[]] w fun e w' => e = .returned (.bool (NameP.made p q s.data.toList)) ∧ w = w' := by
  by_cases h0 : s.size = 0
  · have hl : s.toList = [] := by rw [ByteArray.toList_eq]; exact List.eq_nil_of_length_eq_zero (by simpa using h0)
    have Hm := Lib.hid (made_nil (e := p) (v := q) hl)
    have hle : s.toList.isEmpty = true := by rw [hl]; rfl
    clear h0
    go_enter Tryz.func84, Tryz.ntmps84
    go_wp2
    go_ret
    exact ⟨by rw [Hm.out]; rfl, rfl⟩
  · have h1 : 1 ≤ s.size := by omega
    have hne : (!s.toList.isEmpty) = true := by
      rw [ByteArray.toList_eq]
      have hl : s.data.toList.length = s.size := by simp
      cases hd : s.data.toList with | nil => rw [hd] at hl; simp at hl; omega | cons x r => rfl
    have hne2 : s.toList.isEmpty = false := by simpa using hne
    have HM := Lib.hid (made_cons (p := p) (q := q) s h1)
    clear h0
    have c0 : s[0].toNat < 256 := s[0].toNat_lt
    have cl : s[s.size - 1].toNat < 256 := s[s.size - 1].toNat_lt
    have i0 : (0 : Int) < (s.size : Int) := by omega
    have i1 : (0 : Int) ≤ (s.size : Int) - 1 := by omega
    have i2 : (s.size : Int) - 1 < (s.size : Int) := by omega
    have i3 : ((s.size : Int) - 1).toNat = s.size - 1 := by omega
    have ep := hp.enter
    have eq := hq.enter
    cases h2 : p s[0].toNat with
    | false =>
      have H2 := Lib.hid h2; clear h2
      go_enter Tryz.func84, Tryz.ntmps84
      go_wp2_with fail
      refine (hp.calls _ _ c0).mono ?_
      rintro e w' ⟨rfl, rfl⟩
      rw [H2.out]
      go_wp2_with fail
      go_ret
      exact ⟨congrArg (fun b => Ending.returned (.bool b)) (by rw [HM.out, H2.out]; rfl), rfl⟩
    | true =>
      have H2 := Lib.hid h2; clear h2
      cases h3 : p s[s.size - 1].toNat with
      | false =>
        have H3 := Lib.hid h3; clear h3
        go_enter Tryz.func84, Tryz.ntmps84
        go_wp2_with fail
        refine (hp.calls _ _ c0).mono ?_
        rintro e w' ⟨rfl, rfl⟩
        rw [H2.out]
        go_wp2_with fail
        refine (hp.calls _ _ cl).mono ?_
        rintro e w' ⟨rfl, rfl⟩
        rw [H3.out]
        go_wp2_with fail
        go_ret
        exact ⟨congrArg (fun b => Ending.returned (.bool b)) (by rw [HM.out, H2.out, H3.out]; rfl), rfl⟩
      | true =>
        have H3 := Lib.hid h3; clear h3
        go_enter Tryz.func84, Tryz.ntmps84
        go_wp2_with fail
        refine (hp.calls _ _ c0).mono ?_
        rintro e w' ⟨rfl, rfl⟩
        rw [H2.out]
        go_wp2_with fail
        refine (hp.calls _ _ cl).mono ?_
        rintro e w' ⟨rfl, rfl⟩
        rw [H3.out]
        go_wp2_with fail
        go_loop [29] (fun i => ∃ k : Nat, k ≤ s.size ∧ i = .int .i64 k ∧ Hid (((s.data.toList.take k).all fun c => p c.toNat || q c.toNat) = true)) (fun i => s.size - (intOf i).toNat)
        case atStart => exact ⟨0, Nat.zero_le _, rfl, by show _ = _; simp⟩
        case round =>
          obtain ⟨k, hk, rfl, HA⟩ := hrel
          by_cases hlt : k < s.size
          · have ck : s[k].toNat < 256 := s[k].toNat_lt
            have j0 : (0 : Int) ≤ (k : Int) := by omega
            have j1 : (k : Int) < (s.size : Int) := by omega
            cases h4 : p s[k].toNat with
            | true =>
              have H4 := Lib.hid h4; clear h4
              go_wp2_with fail
              refine (hp.calls _ _ ck).mono ?_
              rintro e w' ⟨rfl, rfl⟩
              rw [H4.out]
              go_wp2_with fail
              go_round
              case rel => exact ⟨k + 1, by omega, by go_num, all_snocM hlt HA (by rw [H4.out]; rfl)⟩
              case measure => simp [intOf]; omega
            | false =>
              have H4 := Lib.hid h4; clear h4
              cases h5 : q s[k].toNat with
              | true =>
                have H5 := Lib.hid h5; clear h5
                go_wp2_with fail
                refine (hp.calls _ _ ck).mono ?_
                rintro e w' ⟨rfl, rfl⟩
                rw [H4.out]
                go_wp2_with fail
                refine (hq.calls _ _ ck).mono ?_
                rintro e w' ⟨rfl, rfl⟩
                rw [H5.out]
                go_wp2_with fail
                go_round
                case rel => exact ⟨k + 1, by omega, by go_num, all_snocM hlt HA (by rw [H4.out, H5.out]; rfl)⟩
                case measure => simp [intOf]; omega
              | false =>
                have H5 := Lib.hid h5; clear h5
                go_wp2_with fail
                refine (hp.calls _ _ ck).mono ?_
                rintro e w' ⟨rfl, rfl⟩
                rw [H4.out]
                go_wp2_with fail
                refine (hq.calls _ _ ck).mono ?_
                rintro e w' ⟨rfl, rfl⟩
                rw [H5.out]
                go_wp2_with fail
                go_ret
                exact ⟨congrArg (fun b => Ending.returned (.bool b)) (by rw [HM.out, all_not hlt (by rw [H4.out, H5.out]; rfl)]; simp), rfl⟩
          · go_wp2_with fail
            go_ret
            refine ⟨congrArg (fun b => Ending.returned (.bool b)) ?_, rfl⟩
            have := HA.out
            rw [List.take_of_length_le (by simp; omega)] at this
            rw [HM.out, H2.out, H3.out, this]; rfl
set_option maxHeartbeats 800000 in
theorem judge_any (s : ByteArray) (most : Nat) (b : Bool) (w : World) (_hs : s.size ≤ 1099511627776) (_hm : most ≤ 1000) :
    Calls Tryz.prog 50 #[.string s, .int .i64 (most : Int), .bool b] w fun e w' => e = .returned (.int .i64 (NameP.judge s.size most b)) ∧ w = w' := by
  by_cases h : most < s.size
  · go_enter Tryz.func50, Tryz.ntmps50
    go_wp2
    go_ret
    exact ⟨congrArg (fun b => Ending.returned (.int .i64 b)) (by unfold NameP.judge; rw [if_pos h]), rfl⟩
  · cases b
    all_goals
      go_enter Tryz.func50, Tryz.ntmps50
      go_wp2
      go_ret
      exact ⟨congrArg (fun b => Ending.returned (.int .i64 b)) (by unfold NameP.judge; rw [if_neg h]; rfl), rfl⟩
theorem isName_any (s : ByteArray) (w : World) (hs : s.size ≤ 1099511627776) :
    Calls Tryz.prog 51 #[.string s] w fun e w' => e = .returned (.bool (NameP.isName s.data.toList)) ∧ w = w' := by
  go_enter Tryz.func51, Tryz.ntmps51
  go_wp2_with fail
  refine (made_any low_tells dash_tells s _ hs).mono ?_
  rintro e w' ⟨rfl, rfl⟩
  go_wp2_with fail
  go_ret
  exact ⟨rfl, rfl⟩
theorem check_any (s : ByteArray) (w : World) (hs : s.size ≤ 1099511627776) :
    Calls Tryz.prog 29 #[.string s] w fun e w' => e = .returned (.int .i64 (NameP.check s.data.toList)) ∧ w = w' := by
  go_enter Tryz.func29, Tryz.ntmps29
  go_wp2_with fail
  refine (isName_any s _ hs).mono ?_
  rintro e w' ⟨rfl, rfl⟩
  go_wp2_with fail
  refine (judge_any s 63 _ _ hs (by omega)).mono ?_
  rintro e w' ⟨rfl, rfl⟩
  go_wp2_with fail
  go_ret
  exact ⟨by simp [NameP.check], rfl⟩
end Go.Proofs.YtdcmnpeabjallaaGreatDoor
namespace Go.Proofs.YtdcmnpeabjallaaGreatDoor
open Go.RowKit
open JP (JV Bs Lf)
theorem steps_ne11 (p : Bs) : (stepsP p).1 ≠ 11 := by
  unfold stepsP
  split
  · decide
  · split
    · decide
    · split
      · split
        · decide
        · show (0 : Int) ≠ 11; decide
      · decide
def ChkP (G : Prop) (w : World) (e : Ending) (w' : World) : Prop := ∃ z : Int, e = .returned (.int .i64 z) ∧ (z = 0 ↔ G) ∧ z ≠ 11 ∧ Below w.heap.size w w'
theorem ChkP.no {G : Prop} {w w' : World} {z : Int} (h : ¬ G) (h0 : z ≠ 0) (h1 : z ≠ 11) (hb : Below w.heap.size w w') : ChkP G w (.returned (.int .i64 z)) w' := ⟨z, rfl, ⟨fun e => absurd e h0, fun g => absurd g h⟩, h1, hb⟩
theorem ChkP.yes {G : Prop} {w w' : World} (h : G) (hb : Below w.heap.size w w') : ChkP G w (.returned (.int .i64 0)) w' := ⟨0, rfl, ⟨fun _ => h, fun _ => rfl⟩, by decide, hb⟩
def OneStep (p : Bs) : Prop := ∃ k, stepsP p = (0, k) ∧ k ≠ []
def PathsTo (l : List Bs) : Prop := l.Pairwise (· < ·) ∧ ∀ p ∈ l, OneStep p
theorem pair_snoc {α : Type} {R : α → α → Prop} (ht : ∀ a b c, R a b → R b c → R a c) : ∀ {l : List α} {p : α}, l.Pairwise R → (∀ a, l.getLast? = some a → R a p) → (l ++ [p]).Pairwise R
  | [], p, _, _ => List.pairwise_singleton _ _
  | a :: r, p, h, hl => by
    obtain ⟨h1, h2⟩ := List.pairwise_cons.1 h
    have hp : R a p := by
      cases hr : r.getLast? with
      | none =>
        have : r = [] := List.getLast?_eq_none_iff.1 hr
        subst this
        exact hl a rfl
      | some z =>
        have h3 : (a :: r).getLast? = some z := by rw [List.getLast?_cons, hr]; rfl
        exact ht _ _ _ (h1 z (List.mem_of_getLast? hr)) (hl z h3)
    rw [List.cons_append, List.pairwise_cons]
    refine ⟨fun b hb => ?_, pair_snoc ht h2 fun z hz => hl z (by rw [List.getLast?_cons, hz]; rfl)⟩
    rcases List.mem_append.1 hb with hb | hb
    · exact h1 b hb
    · rw [List.mem_singleton.1 hb]; exact hp
theorem take_last {α : Type} {l : List α} {i : Nat} {a : α} (hi : l[i]? = some a) : (l.take (i + 1)).getLast? = some a := by
  rw [List.take_add_one, hi]
  show (l.take i ++ [a]).getLast? = some a
  simp
theorem pair_get {α : Type} {R : α → α → Prop} {l : List α} (h : l.Pairwise R) {i : Nat} {a b : α} (ha : l[i]? = some a) (hb : l[i + 1]? = some b) : R a b := by
  have h1 := List.pairwise_iff_getElem.1 h
  obtain ⟨hi, e1⟩ := List.getElem?_eq_some_iff.1 ha
  obtain ⟨hj, e2⟩ := List.getElem?_eq_some_iff.1 hb
  rw [← e1, ← e2]
  exact h1 i (i + 1) hi hj (by omega)
theorem PathsTo.more {l : List Bs} {i : Nat} {p : Bs} (h : PathsTo (l.take i)) (hp : l[i]? = some p) (ho : OneStep p) (hl : ∀ j q, i = j + 1 → l[j]? = some q → q < p) : PathsTo (l.take (i + 1)) := by
  rw [List.take_add_one, hp]
  show PathsTo (l.take i ++ [p])
  refine ⟨pair_snoc (R := fun a b : Bs => a < b) (fun _ _ _ => JP.bs_trans) h.1 fun a ha => ?_, fun q hq => ?_⟩
  · cases i with
    | zero => rw [List.take_zero] at ha; cases ha
    | succ j =>
      obtain ⟨q, hq⟩ : ∃ q, l[j]? = some q := ⟨l[j]'(by have := (List.getElem?_eq_some_iff.1 hp).1; omega), List.getElem?_eq_getElem _⟩
      rw [take_last hq] at ha
      rw [← Option.some.inj ha]
      exact hl j q rfl hq
  · rcases List.mem_append.1 hq with hq | hq
    · exact h.2 q hq
    · rw [List.mem_singleton.1 hq]; exact ho
set_option maxRecDepth 100000 in
set_option maxHeartbeats 6400000 in
theorem checkPaths_any (v : Value) (l : List Bs) (w : World) (hs : StrAt w v (l.map mkB)) (hl : l.length ≤ 1048576) (hz : ∀ p ∈ l, p.length ≤ 1048576) (hm : ∃ m, MaxOK m w) :
    Calls Tryz.prog 45 #[v] w (ChkP (JP.GoodPaths l) w) := by
  obtain ⟨a1, c1, rfl, -, -⟩ := hs.row.len
  obtain ⟨nl, hnl⟩ : ∃ n, (l.map mkB).length = n := ⟨_, rfl⟩
  rw [hnl] at hs ⊢
  rw [List.length_map] at hnl
  rw [hnl] at hl
  have HS := Lib.hid hs
  have Hz := Lib.hid hz
  have Hm := Lib.hid hm
  have Hnl := Lib.hid hnl
  have hbad : Hid (¬ PathsTo l → ¬ JP.GoodPaths l) := Lib.hid fun h g => h ⟨g.2.1, g.2.2⟩
  clear hs hz hm hnl
  go_enter Tryz.func45, Tryz.ntmps45
  go_wp2_with fail
  go_loopg [11] nl (fun k u11 wr => ∃ i : Nat, i + k = nl ∧ u11 = .int .i64 (i : Int) ∧ Hid (PathsTo (l.take i)) ∧ Hid (Below w.heap.size w wr))
  case atStart => exact ⟨0, by omega, rfl, Lib.hid (by rw [List.take_zero]; exact ⟨List.Pairwise.nil, fun _ h => by cases h⟩), Lib.hid (Below.refl _ _)⟩
  case round =>
    obtain ⟨i, hik, rfl, HP, Hbel⟩ := hrel
    cases gk with
    | zero =>
      obtain rfl : nl = i := by omega
      have HPl : Hid (PathsTo l) := Lib.hid (by
        have h9 := HP.out
        rw [List.take_of_length_le (by rw [Hnl.out]; exact Nat.le_refl _)] at h9
        exact h9)
      clear HP
      rcases Nat.eq_zero_or_pos nl with h0 | h0
      · have hl0 : l = [] := List.eq_nil_of_length_eq_zero (Hnl.out.trans h0)
        have Hno : Hid (¬ JP.GoodPaths l) := Lib.hid fun g => g.1 hl0
        clear hl0
        subst h0
        go_wp2_with fail
        go_ret
        exact .no Hno.out (by decide) (by decide) Hbel.out
      · have Hyes : Hid (JP.GoodPaths l) := Lib.hid ⟨fun e => by have h9 := Hnl.out; rw [e] at h9; rw [← h9] at h0; exact absurd h0 (Nat.lt_irrefl _), HPl.out.1, HPl.out.2⟩
        have q9 : ((nl : Int) == 0) = false := by rw [beq_eq_false_iff_ne]; omega
        go_wp2_with fail
        go_ret
        exact .yes Hyes.out Hbel.out
    | succ k =>
      have hil : i < nl := by omega
      obtain ⟨p, hpi⟩ : ∃ p, l[i]? = some p := ⟨l[i]'(by rw [Hnl.out]; exact hil), List.getElem?_eq_getElem _⟩
      have hpm := List.mem_of_getElem? hpi
      have hpz := Hz.out p hpm
      obtain ⟨bb, o, ha, e0⟩ := str_cell HS.out Hbel.out hpi
      subst ha
      have q1 : (0 : Int) ≤ (i : Int) := by omega
      have q2 : (i : Int) < (nl : Int) := by omega
      obtain ⟨mm, hmm⟩ := Hm.out
      have hS := ptrSteps_any (mkB p) mm wr (by rw [mkB_size]; omega) (hmm.below Hbel.out)
      rw [mkB_list] at hS
      obtain ⟨z, kk, hst⟩ : ∃ z kk, stepsP p = (z, kk) := ⟨_, _, rfl⟩
      have hz11 : z ≠ 11 := by have := steps_ne11 p; rw [hst] at this; exact this
      rw [hst] at hS
      have HSt := Lib.hid hS
      have Hst := Lib.hid hst
      have Hpi := Lib.hid hpi
      have Hpm := Lib.hid hpm
      have hsw := Hbel.out.size
      have Hmm := Lib.hid hmm
      clear hS hst hpi hpm hmm
      go_wp2_with fail
      refine HSt.out.mono ?_
      rintro E w1 ⟨v1, rfl, ⟨l1, hv1, hl1⟩, hb1⟩
      have HB1 := Lib.hid (Hbel.out.trans (hb1.mono hsw))
      by_cases hz0 : z = 0
      · subst hz0
        have hl1' : l1 = kk.map mkB := by rw [← paths_back l1, hl1]
        rw [hl1'] at hv1
        obtain ⟨hjk, hk10⟩ := join_steps Hst.out
        have htot : total (kk.map mkB) ≤ 4194304 := by
          rw [total_mk]
          exact Nat.le_trans (steps_total Hst.out) (Nat.le_trans hpz (by decide))
        have hJ := ptrJoin_any v1 (kk.map mkB) mm w1 hv1 htot (Hmm.out.below HB1.out)
        rw [List.length_map, if_neg (by omega), joinL_mk, hjk] at hJ
        have hJ2 : Calls Tryz.prog 80 #[v1] w1 fun e w' => e = .returned (.tuple #[.string (mkB p), .int .i64 0]) ∧ Below w1.heap.size w1 w' := hJ
        have HJ := Lib.hid hJ2
        obtain ⟨a2, c2, rfl, -, -⟩ := hv1.row.len
        obtain ⟨kn, hkn⟩ : ∃ n, (kk.map mkB).length = n := ⟨_, rfl⟩
        rw [hkn] at HJ ⊢
        rw [List.length_map] at hkn
        have Hkn := Lib.hid hkn
        have e9 : ((mkB p).toList == (mkB p).toList) = true := beq_self_eq_true _
        have hb1l := hb1.size
        clear hv1 hl1 hl1' hjk htot hJ hJ2 hb1 HSt hkn hz11
        go_wp2_with fail
        refine HJ.out.mono ?_
        rintro E w2 ⟨rfl, hb2⟩
        have HB2 := Lib.hid (HB1.out.trans (hb2.mono (Nat.le_trans hsw hb1l)))
        clear hb2 HJ
        rcases Nat.eq_zero_or_pos kn with hk0 | hk0
        · have Hno : Hid (¬ JP.GoodPaths l) := Lib.hid fun g => by
            obtain ⟨k9, h9, h8⟩ := g.2.2 p Hpm.out
            rw [Hst.out] at h9
            exact h8 (List.eq_nil_of_length_eq_zero (by rw [← (Prod.mk.inj h9).2, Hkn.out, hk0]))
          subst hk0
          go_wp2_with fail
          go_ret
          exact .no Hno.out (by decide) (by decide) HB2.out
        · have hone : OneStep p := ⟨kk, Hst.out, fun e => by have h9 := Hkn.out; rw [e] at h9; rw [← h9] at hk0; exact absurd hk0 (Nat.lt_irrefl _)⟩
          have Hone := Lib.hid hone
          have q4 : ((kn : Int) == 0) = false := by rw [beq_eq_false_iff_ne]; omega
          clear hone
          cases i with
          | zero =>
            have HP2 : Hid (PathsTo (l.take (0 + 1))) := Lib.hid (HP.out.more Hpi.out Hone.out fun j q hj => by omega)
            clear HP
            go_wp2_with fail
            go_roundg k
            case measure => omega
            case rel => exact ⟨0 + 1, by omega, by go_num, HP2, HB2⟩
          | succ j =>
            obtain ⟨q, hqi⟩ : ∃ q, l[j]? = some q := ⟨l[j]'(by rw [Hnl.out]; omega), List.getElem?_eq_getElem _⟩
            obtain ⟨bb2, o2, ha2, e2⟩ := str_cell HS.out HB2.out hqi
            injection ha2 with ha2
            injection ha2 with u1 u2
            subst u1; subst u2
            have q5 : (0 : Int) < ((j + 1 : Nat) : Int) := by omega
            have q6 : (((j + 1 : Nat) : Int)) - 1 = (j : Int) := by omega
            have q7 : (j : Int) < (nl : Int) := by omega
            have hbl : Op.bytesLess (mkB q).toList (mkB p).toList = decide (q < p) := by rw [ByteArray.toList_eq, ByteArray.toList_eq, mkB_list, mkB_list, bl_lt]
            obtain ⟨lt, Hlt⟩ : ∃ b, Hid (decide (q < p) = b) := ⟨_, Lib.hid rfl⟩
            rw [Hlt.out] at hbl
            have Hqi := Lib.hid hqi
            clear hqi
            cases lt with
            | true =>
              have HP2 : Hid (PathsTo (l.take (j + 1 + 1))) := Lib.hid (HP.out.more Hpi.out Hone.out fun j' q' hj hq => by
                obtain rfl : j = j' := by omega
                rw [Hqi.out] at hq
                rw [← Option.some.inj hq]
                exact of_decide_eq_true Hlt.out)
              clear HP
              go_wp2_with fail
              go_roundg k
              case measure => omega
              case rel => exact ⟨j + 1 + 1, by omega, by go_num, HP2, HB2⟩
            | false =>
              have Hno : Hid (¬ JP.GoodPaths l) := Lib.hid fun g => by
                exact of_decide_eq_false Hlt.out (pair_get (R := fun a b : Bs => a < b) g.2.1 Hqi.out Hpi.out)
              clear HP
              go_wp2_with fail
              go_ret
              exact .no Hno.out (by decide) (by decide) HB2.out
      · have q3 : (z == 0) = false := by rw [beq_eq_false_iff_ne]; exact hz0
        have Hno : Hid (¬ JP.GoodPaths l) := Lib.hid fun g => by
          obtain ⟨k9, h9, _⟩ := g.2.2 p Hpm.out
          rw [Hst.out] at h9
          exact hz0 (Prod.mk.inj h9).1
        have Hz0 := Lib.hid hz0
        have Hz11 := Lib.hid hz11
        clear hv1 hl1 hb1 hz0 hz11 HSt
        go_wp2_with fail
        go_ret
        exact .no Hno.out Hz0.out Hz11.out HB1.out
theorem name_ne11 (s : Bs) : NameP.check s ≠ 11 := by
  unfold NameP.check NameP.judge
  split
  · decide
  · split <;> decide
def GoodTo (l : List JP.OwnP) : Prop := l.Pairwise (fun a b => a.1 < b.1) ∧ ∀ x ∈ l, NameP.check x.1 = 0 ∧ JP.GoodPaths x.2
theorem GoodTo.more {l : List JP.OwnP} {i : Nat} {p : JP.OwnP} (h : GoodTo (l.take i)) (hp : l[i]? = some p) (h1 : NameP.check p.1 = 0) (h2 : JP.GoodPaths p.2) (hl : ∀ j q, i = j + 1 → l[j]? = some q → q.1 < p.1) : GoodTo (l.take (i + 1)) := by
  rw [List.take_add_one, hp]
  show GoodTo (l.take i ++ [p])
  refine ⟨pair_snoc (R := fun a b : JP.OwnP => a.1 < b.1) (fun _ _ _ => JP.bs_trans) h.1 fun a ha => ?_, fun q hq => ?_⟩
  · cases i with
    | zero => rw [List.take_zero] at ha; cases ha
    | succ j =>
      obtain ⟨q, hq⟩ : ∃ q, l[j]? = some q := ⟨l[j]'(by have := (List.getElem?_eq_some_iff.1 hp).1; omega), List.getElem?_eq_getElem _⟩
      rw [take_last hq] at ha
      rw [← Option.some.inj ha]
      exact hl j q rfl hq
  · rcases List.mem_append.1 hq with hq | hq
    · exact h.2 q hq
    · rw [List.mem_singleton.1 hq]; exact ⟨h1, h2⟩
set_option maxRecDepth 100000 in
set_option maxHeartbeats 6400000 in
theorem check_owned_any (v : Value) (l : List GOwned) (w : World) (h : RowAt OwnedR 2 w v l) (hl : l.length ≤ 1048576) (hz : ∀ x ∈ l, x.manager.size ≤ 1048576 ∧ x.paths.length ≤ 1048576 ∧ ∀ p ∈ x.paths, p.size ≤ 1048576) (hm : ∃ m, MaxOK m w) :
    Calls Tryz.prog 20 #[v] w (ChkP (JP.GoodO (l.map oP)) w) := by
  obtain ⟨a1, c1, rfl, -, -⟩ := h.len
  obtain ⟨nl, hnl⟩ : ∃ n, l.length = n := ⟨_, rfl⟩
  rw [hnl] at h hl ⊢
  have HS := Lib.hid h
  have Hz := Lib.hid hz
  have Hm := Lib.hid hm
  have Hnl := Lib.hid hnl
  clear h hz hm hnl
  by_cases h6 : 6 < nl
  · have Hno : Hid (¬ JP.GoodO (l.map oP)) := Lib.hid fun g => by
      have h9 := g.1
      rw [List.length_map, Hnl.out] at h9
      omega
    have q0 : (6 : Int) < (nl : Int) := by omega
    go_enter Tryz.func20, Tryz.ntmps20
    go_wp2_with fail
    go_ret
    exact .no Hno.out (by decide) (by decide) (Below.refl _ _)
  · have q0 : ¬ (6 : Int) < (nl : Int) := by omega
    have hn6 : nl ≤ 6 := by omega
    go_enter Tryz.func20, Tryz.ntmps20
    go_wp2_with fail
    go_loopg [12] nl (fun k u12 wr => ∃ i : Nat, i + k = nl ∧ u12 = .int .i64 (i : Int) ∧ Hid (GoodTo ((l.map oP).take i)) ∧ Hid (Below w.heap.size w wr))
    case atStart => exact ⟨0, by omega, rfl, Lib.hid (by rw [List.take_zero]; exact ⟨List.Pairwise.nil, fun _ h => by cases h⟩), Lib.hid (Below.refl _ _)⟩
    case round =>
      obtain ⟨i, hik, rfl, HP, Hbel⟩ := hrel
      cases gk with
      | zero =>
        obtain rfl : nl = i := by omega
        have Hyes : Hid (JP.GoodO (l.map oP)) := Lib.hid (by
          have h9 := HP.out
          rw [List.take_of_length_le (by rw [List.length_map, Hnl.out]; exact Nat.le_refl _)] at h9
          exact ⟨by rw [List.length_map, Hnl.out]; exact hn6, h9.1, h9.2⟩)
        clear HP
        go_wp2_with fail
        go_ret
        exact .yes Hyes.out Hbel.out
      | succ k =>
        have hil : i < nl := by omega
        obtain ⟨x, hxi⟩ : ∃ x, l[i]? = some x := ⟨l[i]'(by rw [Hnl.out]; exact hil), List.getElem?_eq_getElem _⟩
        obtain ⟨hz1, hz2, hz3⟩ := Hz.out x (List.mem_of_getElem? hxi)
        obtain ⟨bb, o, c', hv, _, _, hbs, hcell⟩ := HS.out.form (by rw [Hnl.out]; omega) (by omega)
        injection hv with u1 u2 u3
        subst u1
        clear u2 u3
        obtain ⟨ds, _, hcc, v1, rfl, hst⟩ := hcell i x hxi
        obtain ⟨sa, sc, rfl, -, -⟩ := hst.row.len
        obtain ⟨sn, hsn⟩ : ∃ sn, x.paths.length = sn := ⟨_, rfl⟩
        rw [hsn] at hcc hst
        have e0 : wr.cell? ⟨bb, o + i * 2, none⟩ = some (.string x.manager) := (Hbel.out.cell (p := ⟨bb, _, none⟩) hbs).trans (by simpa using hcc 0 _ rfl)
        have e1 : wr.cell? ⟨bb, o + i * 2 + 1, none⟩ = some (.slice sa sn sc) := (Hbel.out.cell (p := ⟨bb, _, none⟩) hbs).trans (hcc 1 _ rfl)
        have hLi : (l.map oP)[i]? = some (oP x) := by rw [List.getElem?_map, hxi]; rfl
        have q1 : (0 : Int) ≤ (i : Int) := by omega
        have q2 : (i : Int) < (nl : Int) := by omega
        obtain ⟨w2, hw2⟩ : ∃ w2, w2 = wr.alloc (.cells #[.string x.manager, .slice sa sn sc] 30) := ⟨_, rfl⟩
        obtain ⟨gx, hgx⟩ : ∃ gx, gx = wr.heap.size := ⟨_, rfl⟩
        have b2 : w2.heap[gx]? = some (.cells #[.string x.manager, .slice sa sn sc] 30 (0, 0)) := by rw [hw2, hgx]; exact heap_alloc_new wr _
        have hb2 : Below wr.heap.size wr w2 := by rw [hw2]; exact (Below.refl _ wr).alloc (Nat.le_refl _) _
        have hb12 := Hbel.out.trans (hb2.mono Hbel.out.size)
        have HB2 := Lib.hid hb12
        have hst2 : StrAt w2 (.slice sa sn sc) ((oP x).2.map mkB) := by
          show StrAt w2 _ ((x.paths.map (·.data.toList)).map mkB)
          rw [paths_back]; exact hst.below hb12
        have hpl : (oP x).2.length ≤ 1048576 := by show (x.paths.map _).length ≤ _; rw [List.length_map, hsn]; omega
        have HCP : Hid (∀ w', Below w2.heap.size w2 w' → Calls Tryz.prog 45 #[.slice sa sn sc] w' (ChkP (JP.GoodPaths (oP x).2) w')) := Lib.hid fun w' hb' => checkPaths_any (.slice sa sn sc) (oP x).2 w' (hst2.below hb') hpl (fun p hp => by
          obtain ⟨y, hy, rfl⟩ := List.mem_map.1 hp
          rw [Array.length_toList]; exact hz3 y hy) (let ⟨mm, hmm⟩ := Hm.out; ⟨mm, (hmm.below hb12).below hb'⟩)
        have B2 := Lib.hid b2
        have HNm := Lib.hid (check_any x.manager w2 (by omega))
        obtain ⟨nz, Hnz⟩ : ∃ z, Hid (NameP.check x.manager.data.toList = z) := ⟨_, Lib.hid rfl⟩
        rw [Hnz.out] at HNm
        have hn11 : nz ≠ 11 := by rw [← Hnz.out]; exact name_ne11 _
        have HLi := Lib.hid hLi
        have hs2 := hb12.size
        have cc := fun i => cell_block b2 i
        clear hcc hcell hst hst2 hpl hb2 hb12 hsn hbs hLi b2
        go_upto_region 6 with fail
        rw [← hw2]
        try rw [← hgx]
        clear hw2 hgx e0 e1
        go_wp2_with fail
        refine HNm.out.mono ?_
        rintro E w3 ⟨rfl, rfl⟩
        by_cases hz0 : nz = 0
        · subst hz0
          cases i with
          | zero =>
            clear hn11 HNm
            go_upto_region 9 with fail
            go_quiet (fail)
            have hbq : Below w2.heap.size w2 (w2.drewN nq) := below_drewN (Below.refl _ _) nq
            obtain ⟨w3, hw3⟩ : ∃ w3, w2.drewN nq = w3 := ⟨_, rfl⟩
            rw [hw3] at hbq ⊢
            have HB3 := Lib.hid (HB2.out.trans (hbq.mono hs2))
            have cc3 := fun i => cell_block (below_block hbq B2.out) i
            have HC := Lib.hid (HCP.out w3 hbq)
            have hs3 := HB3.out.size
            clear hw3 hbq cc HCP
            go_wp2_with fail
            refine HC.out.mono ?_
            rintro E w4 ⟨z4, rfl, hz4, hz411, hb4⟩
            have HB4 := Lib.hid (HB3.out.trans (hb4.mono hs3))
            by_cases hz40 : z4 = 0
            · have hgp := hz4.1 hz40
              have HP2 : Hid (GoodTo ((l.map oP).take (0 + 1))) := Lib.hid (HP.out.more HLi.out Hnz.out hgp (fun j q hj => by omega))
              subst hz40
              clear hz4 hb4 hgp HC HP
              go_wp2_with fail
              go_roundg k
              case measure => omega
              case rel => exact ⟨0 + 1, by omega, by go_num, HP2, HB4⟩
            · have q3 : (z4 == 0) = false := by rw [beq_eq_false_iff_ne]; exact hz40
              have Hno : Hid (¬ JP.GoodO (l.map oP)) := Lib.hid fun g => hz40 (hz4.2 (g.2.2 (oP x) (List.mem_of_getElem? HLi.out)).2)
              have Hz40 := Lib.hid hz40
              have Hz411 := Lib.hid hz411
              clear hz4 hb4 hz40 hz411 HC HP
              go_wp2_with fail
              go_ret
              exact .no Hno.out Hz40.out Hz411.out HB4.out
          | succ j =>
            obtain ⟨y, hyi⟩ : ∃ y, l[j]? = some y := ⟨l[j]'(by rw [Hnl.out]; omega), List.getElem?_eq_getElem _⟩
            obtain ⟨bb2, o2, c2', hv2, _, _, hbs2, hcell2⟩ := HS.out.form (by rw [Hnl.out]; omega) (by omega)
            injection hv2 with u1 u2 u3
            injection u1 with u1
            injection u1 with u1 u4
            subst u1; subst u4
            clear u2 u3
            obtain ⟨ds2, _, hcc2, v2, rfl, hst2⟩ := hcell2 j y hyi
            have e2 : w2.cell? ⟨bb, o + j * 2, none⟩ = some (.string y.manager) := (HB2.out.cell (p := ⟨bb, _, none⟩) hbs2).trans (by simpa using hcc2 0 _ rfl)
            have hLj : (l.map oP)[j]? = some (oP y) := by rw [List.getElem?_map, hyi]; rfl
            have HLj := Lib.hid hLj
            have q5 : (0 : Int) < ((j + 1 : Nat) : Int) := by omega
            have q6 : (((j + 1 : Nat) : Int)) - 1 = (j : Int) := by omega
            have q7 : (j : Int) < (nl : Int) := by omega
            have hbl : Op.bytesLess y.manager.toList x.manager.toList = decide ((oP y).1 < (oP x).1) := by rw [ByteArray.toList_eq, ByteArray.toList_eq, bl_lt]; rfl
            obtain ⟨lt, Hlt⟩ : ∃ b, Hid (decide ((oP y).1 < (oP x).1) = b) := ⟨_, Lib.hid rfl⟩
            rw [Hlt.out] at hbl
            clear hyi hcc2 hcell2 hst2 hLj hbs2
            cases lt with
            | true =>
              clear hn11 HNm
              go_upto_region 9 with fail
              go_quiet (fail)
              have hbq : Below w2.heap.size w2 (w2.drewN nq) := below_drewN (Below.refl _ _) nq
              obtain ⟨w3, hw3⟩ : ∃ w3, w2.drewN nq = w3 := ⟨_, rfl⟩
              rw [hw3] at hbq ⊢
              have HB3 := Lib.hid (HB2.out.trans (hbq.mono hs2))
              have cc3 := fun i => cell_block (below_block hbq B2.out) i
              have HC := Lib.hid (HCP.out w3 hbq)
              have hs3 := HB3.out.size
              clear hw3 hbq cc HCP
              go_wp2_with fail
              refine HC.out.mono ?_
              rintro E w4 ⟨z4, rfl, hz4, hz411, hb4⟩
              have HB4 := Lib.hid (HB3.out.trans (hb4.mono hs3))
              by_cases hz40 : z4 = 0
              · have hgp := hz4.1 hz40
                have HP2 : Hid (GoodTo ((l.map oP).take (j + 1 + 1))) := Lib.hid (HP.out.more HLi.out Hnz.out hgp (fun j' q' hj hq => by
                  obtain rfl : j = j' := by omega
                  rw [HLj.out] at hq
                  rw [← Option.some.inj hq]
                  exact of_decide_eq_true Hlt.out))
                subst hz40
                clear hz4 hb4 hgp HC HP
                go_wp2_with fail
                go_roundg k
                case measure => omega
                case rel => exact ⟨j + 1 + 1, by omega, by go_num, HP2, HB4⟩
              · have q3 : (z4 == 0) = false := by rw [beq_eq_false_iff_ne]; exact hz40
                have Hno : Hid (¬ JP.GoodO (l.map oP)) := Lib.hid fun g => hz40 (hz4.2 (g.2.2 (oP x) (List.mem_of_getElem? HLi.out)).2)
                have Hz40 := Lib.hid hz40
                have Hz411 := Lib.hid hz411
                clear hz4 hb4 hz40 hz411 HC HP
                go_wp2_with fail
                go_ret
                exact .no Hno.out Hz40.out Hz411.out HB4.out
            | false =>
              have Hno : Hid (¬ JP.GoodO (l.map oP)) := Lib.hid fun g => of_decide_eq_false Hlt.out (pair_get (R := fun a b : JP.OwnP => a.1 < b.1) g.2.1 HLj.out HLi.out)
              clear hn11 HNm
              go_upto_region 9 with fail
              go_quiet (fail)
              have hbq : Below w2.heap.size w2 (w2.drewN nq) := below_drewN (Below.refl _ _) nq
              obtain ⟨w3, hw3⟩ : ∃ w3, w2.drewN nq = w3 := ⟨_, rfl⟩
              rw [hw3] at hbq ⊢
              have HB3 := Lib.hid (HB2.out.trans (hbq.mono hs2))
              have cc3 := fun i => cell_block (below_block hbq B2.out) i
              have HC := Lib.hid (HCP.out w3 hbq)
              have hs3 := HB3.out.size
              clear hw3 hbq cc HCP
              clear HC HP
              go_wp2_with fail
              go_ret
              exact .no Hno.out (by decide) (by decide) HB3.out
        · have q3 : (nz == 0) = false := by rw [beq_eq_false_iff_ne]; exact hz0
          have Hno : Hid (¬ JP.GoodO (l.map oP)) := Lib.hid fun g => by
            have h9 := (g.2.2 (oP x) (List.mem_of_getElem? HLi.out)).1
            exact hz0 (Hnz.out.symm.trans h9)
          have Hz0 := Lib.hid hz0
          have Hn11 := Lib.hid hn11
          clear hz0 hn11 HCP HNm
          go_wp2_with fail
          go_ret
          exact .no Hno.out Hz0.out Hn11.out HB2.out
end Go.Proofs.YtdcmnpeabjallaaGreatDoor
namespace Go.Proofs.YtdcmnpeabjallaaGreatDoor
open Go.RowKit
open JP (JV Bs Lf)
namespace JP
theorem srt_fieldsS {v : JV} (h : wfS v) : Srt (fieldsOf v) := (fields_wfS h).1
theorem size_fields (v : JV) : 1 + sizeF (fieldsOf v) ≤ size v := by
  cases v with
  | obj l => rw [size]; exact Nat.le_refl _
  | nul => decide
  | bool b => exact size_pos _
  | num n => exact size_pos _
  | str n => exact size_pos _
  | list n => exact size_pos _
theorem set_size : ∀ (r : List Bs) (v w : JV), wfS v → size (setV v r w) ≤ size v + size w + r.length + 1
  | [], v, w, _ => by rw [setV_nil]; omega
  | s :: r, v, w, hv => by
    have ih := set_size r (gto s (fieldsOf v)) w (gto_wfS hv s)
    rw [setV_cons, size, List.length_cons]
    have h1 := sizeF_put s (setV (gto s (fieldsOf v)) r w) (fieldsOf v) (srt_fieldsS hv)
    have h2 := size_fields v
    cases hg : get s (fieldsOf v) with
    | none =>
      rw [hg] at h1
      have h3 : gto s (fieldsOf v) = .nul := by unfold gto; rw [hg]; rfl
      rw [h3] at ih h1 ⊢
      have h4 : size JV.nul = 1 := rfl
      dsimp only at h1
      omega
    | some c =>
      rw [hg] at h1
      have h3 : gto s (fieldsOf v) = c := by unfold gto; rw [hg]; rfl
      rw [h3] at ih h1 ⊢
      dsimp only at h1
      omega
def wayB (r : List Bs) : Nat := (r.map fun s => 2 * s.length + 10).sum
theorem set_len : ∀ (r : List Bs) (v w : JV), wfS v → (text (setV v r w)).length ≤ (text v).length + (text w).length + wayB r
  | [], v, w, _ => by rw [setV_nil]; omega
  | s :: r, v, w, hv => by
    have ih := set_len r (gto s (fieldsOf v)) w (gto_wfS hv s)
    rw [setV_cons]
    have h0 := obj_len_le (put s (setV (gto s (fieldsOf v)) r w) (fieldsOf v))
    have h1 := lenF_put s (setV (gto s (fieldsOf v)) r w) (fieldsOf v) (srt_fieldsS hv)
    have h2 := lenF_cut_get (n := s) (srt_fieldsS hv)
    have h3 := lenF_fields v
    have h4 := quote_bound s
    have h5 : wayB (s :: r) = 2 * s.length + 10 + wayB r := by unfold wayB; rw [List.map_cons, List.sum_cons]
    rw [h5]
    cases hg : get s (fieldsOf v) with
    | none =>
      rw [hg] at h2
      have h6 : gto s (fieldsOf v) = .nul := by unfold gto; rw [hg]; rfl
      rw [h6] at ih h0 h1 ⊢
      have h7 : (text JV.nul).length = 4 := by decide
      simp only [wO] at h2
      omega
    | some c =>
      rw [hg] at h2
      have h6 : gto s (fieldsOf v) = c := by unfold gto; rw [hg]; rfl
      rw [h6] at ih h0 h1 ⊢
      simp only [wO] at h2
      omega
theorem quote_ge (s : Bs) : s.length ≤ (quote s).length := by
  rw [quote_len]
  have : ∀ l : Bs, l.length ≤ (l.flatMap escB).length := by
    intro l
    induction l with
    | nil => exact Nat.le_refl _
    | cons a r ih =>
      rw [List.flatMap_cons, List.length_cons, List.length_append]
      have h1 : 1 ≤ (escB a).length := by
        unfold escB
        repeat' split
        all_goals simp
      omega
  have := this s
  omega
theorem way_steps : ∀ (r : List Bs) (v x : JV), wfS v → atO v r = some x → ∀ s ∈ r, s.length ≤ (text v).length
  | [], _, _, _, _, _, h => by cases h
  | t :: r, v, x, hv, h, s, hs => by
    rw [atO_cons] at h
    obtain ⟨c, hg, h⟩ := Option.bind_eq_some_iff.1 h
    have h2 := lenF_cut_get (n := t) (srt_fieldsS hv)
    have h3 := lenF_fields v
    rw [hg] at h2
    simp only [wO] at h2
    have hc : wfS c := by
      have := gto_wfS hv t
      rw [gto_some hg] at this
      exact this
    rcases List.mem_cons.1 hs with rfl | hs
    · have := quote_ge s
      omega
    · have := way_steps r c x hc h s hs
      omega
def Ne11 : R → Prop
  | .bad e => e ≠ 11
  | _ => True
theorem numE_ne (r : Bs) : numE r ≠ 11 := by
  unfold numE
  split
  · decide
  · split
    · decide
    · split <;> decide
theorem word_ne (v : JV) (p r : Bs) (m : Nat) (st : List Fr) : Ne11 (wordP v p r m st) := by
  unfold wordP
  split
  · trivial
  · show (3 : Int) ≠ 11; decide
theorem plain_ne (c : UInt8) (r : Bs) (m : Nat) (st : List Fr) : Ne11 (plainP c r m st) := by
  unfold plainP
  split
  · split
    · show (3 : Int) ≠ 11; decide
    · trivial
  · split
    · exact word_ne ..
    · split
      · exact word_ne ..
      · split
        · exact word_ne ..
        · split
          · trivial
          · exact numE_ne _
theorem field_ne (r : Bs) (m : Nat) (d : List (Bs × JV)) (st : List Fr) : Ne11 (fieldP r m d st) := by
  unfold fieldP
  split
  · show (3 : Int) ≠ 11; decide
  · split
    · split
      · show (3 : Int) ≠ 11; decide
      · unfold fieldN
        split
        · show (5 : Int) ≠ 11; decide
        · split
          · show (3 : Int) ≠ 11; decide
          · split
            · trivial
            · show (3 : Int) ≠ 11; decide
    · show (3 : Int) ≠ 11; decide
theorem begin_ne (r : Bs) (m : Nat) (st : List Fr) : Ne11 (beginP r m st) := by
  unfold beginP
  split
  · show (3 : Int) ≠ 11; decide
  · unfold beginC
    split
    · show (3 : Int) ≠ 11; decide
    · split
      · show (2 : Int) ≠ 11; decide
      · split
        · show (4 : Int) ≠ 11; decide
        · split
          · split <;> trivial
          · split
            · split
              · trivial
              · exact field_ne ..
            · exact plain_ne ..
theorem goes_ne (v : JV) (r : Bs) (m : Nat) (f : Fr) (st : List Fr) : Ne11 (goesP v r m f st) := by
  unfold goesP
  split
  · split
    · show (3 : Int) ≠ 11; decide
    · split
      · trivial
      · split
        · trivial
        · show (3 : Int) ≠ 11; decide
  · split
    · show (3 : Int) ≠ 11; decide
    · split
      · trivial
      · split
        · exact field_ne ..
        · show (3 : Int) ≠ 11; decide
theorem fin_ne : ∀ (k : Nat) (x : R), mu x ≤ k → Ne11 x → (fin x).2 ≠ 11 := by
  intro k
  induction k with
  | zero =>
    intro x hk hx
    cases x with
    | bad e => rw [fin_bad]; exact hx
    | more r m st => simp [mu] at hk
    | whole v r m st => simp [mu] at hk
  | succ k ih =>
    intro x hk hx
    cases x with
    | bad e => rw [fin_bad]; exact hx
    | more r m st => rw [fin_more]; exact ih _ (by have := begin_mu r m st; omega) (begin_ne ..)
    | whole v r m st =>
      cases st with
      | nil =>
        rw [fin_end]
        split
        · show (0 : Int) ≠ 11; decide
        · show (3 : Int) ≠ 11; decide
      | cons f st => rw [fin_whole]; exact ih _ (by have := goes_mu v r m f st; omega) (goes_ne ..)
theorem readL_ne (s : Bs) : (readL s).2 ≠ 11 := by
  unfold readL
  split
  · show (2 : Int) ≠ 11; decide
  · exact fin_ne _ _ (Nat.le_refl _) trivial
theorem tellE_ne (x : JV) : tellE x ≠ 11 := by
  unfold tellE
  split
  · decide
  · split
    · decide
    · split
      · decide
      · split <;> decide
end JP
end Go.Proofs.YtdcmnpeabjallaaGreatDoor
namespace Go.Proofs.YtdcmnpeabjallaaGreatDoor
open Go.RowKit
open JP (JV Bs Lf)
theorem cmpB_lt : ∀ a b : Bs, Lib.compareBytes a b < 0 ↔ a < b
  | [], [] => by simp [Lib.compareBytes]
  | [], _ :: _ => by simp [Lib.compareBytes]
  | _ :: _, [] => by simp [Lib.compareBytes]
  | x :: xs, y :: ys => by
    have ih := cmpB_lt xs ys
    unfold Lib.compareBytes
    rw [List.cons_lt_cons_iff]
    by_cases h1 : x < y
    · simp [h1]
    · rw [if_neg h1]
      by_cases h2 : y < x
      · rw [if_pos h2]
        have : x ≠ y := fun e => by rw [e] at h2; exact UInt8.lt_irrefl _ h2
        simp [h1, this]
      · rw [if_neg h2]
        have : x = y := by
          rw [UInt8.lt_iff_toNat_lt] at h1 h2
          exact UInt8.toNat_inj.1 (by omega)
        simp [this, ih]
def MemB (bk : BookF) (l : List JP.OwnP) : Prop := ∀ k ps, bk k = some ps ↔ (k, ps) ∈ l
theorem fold_mem : ∀ (l : List JP.OwnP) (g : BookF), l.Pairwise (fun a b => a.1 < b.1) → ∀ k ps, (l.foldl (fun g x => updG g x.1 x.2) g) k = some ps ↔ (k, ps) ∈ l ∨ ((∀ x ∈ l, x.1 ≠ k) ∧ g k = some ps)
  | [], g, _, k, ps => by simp
  | x :: r, g, hs, k, ps => by
    obtain ⟨h1, h2⟩ := List.pairwise_cons.1 hs
    rw [List.foldl_cons, fold_mem r _ h2 k ps]
    constructor
    · rintro (h | ⟨h, h3⟩)
      · exact .inl (List.mem_cons_of_mem _ h)
      · unfold updG at h3
        by_cases e : k = x.1
        · rw [if_pos e] at h3
          left
          rw [e, ← Option.some.inj h3]
          exact List.mem_cons_self ..
        · rw [if_neg e] at h3
          refine .inr ⟨fun y hy => ?_, h3⟩
          rcases List.mem_cons.1 hy with rfl | hy
          · exact fun e2 => e e2.symm
          · exact h y hy
    · rintro (h | ⟨h, h3⟩)
      · rcases List.mem_cons.1 h with e | h
        · right
          subst e
          refine ⟨fun y hy e => ?_, by unfold updG; rw [if_pos rfl]⟩
          have := h1 y hy
          rw [e] at this
          exact JP.bs_irrefl _ this
        · exact .inl h
      · refine .inr ⟨fun y hy => h y (List.mem_cons_of_mem _ hy), ?_⟩
        unfold updG
        rw [if_neg fun e => h x (List.mem_cons_self ..) e.symm]
        exact h3
theorem bk_mem {l : List JP.OwnP} (h : l.Pairwise fun a b => a.1 < b.1) : MemB (bkOf l) l := fun k ps => by
  unfold bkOf
  rw [fold_mem l _ h k ps]
  simp
theorem others_memB {bk : BookF} {l : List JP.OwnP} (h : MemB bk l) (m : Bs) (p : Bs → Bool) : othersG bk m p = JP.othersB l m p := by
  unfold othersG JP.othersB
  rw [Bool.eq_iff_iff, @decide_eq_true_iff _ (Classical.propDecidable _), List.any_eq_true]
  constructor
  · rintro ⟨k, ps, h1, h2, h3⟩
    exact ⟨(k, ps), (h k ps).1 h1, by rw [Bool.and_eq_true, bne_iff_ne]; exact ⟨h2, h3⟩⟩
  · rintro ⟨⟨k, ps⟩, h1, h2⟩
    rw [Bool.and_eq_true, bne_iff_ne] at h2
    exact ⟨k, ps, (h k ps).2 h1, h2.1, h2.2⟩
theorem seize_memB {bk : BookF} {l : List JP.OwnP} (h : MemB bk l) (live : JV) (m : Bs) (W : List Leaf) : MemB (seizeG live m W bk) (JP.seizeL live m W l) := fun k ps => by
  unfold seizeG JP.seizeL
  rw [List.mem_map]
  by_cases e : k = m
  · subst e
    simp only [if_true]
    constructor
    · intro h1
      exact ⟨(k, ps), (h k ps).1 h1, by simp⟩
    · rintro ⟨y, hy, h1⟩
      by_cases e2 : y.1 = k
      · rw [if_pos e2] at h1
        rw [h1] at hy
        exact (h k ps).2 hy
      · rw [if_neg e2] at h1
        exact absurd (congrArg Prod.fst h1) e2
  · simp only [if_neg e]
    rw [Option.map_eq_some_iff]
    constructor
    · rintro ⟨a, h1, rfl⟩
      exact ⟨(k, a), (h k a).1 h1, by simp [e]⟩
    · rintro ⟨y, hy, h1⟩
      by_cases e2 : y.1 = m
      · rw [if_pos e2] at h1
        rw [h1] at e2
        exact absurd e2 e
      · rw [if_neg e2] at h1
        obtain ⟨h3, h4⟩ := Prod.mk.inj h1
        exact ⟨y.2, (h k y.2).2 (by rw [← h3]; exact hy), h4⟩
theorem had_memB {bk : BookF} {l : List JP.OwnP} (h : MemB bk l) (hs : l.Pairwise fun a b => a.1 < b.1) (m : Bs) : (bk m).getD [] = JP.had l m := by
  cases hb : bk m with
  | some ps =>
    exact (JP.had_mem hs ((h m ps).1 hb)).symm
  | none =>
    rcases JP.had_cases l m with ⟨y, hy, h1, _⟩ | h1
    · have := (h y.1 y.2).2 hy
      rw [h1, hb] at this; cases this
    · exact h1.symm
theorem drop_memB {bk : BookF} {l : List JP.OwnP} (h : MemB bk l) (live : JV) (m : Bs) (W : List Leaf) (ps : List Bs) : dropG live bk m W ps = JP.dropV live l m W ps := by
  unfold dropG JP.dropV
  congr 1
  funext v p
  rw [others_memB h]
theorem listed_fin {live : JV} {l L : List JP.OwnP} {m : Bs} {W : List Leaf} {bk : BookF} (h : MemB bk l) (hs : l.Pairwise fun a b => a.1 < b.1) (hL : Listed (updG (seizeG live m W bk) m (W.map JP.pathL)) (fun _ => false) L) (hr : RiseO L) : L = JP.finL live l m W := by
  have hLs : L.Pairwise fun a b => a.1 < b.1 := by
    have h1 := hL.one
    unfold List.Nodup at h1
    rw [List.pairwise_map] at h1
    refine List.Pairwise.imp ?_ (h1.and hr)
    rintro a b ⟨h2, h3⟩
    rw [cmpB_lt] at h3
    by_cases h4 : a.1 < b.1
    · exact h4
    · exact absurd (bs_total h4 h3) h2
  refine rise_eq (R := fun a b : JP.OwnP => a.1 < b.1) JP.own_irrefl (fun _ _ _ => JP.bs_trans) hLs (JP.fin_rise hs) fun x => ?_
  rw [hL.mem x, JP.fin_mem]
  have hm := seize_memB h live m W
  constructor
  · rintro ⟨h1, _, h3⟩
    refine ⟨h3, ?_⟩
    unfold updG at h1
    by_cases e : x.1 = m
    · rw [if_pos e] at h1
      exact .inl (Prod.ext e (Option.some.inj h1).symm)
    · rw [if_neg e] at h1
      exact .inr ⟨(hm x.1 x.2).1 h1, e⟩
  · rintro ⟨h3, h1⟩
    refine ⟨?_, rfl, h3⟩
    unfold updG
    rcases h1 with rfl | ⟨h1, e⟩
    · rw [if_pos rfl]
    · rw [if_neg e]
      exact (hm x.1 x.2).2 h1
theorem joinK_inj {a b : List Bs} (ha : a.length ≤ 10) (hb : b.length ≤ 10) (h : joinK a = joinK b) : a = b := by
  have h1 := steps_join a ha
  have h2 := steps_join b hb
  have h3 : joinK a = joinK b := h
  rw [h3, h2] at h1
  exact (Prod.mk.inj h1).2.symm
theorem leaves_is {W : List Leaf} {want : JV} (hp : W.Perm (JP.gat [] want)) (hr : Rise W) (hf : JP.Fit want) (_ : JP.kind want = 6) : JP.IsLeaves W want ∧ ∀ x ∈ W, LeafFit x := by
  have hfit : ∀ x ∈ W, LeafFit x := fun x hx => by
    obtain ⟨r, e1, e2, e3, e4⟩ := JP.leaf_there want [] hf x (hp.mem_iff.1 hx)
    rw [List.nil_append] at e1
    subst e1
    refine ⟨e3, ?_, fun s hs => ?_⟩
    · have := JP.at_deep (JP.atO_atW e2); have := hf.2.2.1; omega
    · have := JP.way_steps x.1 want x.2 (JP.fit_S hf) e2 s hs
      have := hf.2.2.2
      omega
  refine ⟨⟨hp, ?_⟩, hfit⟩
  have hd : W.Pairwise fun x y : Lf => JP.Div x.1 y.1 := (hp.pairwise_iff fun {_ _} h => JP.Div.symm h).2 (JP.gat_div want [] hf)
  have h2 : W.Pairwise fun x y : Lf => x ∈ W ∧ y ∈ W := by
    rw [List.pairwise_iff_getElem]
    intro i j hi hj _
    exact ⟨List.getElem_mem hi, List.getElem_mem hj⟩
  unfold Rise at hr
  refine List.Pairwise.imp ?_ ((hr.and hd).and h2)
  rintro a b ⟨⟨h3, h4⟩, ha, hb⟩
  have fa := hfit a ha
  have fb := hfit b hb
  rw [fa.path, fb.path, cmpB_lt] at h3
  by_cases h5 : JP.pathL a < JP.pathL b
  · exact h5
  · have h6 := bs_total h5 h3
    have h7 := joinK_inj fa.len fb.len h6
    exact absurd (by rw [h7]; exact List.prefix_refl _) h4.1
theorem sets_take (v : JV) {W : List Leaf} {i : Nat} {x : Leaf} (h : W[i]? = some x) : JP.setsV v (W.take (i + 1)) = JP.setV (JP.setsV v (W.take i)) x.1 x.2 := by
  rw [List.take_add_one, h]
  unfold JP.setsV
  show List.foldl _ v (W.take i ++ [x]) = _
  rw [List.foldl_append]; rfl
theorem wayB_le : ∀ r : List Bs, (∀ s ∈ r, s.length ≤ 2000) → JP.wayB r ≤ 4010 * r.length
  | [], _ => Nat.le_refl _
  | s :: r, h => by
    have h1 := wayB_le r fun t ht => h t (List.mem_cons_of_mem _ ht)
    have h2 := h s (List.mem_cons_self ..)
    unfold JP.wayB at h1 ⊢
    rw [List.map_cons, List.sum_cons, List.length_cons]
    omega
theorem sets_bound (W : List Leaf) (hW : ∀ x ∈ W, LeafFit x) : ∀ v : JV, JP.Fit v → ∀ i, i ≤ W.length → JP.wfS (JP.setsV v (W.take i)) ∧ JP.size (JP.setsV v (W.take i)) ≤ 200 + 300 * i ∧ (JP.text (JP.setsV v (W.take i))).length ≤ 2000 + 50000 * i := by
  intro v hv i
  induction i with
  | zero =>
    intro _
    rw [List.take_zero]
    exact ⟨JP.fit_S hv, by have := hv.2.1; show JP.size v ≤ _; omega, by have := hv.2.2.2; show (JP.text v).length ≤ _; omega⟩
  | succ i ih =>
    intro hi
    obtain ⟨h1, h2, h3⟩ := ih (by omega)
    obtain ⟨x, hx⟩ : ∃ x, W[i]? = some x := ⟨W[i]'(by omega), List.getElem?_eq_getElem _⟩
    have fx := hW x (List.mem_of_getElem? hx)
    rw [sets_take v hx]
    have a := JP.set_size x.1 _ x.2 h1
    have b := JP.set_len x.1 _ x.2 h1
    have c := wayB_le x.1 fx.steps
    have f1 := fx.fit.2.1
    have f2 := fx.fit.2.2.2
    have f3 := fx.len
    exact ⟨JP.set_wfS _ _ _ h1 (JP.fit_S fx.fit), by omega, by omega⟩
end Go.Proofs.YtdcmnpeabjallaaGreatDoor
namespace Go.Proofs.YtdcmnpeabjallaaGreatDoor
open Go.RowKit
open JP (JV Bs)
set_option maxRecDepth 100000 in
set_option maxHeartbeats 3200000 in
theorem quote_big (s : ByteArray) (w : World) (hs : s.size ≤ 1099511627776) :
    Calls Tryz.prog 78 #[.string s] w fun e w' => e = .returned (.string (mkB (JP.quote s.data.toList))) ∧ Below w.heap.size w w' := by
  obtain ⟨i0, hi0, hz0, hz1, hz2⟩ := info_parts Tryz.infoU8
  have hel : ∀ i, i ≤ s.size → (34 :: (s.data.toList.take i).flatMap JP.escB).length ≤ 2 * i + 1 := fun i hi => by
    have hone : ∀ c, (JP.escB c).length ≤ 2 := fun c => by unfold JP.escB; split <;> first | (simp; done) | (split <;> first | (simp; done) | (split <;> simp))
    have hgen : ∀ l : Bs, (l.flatMap JP.escB).length ≤ 2 * l.length := fun l => by
      induction l with
      | nil => simp
      | cons c r ih => rw [List.flatMap_cons, List.length_append, List.length_cons]; have := hone c; omega
    have := hgen (s.data.toList.take i)
    rw [List.length_take] at this
    rw [List.length_cons]
    omega
  have Hel := Lib.hid hel
  clear hel
  go_enter Tryz.func78, Tryz.ntmps78
  obtain ⟨w0, hw0⟩ : ∃ w0, w0 = w.alloc (.cells #[.int .u8 34] 5) := ⟨_, rfl⟩
  have h0 : OwnAt RU8 1 w0 w.heap.size 5 (.slice (some ⟨w.heap.size, 0, none⟩) 1 1) [34] := by
    refine ⟨[[.int .u8 34]], rfl, fun cs hcs => by rw [List.mem_singleton.1 hcs]; rfl, ⟨rfl, .inr ⟨w.heap.size, 1, #[.int .u8 34], rfl, Nat.le_refl _, by rw [hw0]; exact heap_alloc_new w _, Nat.le_refl _, by unfold maxLen; decide, rfl, rfl⟩⟩, fun j cs x hcs hx => ?_⟩
    match j, hcs, hx with
    | 0, hcs, hx =>
      simp at hcs hx
      subst hcs
      subst hx
      rfl
  have hb0 : Below w.heap.size w w0 := by rw [hw0]; exact (Below.refl _ _).alloc (Nat.le_refl _) _
  have H0 := Lib.hid h0
  have Hb0 := Lib.hid hb0
  clear h0 hb0
  go_upto_region 2 with fail
  rw [← hw0]
  clear hw0
  go_wp2_with fail
  go_loopg [3, 9] s.size (fun k u3 u9 wr => ∃ i : Nat, i + k = s.size ∧ u9 = .int .i64 (i : Int) ∧ Hid (OwnAt RU8 1 wr w.heap.size 5 u3 (34 :: (s.data.toList.take i).flatMap JP.escB)) ∧ Hid (Below w.heap.size w wr))
  case atStart => exact ⟨0, by omega, rfl, H0, Hb0⟩
  case round =>
    obtain ⟨i, hik, rfl, Hown, Hbel⟩ := hrel
    have hl1 := Hel.out i (by omega)
    have hbs := Hbel.out.size
    obtain ⟨L, HL⟩ : ∃ L, Hid (34 :: (s.data.toList.take i).flatMap JP.escB = L) := ⟨_, Lib.hid rfl⟩
    rw [HL.out] at Hown hl1
    cases gk with
    | zero =>
      obtain rfl : i = s.size := by omega
      have HLq : Hid (L ++ [34] = JP.quote s.data.toList) := Lib.hid (by
        rw [← HL.out, List.take_of_length_le (by simp)]
        rfl)
      obtain ⟨w1, hw1⟩ : ∃ w1, w1 = wr.alloc (.cells #[.int .u8 34] 5) := ⟨_, rfl⟩
      have hb1 : Below wr.heap.size wr w1 := by rw [hw1]; exact (Below.refl _ _).alloc (Nat.le_refl _) _
      have h1 : RowAt RU8 1 w1 (.slice (some ⟨wr.heap.size, 0, none⟩) 1 1) [34] := row_u8 (l := [34]) (by rw [hw1]; exact heap_alloc_new wr _) (by unfold maxLen; simp)
      have Ho1 := Lib.hid (Hown.out.below stays_u8 hb1)
      have H1 := Lib.hid h1
      have Hb1 := Lib.hid (Hbel.out.trans (hb1.mono hbs))
      clear h1 hb1
      go_upto_region 16 with fail
      go_wp2_with (at_builtin; rw [← hw1]; refine wpList_append_ownAt (R := RU8) (k := 1) (e := 5) (B := w.heap.size) (l := L) (m := [34]) _ (by rfl) _ _ _ (by rfl) i0 _ 1 Tryz.underlying143 hi0 hz0 hz1 hz2 rfl (by omega) flat_u8 one_u8 _ (by rfl) Ho1.out _ (by rfl) H1.out (by unfold maxLen; simp; omega) (by simp; omega) (by have := Hb1.out.size; omega) ?_)
      intro v' w2 hv' hg hr _
      rw [← hw1] at hg
      have hb2 : Below w.heap.size w w2 := below_of_grown Hb1.out (by have := Hb1.out.size; omega) hg hr
      have Hb2 := Lib.hid hb2
      have hcv := run_convert_own w2 143 9 5 Tryz.underlying143 Tryz.underlying5 Tryz.underlying9 (own_u8 hv')
      clear hv' hg hr hb2 hw1
      go_wp2_with fail
      go_ret
      exact ⟨by rw [HLq.out]; rfl, Hb2.out⟩
    | succ k =>
      have hil : i < s.size := by omega
      have q1 : (0 : Int) ≤ (i : Int) := by omega
      have q2 : (i : Int) < (s.size : Int) := by omega
      have HS := Lib.hid (esc_snoc hil)
      rw [HL.out] at HS
      by_cases h34 : s[i].toNat = 34
      · have he : s[i] = 34 := u8_eq h34
        have hesc : JP.escB s[i] = [92, 34] := by rw [he]; rfl
        have HE := Lib.hid hesc
        clear he hesc
        have HS2 : Hid (34 :: (s.data.toList.take (i + 1)).flatMap JP.escB = L ++ [92, 34]) := Lib.hid (by rw [HS.out, HE.out])
        clear HS
        go_wp2_with (at_builtin; refine wpList_append_ownAt (R := RU8) (k := 1) (e := 5) (B := w.heap.size) (l := L) (m := [92, 34]) _ (by rfl) _ _ _ (by rfl) i0 _ 1 Tryz.underlying143 hi0 hz0 hz1 hz2 rfl (by omega) flat_u8 one_u8 _ (by rfl) (Hown.out.alloc stays_u8 _) (.slice (some ⟨wr.heap.size, 0, none⟩) 2 2) (by rfl) (row_u8 (l := [92, 34]) (heap_alloc_new wr _) (by unfold maxLen; simp)) (by unfold maxLen; simp; omega) (by simp; omega) (by simp; omega) ?_)
        intro v' w2 hv' hg hr _
        have hb2 : Below w.heap.size w w2 := below_of_grown (Hbel.out.alloc hbs _) (by simp; omega) hg hr
        have Hb2 := Lib.hid hb2
        have Hv : Hid (OwnAt RU8 1 w2 w.heap.size 5 v' (34 :: (s.data.toList.take (i + 1)).flatMap JP.escB)) := Lib.hid (by rw [HS2.out]; exact hv')
        clear hv' hg hr hb2 HS2
        go_wp2_with fail
        go_roundg k
        case measure => omega
        case rel => exact ⟨i + 1, by omega, by go_num, Hv, Hb2⟩
      · have n34 : ((s[i].toNat : Int) == 34) = false := by rw [beq_eq_false_iff_ne]; omega
        by_cases h92 : s[i].toNat = 92
        · have he : s[i] = 92 := u8_eq h92
          have hesc : JP.escB s[i] = [92, 92] := by rw [he]; rfl
          have HE := Lib.hid hesc
          clear he hesc n34 h34
          have HS2 : Hid (34 :: (s.data.toList.take (i + 1)).flatMap JP.escB = L ++ [92, 92]) := Lib.hid (by rw [HS.out, HE.out])
          clear HS
          go_wp2_with (at_builtin; refine wpList_append_ownAt (R := RU8) (k := 1) (e := 5) (B := w.heap.size) (l := L) (m := [92, 92]) _ (by rfl) _ _ _ (by rfl) i0 _ 1 Tryz.underlying143 hi0 hz0 hz1 hz2 rfl (by omega) flat_u8 one_u8 _ (by rfl) (Hown.out.alloc stays_u8 _) (.slice (some ⟨wr.heap.size, 0, none⟩) 2 2) (by rfl) (row_u8 (l := [92, 92]) (heap_alloc_new wr _) (by unfold maxLen; simp)) (by unfold maxLen; simp; omega) (by simp; omega) (by simp; omega) ?_)
          intro v' w2 hv' hg hr _
          have hb2 : Below w.heap.size w w2 := below_of_grown (Hbel.out.alloc hbs _) (by simp; omega) hg hr
          have Hb2 := Lib.hid hb2
          have Hv : Hid (OwnAt RU8 1 w2 w.heap.size 5 v' (34 :: (s.data.toList.take (i + 1)).flatMap JP.escB)) := Lib.hid (by rw [HS2.out]; exact hv')
          clear hv' hg hr hb2 HS2
          go_wp2_with fail
          go_roundg k
          case measure => omega
          case rel => exact ⟨i + 1, by omega, by go_num, Hv, Hb2⟩
        · have n92 : ((s[i].toNat : Int) == 92) = false := by rw [beq_eq_false_iff_ne]; omega
          by_cases h10 : s[i].toNat = 10
          · have he : s[i] = 10 := u8_eq h10
            have hesc : JP.escB s[i] = [92, 110] := by rw [he]; rfl
            have HE := Lib.hid hesc
            clear he hesc n34 h34 n92 h92
            have HS2 : Hid (34 :: (s.data.toList.take (i + 1)).flatMap JP.escB = L ++ [92, 110]) := Lib.hid (by rw [HS.out, HE.out])
            clear HS
            go_wp2_with (at_builtin; refine wpList_append_ownAt (R := RU8) (k := 1) (e := 5) (B := w.heap.size) (l := L) (m := [92, 110]) _ (by rfl) _ _ _ (by rfl) i0 _ 1 Tryz.underlying143 hi0 hz0 hz1 hz2 rfl (by omega) flat_u8 one_u8 _ (by rfl) (Hown.out.alloc stays_u8 _) (.slice (some ⟨wr.heap.size, 0, none⟩) 2 2) (by rfl) (row_u8 (l := [92, 110]) (heap_alloc_new wr _) (by unfold maxLen; simp)) (by unfold maxLen; simp; omega) (by simp; omega) (by simp; omega) ?_)
            intro v' w2 hv' hg hr _
            have hb2 : Below w.heap.size w w2 := below_of_grown (Hbel.out.alloc hbs _) (by simp; omega) hg hr
            have Hb2 := Lib.hid hb2
            have Hv : Hid (OwnAt RU8 1 w2 w.heap.size 5 v' (34 :: (s.data.toList.take (i + 1)).flatMap JP.escB)) := Lib.hid (by rw [HS2.out]; exact hv')
            clear hv' hg hr hb2 HS2
            go_wp2_with fail
            go_roundg k
            case measure => omega
            case rel => exact ⟨i + 1, by omega, by go_num, Hv, Hb2⟩
          · have n10 : ((s[i].toNat : Int) == 10) = false := by rw [beq_eq_false_iff_ne]; omega
            by_cases h9 : s[i].toNat = 9
            · have he : s[i] = 9 := u8_eq h9
              have hesc : JP.escB s[i] = [92, 116] := by rw [he]; rfl
              have HE := Lib.hid hesc
              clear he hesc n34 h34 n92 h92 n10 h10
              have HS2 : Hid (34 :: (s.data.toList.take (i + 1)).flatMap JP.escB = L ++ [92, 116]) := Lib.hid (by rw [HS.out, HE.out])
              clear HS
              go_wp2_with (at_builtin; refine wpList_append_ownAt (R := RU8) (k := 1) (e := 5) (B := w.heap.size) (l := L) (m := [92, 116]) _ (by rfl) _ _ _ (by rfl) i0 _ 1 Tryz.underlying143 hi0 hz0 hz1 hz2 rfl (by omega) flat_u8 one_u8 _ (by rfl) (Hown.out.alloc stays_u8 _) (.slice (some ⟨wr.heap.size, 0, none⟩) 2 2) (by rfl) (row_u8 (l := [92, 116]) (heap_alloc_new wr _) (by unfold maxLen; simp)) (by unfold maxLen; simp; omega) (by simp; omega) (by simp; omega) ?_)
              intro v' w2 hv' hg hr _
              have hb2 : Below w.heap.size w w2 := below_of_grown (Hbel.out.alloc hbs _) (by simp; omega) hg hr
              have Hb2 := Lib.hid hb2
              have Hv : Hid (OwnAt RU8 1 w2 w.heap.size 5 v' (34 :: (s.data.toList.take (i + 1)).flatMap JP.escB)) := Lib.hid (by rw [HS2.out]; exact hv')
              clear hv' hg hr hb2 HS2
              go_wp2_with fail
              go_roundg k
              case measure => omega
              case rel => exact ⟨i + 1, by omega, by go_num, Hv, Hb2⟩
            · have n9 : ((s[i].toNat : Int) == 9) = false := by rw [beq_eq_false_iff_ne]; omega
              have hesc : JP.escB s[i] = [s[i]] := by
                have ne : ∀ (c : UInt8), s[i].toNat ≠ c.toNat → s[i] ≠ c := fun c h e => h (by rw [e])
                unfold JP.escB
                rw [if_neg (fun h => h.elim (ne 34 h34) (ne 92 h92)), if_neg (ne 10 h10), if_neg (ne 9 h9)]
              have HE := Lib.hid hesc
              clear hesc h34 h92 h10 h9
              have HS2 : Hid (34 :: (s.data.toList.take (i + 1)).flatMap JP.escB = L ++ [s[i]]) := Lib.hid (by rw [HS.out, HE.out])
              clear HS
              go_wp2_with (at_builtin; refine wpList_append_ownAt (R := RU8) (k := 1) (e := 5) (B := w.heap.size) (l := L) (m := [s[i]]) _ (by rfl) _ _ _ (by rfl) i0 _ 1 Tryz.underlying143 hi0 hz0 hz1 hz2 rfl (by omega) flat_u8 one_u8 _ (by rfl) (Hown.out.alloc stays_u8 _) (.slice (some ⟨wr.heap.size, 0, none⟩) 1 1) (by rfl) (row_u8 (l := [s[i]]) (heap_alloc_new wr _) (by unfold maxLen; simp)) (by unfold maxLen; simp; omega) (by simp; omega) (by simp; omega) ?_)
              intro v' w2 hv' hg hr _
              have hb2 : Below w.heap.size w w2 := below_of_grown (Hbel.out.alloc hbs _) (by simp; omega) hg hr
              have Hb2 := Lib.hid hb2
              have Hv : Hid (OwnAt RU8 1 w2 w.heap.size 5 v' (34 :: (s.data.toList.take (i + 1)).flatMap JP.escB)) := Lib.hid (by rw [HS2.out]; exact hv')
              clear hv' hg hr hb2 HS2
              go_wp2_with fail
              go_roundg k
              case measure => omega
              case rel => exact ⟨i + 1, by omega, by go_num, Hv, Hb2⟩
set_option maxRecDepth 100000 in
set_option maxHeartbeats 3200000 in
theorem stands_big (s : ByteArray) (w : World) (hs : s.size ≤ 1099511627776) :
    Calls Tryz.prog 107 #[.string s] w fun e w' => e = .returned (.bool (s.data.toList.all JP.stand)) ∧ w = w' := by
  obtain ⟨R, hR⟩ : ∃ R, s.data.toList.all JP.stand = R := ⟨_, rfl⟩
  rw [hR]
  have HR := Lib.hid hR
  clear hR
  go_enter Tryz.func107, Tryz.ntmps107
  go_wp2_with fail
  go_loopg [7] s.size (fun k u7 wx => ∃ i : Nat, i + k = s.size ∧ u7 = .int .i64 (i : Int) ∧ Hid ((s.data.toList.take i).all JP.stand = true) ∧ w = wx)
  case atStart => exact ⟨0, by omega, rfl, Lib.hid (by rw [List.take_zero]; rfl), rfl⟩
  case round =>
    obtain ⟨i, hig, rfl, HA, rfl⟩ := hrel
    cases gk with
    | zero =>
      have q1 : ¬ (i : Int) < (s.size : Int) := by omega
      have Hall : Hid (s.data.toList.all JP.stand = true) := Lib.hid (by have h := HA.out; rwa [List.take_of_length_le (by rw [list_size]; omega)] at h)
      clear HA hig
      go_wp2_with fail
      go_ret
      exact ⟨ret_bool2 (Hall.out.symm.trans HR.out), rfl⟩
    | succ k =>
      have hil : i < s.size := by omega
      have q0 : decide (i < s.size) = true := decide_eq_true hil
      have q1 : (i : Int) < (s.size : Int) := by omega
      have q2 : (0 : Int) ≤ (i : Int) := by omega
      have hwr : IntKind.i64.wrap ((i : Int) + 1) = (i : Int) + 1 := IntWalk.i64_in _ (by omega)
      have hsn := stand_nat s[i]
      cases hst : JP.stand s[i] with
      | false =>
        rw [hst] at hsn
        replace hsn := hsn.symm
        simp only [Bool.or_eq_false_iff, decide_eq_false_iff_not] at hsn
        obtain ⟨⟨m1, m2⟩, m3⟩ := hsn
        have e10 : ((s[i].toNat : Int) != 10) = true := by rw [bne_iff_ne]; omega
        have e9 : ((s[i].toNat : Int) != 9) = true := by rw [bne_iff_ne]; omega
        have Hno := Lib.hid (not_all hil hst)
        clear hst HA hig
        by_cases l1 : s[i].toNat < 32
        · have p1 : (s[i].toNat : Int) < 32 := by omega
          have p2 : decide ((s[i].toNat : Int) < 32) = true := decide_eq_true p1
          clear m1 m2 m3
          go_wp2_with fail
          go_ret
          exact ⟨ret_bool2 (Hno.out.symm.trans HR.out), rfl⟩
        · have p1 : ¬ (s[i].toNat : Int) < 32 := by omega
          have p2 : decide ((s[i].toNat : Int) < 32) = false := decide_eq_false p1
          have p3 : (126 : Int) < (s[i].toNat : Int) := by omega
          have p4 : decide ((126 : Int) < (s[i].toNat : Int)) = true := decide_eq_true p3
          clear m1 m2 m3
          go_wp2_with fail
          go_ret
          exact ⟨ret_bool2 (Hno.out.symm.trans HR.out), rfl⟩
      | true =>
        rw [hst] at hsn
        replace hsn := hsn.symm
        simp only [Bool.or_eq_true, decide_eq_true_eq] at hsn
        have HA2 := Lib.hid (all_take hil HA.out hst)
        clear hst HA
        rcases hsn with (⟨m1, m2⟩ | m1) | m1
        · have p1 : ¬ (s[i].toNat : Int) < 32 := by omega
          have p2 : decide ((s[i].toNat : Int) < 32) = false := decide_eq_false p1
          have p3 : ¬ (126 : Int) < (s[i].toNat : Int) := by omega
          have p4 : decide ((126 : Int) < (s[i].toNat : Int)) = false := decide_eq_false p3
          clear m1 m2
          go_wp2_with fail
          go_roundg k
          case measure => omega
          case rel => exact ⟨i + 1, by omega, by go_num, HA2, rfl⟩
        · go_wp2_with fail
          go_roundg k
          case measure => omega
          case rel => exact ⟨i + 1, by omega, by go_num, HA2, rfl⟩
        · go_wp2_with fail
          go_roundg k
          case measure => omega
          case rel => exact ⟨i + 1, by omega, by go_num, HA2, rfl⟩
set_option maxRecDepth 100000 in
set_option maxHeartbeats 6400000 in
theorem text_big : ∀ (n : Nat) (v : Value) (x : JV) (w : World), JvAt n [] w v x → (JP.text x).length ≤ 1073741824 → TabOK w →
    Calls Tryz.prog 43 #[v] w fun e w' => e = .returned (.string (mkB (JP.text x))) ∧ Below w.heap.size w w' := by
  intro n
  induction n with
  | zero => intro v x w h; cases h
  | succ n ih =>
    intro v x w h hlen htab
    have IH := Lib.hid ih
    have Htab := Lib.hid htab
    clear ih htab
    obtain ⟨i0, hi0, hz0, hz1, hz2⟩ := info_parts Tryz.infoStr
    cases x with
    | nul =>
      obtain rfl : v = .nilIface := h
      obtain ⟨g1, g2, g3, g4, g5⟩ := as_nil
      clear hlen
      go_enter Tryz.func43, Tryz.ntmps43
      go_wp2_with fail
      go_ret
      exact ⟨rfl, Below.refl _ _⟩
    | bool b =>
      obtain rfl : v = .iface 4 (.bool b) := h
      obtain ⟨g1, g2, g3, g4, g5⟩ := as_bool (.bool b)
      clear hlen
      go_enter Tryz.func43, Tryz.ntmps43
      go_wp2_with fail
      refine (Tryz.strconv_FormatBool b w).mono ?_
      rintro E w1 ⟨rfl, rfl⟩
      go_wp2_with fail
      go_ret
      exact ⟨ret_mk (formatBool_text b), Below.refl _ _⟩
    | num k =>
      obtain ⟨rfl, k0, k1⟩ := h
      obtain ⟨g1, g2, g3, g4, g5⟩ := as_int64 (.int .i64 k)
      clear hlen
      go_enter Tryz.func43, Tryz.ntmps43
      go_wp2_with fail
      refine (Tryz.strconv_FormatInt_10 k k0 k1 w Htab.out).mono ?_
      rintro E w1 ⟨rfl, q, os, hw1⟩
      have hb1 : Below w.heap.size w w1 := by rw [hw1]; exact Lib.below_grow _ _ (Nat.le_refl _) _ _
      have Hb1 := Lib.hid hb1
      clear hw1 hb1
      go_wp2_with fail
      go_ret
      exact ⟨ret_mk (by rw [JP.text]), Hb1.out⟩
    | str s =>
      obtain rfl : v = .iface 9 (.string (mkB s)) := h
      obtain ⟨g1, g2, g3, g4, g5⟩ := as_string (.string (mkB s))
      have hs : (mkB s).size ≤ 1073741824 := by
        rw [mkB_size]
        rw [JP.text] at hlen
        have := quote_size s
        omega
      have HQ := Lib.hid (quote_big (mkB s) w (Nat.le_trans hs (by decide)))
      clear hlen hs
      go_enter Tryz.func43, Tryz.ntmps43
      go_wp2_with fail
      refine HQ.out.mono ?_
      rintro E w1 ⟨rfl, hb1⟩
      have Hb1 := Lib.hid hb1
      clear hb1
      go_wp2_with fail
      go_ret
      exact ⟨ret_mk (by rw [JP.text, mkB_list]), Hb1.out⟩
    | list l =>
      obtain ⟨u, rfl, hrow, _⟩ := h
      obtain ⟨a, c, rfl, _, _⟩ := hrow.len
      obtain ⟨g1, g2, g3, g4, g5⟩ := as_list (.slice a l.length c)
      have h1 := lenL_text l
      have h2 := lenL_len l
      have hll : l.length ≤ 1073741824 := by omega
      have Hlen : Hid (JP.lenL l ≤ 1073741824) := Lib.hid (by omega)
      have Hrow := Lib.hid hrow
      have hjl : (Lib.join (JP.textL l) [44]).length ≤ 1073741824 := by
        have : (JP.text (.list l)).length = (Lib.join (JP.textL l) [44]).length + 2 := by rw [JP.text]; simp
        omega
      have Hjl := Lib.hid hjl
      have HT : Hid (JP.text (.list l) = 91 :: (Lib.join (JP.textL l) [44] ++ [93])) := Lib.hid (by rw [JP.text])
      clear hrow hlen h1 h2 hjl
      go_enter Tryz.func43, Tryz.ntmps43
      go_wp2_with fail
      go_loopg [7, 35] l.length (fun k u7 u35 wr => ∃ i : Nat, i + k = l.length ∧ u35 = .int .i64 (i : Int) ∧ Hid (OwnAt RString 1 wr w.heap.size 9 u7 ((l.take i).map fun x => mkB (JP.text x))) ∧ Hid (Below w.heap.size w wr))
      case atStart => exact ⟨0, by omega, rfl, Lib.hid (OwnAt.nil _), Lib.hid (Below.refl _ _)⟩
      case round =>
        obtain ⟨i, hik, rfl, Hown, Hbel⟩ := hrel
        have hsr := Hbel.out.size
        cases gk with
        | zero =>
          obtain rfl : i = l.length := by omega
          have hown := Hown.out
          rw [List.take_of_length_le (Nat.le_refl _)] at hown
          have HJ := Lib.hid (joinStrs_any hown.row (by rw [List.length_map]; omega) (by rw [mk_map, ← textL_map]; have := Hjl.out; omega))
          obtain ⟨J, HJe⟩ : ∃ J : Bs, Hid (Lib.join (JP.textL l) [44] = J) := ⟨_, Lib.hid rfl⟩
          rw [mk_map, ← textL_map, HJe.out] at HJ
          have hJs : (mkB J).size ≤ 1073741824 := by rw [mkB_size, ← HJe.out]; exact Hjl.out
          rw [HJe.out] at HT
          have q1 : ¬ 9223372036854775807 < 1 + (mkB J).size := by omega
          have q2 : ¬ 9223372036854775807 < 1 + (mkB J).size + 1 := by omega
          clear hown hik hsr
          go_wp2_with fail
          refine HJ.out.mono ?_
          rintro E w1 ⟨rfl, hb1⟩
          have Hb1 := Lib.hid (Hbel.out.trans (hb1.mono Hbel.out.size))
          clear hb1
          go_wp2_with fail
          go_ret
          exact ⟨by rw [HT.out, ← wrap_mk]; rfl, Hb1.out⟩
        | succ k =>
          have hil : i < l.length := by omega
          obtain ⟨x, hx⟩ : ∃ x, l[i]? = some x := ⟨l[i]'(by omega), List.getElem?_eq_getElem _⟩
          obtain ⟨b, o, c', hv, _, _, hbs, hcell⟩ := Hrow.out.form (by omega) (by omega)
          injection hv with u1 u2 u3
          subst u1
          clear u2 u3
          obtain ⟨ds, _, hcc, vx, rfl, hvx⟩ := hcell i x hx
          have e0 : wr.cell? ⟨b, o + i, none⟩ = some vx := (Hbel.out.cell (p := ⟨b, _, none⟩) hbs).trans (by simpa using hcc 0 _ rfl)
          have q1 : (0 : Int) ≤ (i : Int) := by omega
          have q2 : (i : Int) < (l.length : Int) := by omega
          have hmem := lenL_mem (List.mem_of_getElem? hx)
          have HC := Lib.hid (IH.out vx x wr (hvx.below Hbel.out) (by have := Hlen.out; omega) (Htab.out.below Hbel.out))
          have Htk : Hid ((l.take (i + 1)).map (fun x => mkB (JP.text x)) = (l.take i).map (fun x => mkB (JP.text x)) ++ [mkB (JP.text x)]) := Lib.hid (by rw [List.take_add_one, hx, List.map_append]; rfl)
          have hol : ((l.take i).map fun x => mkB (JP.text x)).length ≤ 1073741824 := by rw [List.length_map, List.length_take]; omega
          obtain ⟨O, HO⟩ : ∃ O, Hid ((l.take i).map (fun x => mkB (JP.text x)) = O) := ⟨_, Lib.hid rfl⟩
          obtain ⟨t, Ht⟩ : ∃ t, Hid (mkB (JP.text x) = t) := ⟨_, Lib.hid rfl⟩
          rw [HO.out, Ht.out] at Htk
          rw [HO.out] at Hown hol
          rw [Ht.out] at HC
          clear hcell hcc hx hvx hmem
          go_wp2_with fail
          refine HC.out.mono ?_
          rintro E w1 ⟨rfl, hb1⟩
          have Ho1 := Lib.hid (Hown.out.below stays_string hb1)
          have Hb1 := Lib.hid (Hbel.out.trans (hb1.mono Hbel.out.size))
          have hs1 := Hb1.out.size
          clear hb1 e0
          go_wp2_with (at_builtin; refine wpList_append_ownAt (R := RString) (k := 1) (e := 9) (B := w.heap.size) (l := O) (m := [t]) _ (by rfl) _ _ _ (by rfl) i0 _ 16 Tryz.underlying28 hi0 hz0 hz1 hz2 rfl (by omega) flat_string one_string _ (by rfl) (Ho1.out.alloc stays_string _) (.slice (some ⟨w1.heap.size, 0, none⟩) 1 1) (by rfl) (RowAt.one (R := RString) (k := 1) (cs := #[.string t]) (heap_alloc_new w1 _) rfl rfl) (by unfold maxLen; simp; omega) (by simp; omega) (by simp; omega) ?_)
          intro v' w2 hv' hg hr _
          have hb2 : Below w.heap.size w w2 := below_of_grown (Hb1.out.alloc hs1 _) (by simp; omega) hg hr
          have Hb2 := Lib.hid hb2
          have Hv : Hid (OwnAt RString 1 w2 w.heap.size 9 v' ((l.take (i + 1)).map fun x => mkB (JP.text x))) := Lib.hid (by rw [Htk.out]; exact hv')
          clear hv' hg hr hb2
          go_wp2_with fail
          go_roundg k
          case measure => omega
          case rel => exact ⟨i + 1, by omega, by go_num, Hv, Hb2⟩
    | obj l =>
      obtain ⟨q, rfl, _, _, vn, vv, cn, cv, hrn, _, hrv, _⟩ := h
      obtain ⟨an, c1, hu1, _, _⟩ := hrn.len
      obtain ⟨av, c2, hu2, _, _⟩ := hrv.len
      rw [List.length_map] at hu1 hu2
      subst hu1
      subst hu2
      obtain ⟨g1, g2, g3, g4, g5⟩ := as_obj (.pointer (some ⟨q, 0, none⟩))
      have h1 := lenF_text l
      have h2 := lenF_len l
      have hll : l.length ≤ 1073741824 := by omega
      have Hlen : Hid (JP.lenF l ≤ 1073741824) := Lib.hid (by omega)
      have Hrn := Lib.hid hrn
      have Hrv := Lib.hid hrv
      have hjl : (Lib.join (JP.textF l) [44]).length ≤ 1073741824 := by
        have : (JP.text (.obj l)).length = (Lib.join (JP.textF l) [44]).length + 2 := by rw [JP.text]; simp
        omega
      have Hjl := Lib.hid hjl
      have HT : Hid (JP.text (.obj l) = 123 :: (Lib.join (JP.textF l) [44] ++ [125])) := Lib.hid (by rw [JP.text])
      have hqw : q < w.heap.size := World.block_lt_of_cell? w ⟨q, 0, none⟩ cn
      have Cv := Lib.hid cv
      clear hrn hrv hlen h1 h2 hjl cv
      go_enter Tryz.func43, Tryz.ntmps43
      go_wp2_with fail
      clear cn
      go_loopg [11, 57] l.length (fun k u11 u57 wr => ∃ i : Nat, i + k = l.length ∧ u57 = .int .i64 (i : Int) ∧ Hid (OwnAt RString 1 wr w.heap.size 9 u11 ((l.take i).map fun x => mkB (JP.quote x.1 ++ 58 :: JP.text x.2))) ∧ Hid (Below w.heap.size w wr))
      case atStart => exact ⟨0, by omega, rfl, Lib.hid (OwnAt.nil _), Lib.hid (Below.refl _ _)⟩
      case round =>
        obtain ⟨i, hik, rfl, Hown, Hbel⟩ := hrel
        have hsr := Hbel.out.size
        cases gk with
        | zero =>
          obtain rfl : i = l.length := by omega
          have hown := Hown.out
          rw [List.take_of_length_le (Nat.le_refl _)] at hown
          have HJ := Lib.hid (joinStrs_any hown.row (by rw [List.length_map]; omega) (by rw [mk_map, ← textF_map]; have := Hjl.out; omega))
          obtain ⟨J, HJe⟩ : ∃ J : Bs, Hid (Lib.join (JP.textF l) [44] = J) := ⟨_, Lib.hid rfl⟩
          rw [mk_map, ← textF_map, HJe.out] at HJ
          have hJs : (mkB J).size ≤ 1073741824 := by rw [mkB_size, ← HJe.out]; exact Hjl.out
          rw [HJe.out] at HT
          have q1 : ¬ 9223372036854775807 < 1 + (mkB J).size := by omega
          have q2 : ¬ 9223372036854775807 < 1 + (mkB J).size + 1 := by omega
          clear hown hik hsr
          go_wp2_with fail
          refine HJ.out.mono ?_
          rintro E w1 ⟨rfl, hb1⟩
          have Hb1 := Lib.hid (Hbel.out.trans (hb1.mono Hbel.out.size))
          clear hb1
          go_wp2_with fail
          go_ret
          exact ⟨by rw [HT.out, ← wrap_mk]; rfl, Hb1.out⟩
        | succ k =>
          have hil : i < l.length := by omega
          obtain ⟨y, hx⟩ : ∃ y, l[i]? = some y := ⟨l[i]'(by omega), List.getElem?_eq_getElem _⟩
          have hxn : (l.map fun x => mkB x.1)[i]? = some (mkB y.1) := by rw [List.getElem?_map, hx]; rfl
          have hxv : (l.map (·.2))[i]? = some y.2 := by rw [List.getElem?_map, hx]; rfl
          obtain ⟨b, o, c', hv, _, _, hbs, hcell⟩ := Hrn.out.form (by rw [List.length_map]; omega) (by omega)
          injection hv with u1 u2 u3
          subst u1
          clear u2 u3
          obtain ⟨b2, o2, c2', hv2, _, _, hbs2, hcell2⟩ := Hrv.out.form (by rw [List.length_map]; omega) (by omega)
          injection hv2 with u1 u2 u3
          subst u1
          clear u2 u3
          obtain ⟨ds, _, hcc, rfl⟩ := hcell i _ hxn
          obtain ⟨es, _, hdd, vx, rfl, hvx⟩ := hcell2 i _ hxv
          have e0 : wr.cell? ⟨b, o + i, none⟩ = some (.string (mkB y.1)) := (Hbel.out.cell (p := ⟨b, _, none⟩) hbs).trans (by simpa using hcc 0 _ rfl)
          have f0 : wr.cell? ⟨b2, o2 + i, none⟩ = some vx := (Hbel.out.cell (p := ⟨b2, _, none⟩) hbs2).trans (by simpa using hdd 0 _ rfl)
          have p1 : wr.cell? ⟨q, 1, none⟩ = some (.slice (some ⟨b2, o2, none⟩) l.length c2) := (Hbel.out.cell (p := ⟨q, 1, none⟩) hqw).trans Cv.out
          have hqr : q < wr.heap.size := Nat.lt_of_lt_of_le hqw hsr
          have hbr2 : b2 < wr.heap.size := Nat.lt_of_lt_of_le hbs2 hsr
          have q1 : (0 : Int) ≤ (i : Int) := by omega
          have q2 : (i : Int) < (l.length : Int) := by omega
          have hmem := lenF_mem (List.mem_of_getElem? hx)
          have hl0 := Hlen.out
          have hns : (mkB y.1).size ≤ 1073741824 := by rw [mkB_size]; have := quote_size y.1; omega
          obtain ⟨Q, HQ⟩ : ∃ Q : Bs, Hid (JP.quote y.1 = Q) := ⟨_, Lib.hid rfl⟩
          obtain ⟨X, HX⟩ : ∃ X : Bs, Hid (JP.text y.2 = X) := ⟨_, Lib.hid rfl⟩
          have HC1 : Hid (∀ w', Below wr.heap.size wr w' → Calls Tryz.prog 78 #[.string (mkB y.1)] w' fun e w'' => e = .returned (.string (mkB Q)) ∧ Below w'.heap.size w' w'') := Lib.hid fun w' hb' => by
            refine (quote_big (mkB y.1) w' (Nat.le_trans hns (by decide))).mono ?_
            rintro E w'' ⟨rfl, hb''⟩
            exact ⟨by rw [mkB_list, HQ.out], hb''⟩
          have HC2 : Hid (∀ w', Below wr.heap.size wr w' → Calls Tryz.prog 43 #[vx] w' fun e w'' => e = .returned (.string (mkB X)) ∧ Below w'.heap.size w' w'') := Lib.hid fun w' hb' => by
            have hbw := Hbel.out.trans (hb'.mono hsr)
            refine (IH.out vx y.2 w' (hvx.below hbw) (by omega) (Htab.out.below hbw)).mono ?_
            rintro E w'' ⟨rfl, hb''⟩
            exact ⟨by rw [HX.out], hb''⟩
          have Htk : Hid ((l.take (i + 1)).map (fun x => mkB (JP.quote x.1 ++ 58 :: JP.text x.2)) = (l.take i).map (fun x => mkB (JP.quote x.1 ++ 58 :: JP.text x.2)) ++ [mkB (Q ++ 58 :: X)]) := Lib.hid (by rw [List.take_add_one, hx, List.map_append, ← HQ.out, ← HX.out]; rfl)
          have hol : ((l.take i).map fun x => mkB (JP.quote x.1 ++ 58 :: JP.text x.2)).length ≤ 1073741824 := by rw [List.length_map, List.length_take]; omega
          have hQs : (mkB Q).size ≤ 1073741824 := by rw [mkB_size, ← HQ.out]; omega
          have hXs : (mkB X).size ≤ 1073741824 := by rw [mkB_size, ← HX.out]; omega
          have q4 : ¬ 9223372036854775807 < (mkB Q).size + 1 := by omega
          have q5 : ¬ 9223372036854775807 < (mkB Q).size + 1 + (mkB X).size := by omega
          obtain ⟨O, HO⟩ : ∃ O, Hid ((l.take i).map (fun x => mkB (JP.quote x.1 ++ 58 :: JP.text x.2)) = O) := ⟨_, Lib.hid rfl⟩
          obtain ⟨t, Ht⟩ : ∃ t, Hid (mkB (Q ++ 58 :: X) = t) := ⟨_, Lib.hid rfl⟩
          have Ht2 : Hid ((mkB Q ++ ⟨#[58]⟩ ++ mkB X : ByteArray) = t) := Lib.hid (by rw [colon_mk]; exact Ht.out)
          rw [HO.out, Ht.out] at Htk
          rw [HO.out] at Hown hol
          clear hcell hcc hcell2 hdd hx hxn hxv hvx hmem hl0
          go_upto_region 26 with fail
          refine wp_region_relB 14 (fun ii U w' => match ii with
            | 0 => U 0 = u11
            | 1 => U 1 = .string (mkB y.1)
            | 2 => U 2 = .string (mkB Q)
            | 3 => U 3 = .string (mkB Q ++ ⟨#[58]⟩)
            | 4 => U 4 = .pointer (some ⟨q, 0, none⟩)
            | 5 => U 5 = .pointer (some ⟨q, 0, none⟩)
            | 6 => U 6 = .pointer (some ⟨q, 1, none⟩)
            | 7 => U 7 = .slice (some ⟨b2, o2, none⟩) l.length c2
            | 8 => U 8 = .int .i64 (i : Int)
            | 9 => U 9 = .pointer (some ⟨b2, o2 + i, none⟩)
            | 10 => U 10 = vx
            | 11 => U 11 = .string (mkB X)
            | 12 => U 12 = .string t
            | 13 => ∃ g, U 13 = .slice (some ⟨g, 0, none⟩) 1 1 ∧ w'.heap[g]? = some (.cells #[.string t] 9 (0, 0))
            | _ => True)
            (fun | 2 => [1] | 3 => [2] | 5 => [4] | 6 => [5] | 7 => [6] | 9 => [7, 8] | 10 => [9] | 11 => [10] | 12 => [3, 11] | 13 => [12] | _ => []) (by kernel_rfl) (by kernel_rfl) ?_ ⟨?_, ?_, ?_, ?_, ?_, ?_, ?_, ?_, ?_, ?_, ?_, ?_, ?_, ?_, trivial⟩ ?_
          · intro j u w1 w2 hb h
            match j, h with
            | 0, h => exact h
            | 1, h => exact h
            | 2, h => exact h
            | 3, h => exact h
            | 4, h => exact h
            | 5, h => exact h
            | 6, h => exact h
            | 7, h => exact h
            | 8, h => exact h
            | 9, h => exact h
            | 10, h => exact h
            | 11, h => exact h
            | 12, h => exact h
            | 13, h => exact (by obtain ⟨g, h1, h2⟩ := h; exact ⟨g, h1, below_block hb h2⟩)
            | _ + 14, h => trivial
          · intro x w' hb hd
            have hbr : Below wr.heap.size wr w' := (below_drew1 wr).trans hb
            refine owes_here u11 (by rfl) ?_ rfl
            simp only [putAll, List.take_succ_cons, List.take_zero]
            go_simp
          · intro x w' hb hd
            have hbr : Below wr.heap.size wr w' := (below_drew1 wr).trans hb
            refine owes_here (.string (mkB y.1)) (by rfl) ?_ rfl
            simp only [putAll, List.take_succ_cons, List.take_zero]
            go_simp
          · intro x w' hb hd
            have hbr : Below wr.heap.size wr w' := (below_drew1 wr).trans hb
            have k1 : x 1 = .string (mkB y.1) := hd 1 (by simp)
            refine owes_call 78 #[.string (mkB y.1)] (by rfl) ?_ ((HC1.out w' hbr).mono fun e w2 h => ⟨_, h.1, rfl, h.2⟩)
            simp only [putAll, List.take_succ_cons, List.take_zero]
            go_simp
          · intro x w' hb hd
            have hbr : Below wr.heap.size wr w' := (below_drew1 wr).trans hb
            have k1 : x 2 = .string (mkB Q) := hd 2 (by simp)
            refine owes_here (.string (mkB Q ++ ⟨#[58]⟩)) (by rfl) ?_ rfl
            simp only [putAll, List.take_succ_cons, List.take_zero]
            go_simp
          · intro x w' hb hd
            have hbr : Below wr.heap.size wr w' := (below_drew1 wr).trans hb
            refine owes_here (.pointer (some ⟨q, 0, none⟩)) (by rfl) ?_ rfl
            simp only [putAll, List.take_succ_cons, List.take_zero]
            go_simp
          · intro x w' hb hd
            have hbr : Below wr.heap.size wr w' := (below_drew1 wr).trans hb
            have k1 : x 4 = .pointer (some ⟨q, 0, none⟩) := hd 4 (by simp)
            refine owes_here (.pointer (some ⟨q, 0, none⟩)) (by rfl) ?_ rfl
            simp only [putAll, List.take_succ_cons, List.take_zero]
            go_simp
          · intro x w' hb hd
            have hbr : Below wr.heap.size wr w' := (below_drew1 wr).trans hb
            have k1 : x 5 = .pointer (some ⟨q, 0, none⟩) := hd 5 (by simp)
            refine owes_here (.pointer (some ⟨q, 1, none⟩)) (by rfl) ?_ rfl
            simp only [putAll, List.take_succ_cons, List.take_zero]
            go_simp
          · intro x w' hb hd
            have hbr : Below wr.heap.size wr w' := (below_drew1 wr).trans hb
            have k1 : x 6 = .pointer (some ⟨q, 1, none⟩) := hd 6 (by simp)
            have d1 := (hbr.cell (p := ⟨q, 1, none⟩) hqr).trans p1
            refine owes_here (.slice (some ⟨b2, o2, none⟩) l.length c2) (by rfl) ?_ rfl
            simp only [putAll, List.take_succ_cons, List.take_zero]
            go_simp
          · intro x w' hb hd
            have hbr : Below wr.heap.size wr w' := (below_drew1 wr).trans hb
            refine owes_here (.int .i64 (i : Int)) (by rfl) ?_ rfl
            simp only [putAll, List.take_succ_cons, List.take_zero]
            go_simp
          · intro x w' hb hd
            have hbr : Below wr.heap.size wr w' := (below_drew1 wr).trans hb
            have k1 : x 7 = .slice (some ⟨b2, o2, none⟩) l.length c2 := hd 7 (by simp)
            have k2 : x 8 = .int .i64 (i : Int) := hd 8 (by simp)
            refine owes_here (.pointer (some ⟨b2, o2 + i, none⟩)) (by rfl) ?_ rfl
            simp only [putAll, List.take_succ_cons, List.take_zero]
            go_simp
          · intro x w' hb hd
            have hbr : Below wr.heap.size wr w' := (below_drew1 wr).trans hb
            have k1 : x 9 = .pointer (some ⟨b2, o2 + i, none⟩) := hd 9 (by simp)
            have d1 := (hbr.cell (p := ⟨b2, o2 + i, none⟩) hbr2).trans f0
            refine owes_here vx (by rfl) ?_ rfl
            simp only [putAll, List.take_succ_cons, List.take_zero]
            go_simp
          · intro x w' hb hd
            have hbr : Below wr.heap.size wr w' := (below_drew1 wr).trans hb
            have k1 : x 10 = vx := hd 10 (by simp)
            refine owes_call 43 #[vx] (by rfl) ?_ ((HC2.out w' hbr).mono fun e w2 h => ⟨_, h.1, rfl, h.2⟩)
            simp only [putAll, List.take_succ_cons, List.take_zero]
            go_simp
          · intro x w' hb hd
            have hbr : Below wr.heap.size wr w' := (below_drew1 wr).trans hb
            have k1 : x 3 = .string (mkB Q ++ ⟨#[58]⟩) := hd 3 (by simp)
            have k2 : x 11 = .string (mkB X) := hd 11 (by simp)
            have hS := Ht2.out
            refine owes_here (.string t) (by rfl) ?_ rfl
            simp only [putAll, List.take_succ_cons, List.take_zero]
            go_simp
          · intro x w' hb hd
            have hbr : Below wr.heap.size wr w' := (below_drew1 wr).trans hb
            have k1 : x 12 = .string t := hd 12 (by simp)
            refine owes_makes (.slice (some ⟨w'.heap.size, 0, none⟩) 1 1) (w' := w'.alloc (.cells #[.string t] 9)) (by rfl) ?_ (⟨_, rfl, heap_alloc_new w' _⟩) ((Below.refl _ _).alloc (Nat.le_refl _) _)
            simp only [putAll, List.take_succ_cons, List.take_zero]
            go_simp
          · intro x w' hb hR
            have hbr : Below wr.heap.size wr w' := (below_drew1 wr).trans hb
            have k0 : x 0 = u11 := hR 0 (by omega)
            obtain ⟨g, kg1, kg2⟩ : ∃ g, x 13 = .slice (some ⟨g, 0, none⟩) 1 1 ∧ w'.heap[g]? = some (.cells #[.string t] 9 (0, 0)) := hR 13 (by omega)
            have Ho1 := Lib.hid (Hown.out.below stays_string hbr)
            have Hb1 := Lib.hid (Hbel.out.trans (hbr.mono Hbel.out.size))
            have hs1 := Hb1.out.size
            have Hg := Lib.hid kg2
            clear hR hb hbr e0 f0 p1 kg2
            simp only [putAll, List.take_succ_cons, List.take_zero, List.drop_succ_cons, List.drop_zero]
            try simp only [Act.put, List.setIfInBounds_toArray, List.set_cons_zero, List.set_cons_succ]
            go_wp2_with (at_builtin; refine wpList_append_ownAt (R := RString) (k := 1) (e := 9) (B := w.heap.size) (l := O) (m := [t]) _ (by rfl) _ _ _ (by rfl) i0 _ 16 Tryz.underlying28 hi0 hz0 hz1 hz2 rfl (by omega) flat_string one_string _ (by exact k0) Ho1.out _ (by exact kg1) (RowAt.one (R := RString) (k := 1) (cs := #[.string t]) Hg.out rfl rfl) (by unfold maxLen; simp; omega) (by simp; omega) (by omega) ?_)
            intro v' w2 hv' hg hr _
            have hb2 : Below w.heap.size w w2 := below_of_grown Hb1.out hs1 hg hr
            have Hb2 := Lib.hid hb2
            have Hv : Hid (OwnAt RString 1 w2 w.heap.size 9 v' ((l.take (i + 1)).map fun x => mkB (JP.quote x.1 ++ 58 :: JP.text x.2))) := Lib.hid (by rw [Htk.out]; exact hv')
            clear hv' hg hr hb2
            go_wp2_with fail
            go_roundg k
            case measure => omega
            case rel => exact ⟨i + 1, by omega, by go_num, Hv, Hb2⟩
def SoundIHB (n : Nat) : Prop := ∀ (v : Value) (x : JV) (w : World), JvAt n [] w v x → (JP.text x).length ≤ 1099511627776 → Calls Tryz.prog 74 #[v] w fun e w' => e = .returned (.bool (JP.sound x)) ∧ w = w'
set_option maxRecDepth 100000 in
set_option maxHeartbeats 1600000 in
theorem cloSound_big {n : Nat} (ih : SoundIHB n) (v : Value) (x : JV) (w : World) (h : JvAt n [] w v x) (hl : (JP.text x).length ≤ 1099511627776) :
    Calls Tryz.prog 109 #[v] w fun e w' => e = .returned (.bool (!JP.sound x)) ∧ w = w' := by
  have H := Lib.hid (ih v x w h hl)
  obtain ⟨b, hb⟩ : ∃ b, JP.sound x = b := ⟨_, rfl⟩
  rw [hb] at H ⊢
  clear ih h hl hb
  go_enter Tryz.func109, Tryz.ntmps109
  go_wp2_with fail
  refine H.out.mono ?_
  rintro E w1 ⟨rfl, rfl⟩
  go_wp2_with fail
  go_ret
  exact ⟨rfl, rfl⟩
set_option maxRecDepth 100000 in
set_option maxHeartbeats 3200000 in
theorem idxSound_big {n : Nat} (ih : SoundIHB n) (v : Value) (l : List JV) (w : World) (h : RowAt (JvR n []) 1 w v l) (hl : l.length ≤ 1099511627776) (hx : ∀ x ∈ l, (JP.text x).length ≤ 1099511627776) :
    Calls Tryz.prog 150 #[v, .func (.func 109) #[] #[]] w fun e w' => (∃ i : Int, e = .returned (.int .i64 i) ∧ (decide (0 ≤ i) = l.any fun x => !JP.sound x)) ∧ w = w' := by
  obtain ⟨a1, c1, rfl, _, _⟩ := h.len
  have H := Lib.hid h
  have Hx := Lib.hid hx
  have HC := Lib.hid (fun v x w h hl => cloSound_big ih v x w h hl)
  clear h hx ih
  go_enter Tryz.func150, Tryz.ntmps150
  go_wp2_with fail
  go_loopg [8] l.length (fun g u8 wr => ∃ i : Nat, i + g = l.length ∧ u8 = .int .i64 (i : Int) ∧ Hid (∀ x ∈ l.take i, (!JP.sound x) = false) ∧ w = wr)
  case atStart => exact ⟨0, by omega, rfl, Lib.hid (fun x hx => by simp at hx), rfl⟩
  case round =>
    obtain ⟨i, hig, rfl, Hall, rfl⟩ := hrel
    cases gk with
    | zero =>
      obtain rfl : i = l.length := by omega
      have Hany : Hid (decide ((0 : Int) ≤ -1) = l.any fun x => !JP.sound x) := by
        refine Lib.hid ?_
        rw [decide_eq_false (by omega), eq_comm, List.any_eq_false]
        intro x hx
        have := Hall.out x (by rw [List.take_of_length_le (Nat.le_refl _)]; exact hx)
        rw [this]; decide
      clear hig
      go_wp2_with fail
      go_ret
      exact ⟨⟨-1, rfl, Hany.out⟩, rfl⟩
    | succ g =>
      have hil : i < l.length := by omega
      obtain ⟨x, hxi⟩ : ∃ x, l[i]? = some x := ⟨l[i]'(by omega), List.getElem?_eq_getElem _⟩
      obtain ⟨b, o, c', hv, _, _, hbs, hcell⟩ := H.out.form (by omega) (by omega)
      cases hv
      obtain ⟨ds, _, hcc, vx, rfl, hvx⟩ := hcell i x hxi
      have e0 : w.cell? ⟨b, o + i, none⟩ = some vx := by simpa using hcc 0 _ rfl
      have q1 : (0 : Int) ≤ (i : Int) := by omega
      have q2 : (i : Int) < (l.length : Int) := by omega
      have Hxi := Lib.hid hxi
      have HC1 := Lib.hid (HC.out vx x w hvx (Hx.out x (List.mem_of_getElem? hxi)))
      clear hcc hcell hvx hxi
      obtain ⟨pb, Hpb⟩ : ∃ pb, Hid ((!JP.sound x) = pb) := ⟨_, Lib.hid rfl⟩
      have h9 := HC1.out
      rw [Hpb.out] at h9
      have HC2 := Lib.hid h9
      clear h9 HC1
      go_wp2_with fail
      refine HC2.out.mono ?_
      rintro E w1 ⟨rfl, rfl⟩
      cases pb with
      | true =>
        have Hany : Hid (decide ((0 : Int) ≤ (i : Int)) = l.any fun x => !JP.sound x) := by
          refine Lib.hid ?_
          rw [decide_eq_true (by omega), eq_comm, List.any_eq_true]
          exact ⟨x, List.mem_of_getElem? Hxi.out, Hpb.out⟩
        go_wp2_with fail
        go_ret
        exact ⟨⟨_, rfl, Hany.out⟩, rfl⟩
      | false =>
        have Hall2 : Hid (∀ x ∈ l.take (i + 1), (!JP.sound x) = false) := Lib.hid fun y hy => by
          rw [List.take_add_one, Hxi.out] at hy
          rcases List.mem_append.1 hy with h | h
          · exact Hall.out y h
          · have h9 : y = x := by simpa using h
            rw [h9]; exact Hpb.out
        go_wp2_with fail
        go_roundg g
        case measure => omega
        case rel => exact ⟨i + 1, by omega, by go_num, Hall2, rfl⟩
set_option maxRecDepth 100000 in
set_option maxHeartbeats 1600000 in
theorem anySound_big {n : Nat} (ih : SoundIHB n) (v : Value) (l : List JV) (w : World) (h : RowAt (JvR n []) 1 w v l) (hl : l.length ≤ 1099511627776) (hx : ∀ x ∈ l, (JP.text x).length ≤ 1099511627776) :
    Calls Tryz.prog 108 #[v, .func (.func 109) #[] #[]] w fun e w' => e = .returned (.bool (!JP.soundL l)) ∧ w = w' := by
  have H := Lib.hid (idxSound_big ih v l w h hl hx)
  obtain ⟨B, HB⟩ : ∃ B, Hid ((!JP.soundL l) = B) := ⟨_, Lib.hid rfl⟩
  have HB2 : Hid ((l.any fun x => !JP.sound x) = B) := Lib.hid (by rw [← HB.out, JP.soundL_any, Bool.not_not])
  rw [HB.out]
  clear h ih hx
  go_enter Tryz.func108, Tryz.ntmps108
  go_wp2_with fail
  refine H.out.mono ?_
  rintro E w1 ⟨⟨i, rfl, hn⟩, rfl⟩
  rw [HB2.out] at hn
  have Hn := Lib.hid hn
  clear hn H
  go_wp2_with fail
  go_ret
  exact ⟨congrArg (fun b => Ending.returned (Value.bool b)) Hn.out, rfl⟩
set_option maxRecDepth 100000 in
set_option maxHeartbeats 6400000 in
theorem sound_big : ∀ (n : Nat), SoundIHB n := by
  intro n
  induction n with
  | zero => intro v x w h; cases h
  | succ n ih =>
    intro v x w h hlen
    have IH := Lib.hid ih
    clear ih
    cases x with
    | nul =>
      obtain rfl : v = .nilIface := h
      obtain ⟨g1, g2, g3, g4, g5⟩ := as_nil
      clear hlen
      go_enter Tryz.func74, Tryz.ntmps74
      go_wp2_with fail
      go_ret
      exact ⟨ret_bool2 (by rw [JP.sound]), rfl⟩
    | bool b =>
      obtain rfl : v = .iface 4 (.bool b) := h
      obtain ⟨g1, g2, g3, g4, g5⟩ := as_bool (.bool b)
      clear hlen
      go_enter Tryz.func74, Tryz.ntmps74
      go_wp2_with fail
      go_ret
      exact ⟨ret_bool2 (by rw [JP.sound]), rfl⟩
    | num k =>
      obtain ⟨rfl, _, _⟩ := h
      obtain ⟨g1, g2, g3, g4, g5⟩ := as_int64 (.int .i64 k)
      clear hlen
      go_enter Tryz.func74, Tryz.ntmps74
      go_wp2_with fail
      go_ret
      exact ⟨ret_bool2 (by rw [JP.sound]), rfl⟩
    | str s =>
      obtain rfl : v = .iface 9 (.string (mkB s)) := h
      obtain ⟨g1, g2, g3, g4, g5⟩ := as_string (.string (mkB s))
      have hsz : (mkB s).size ≤ 1099511627776 := by
        rw [mkB_size]
        have := quote_size s
        rw [JP.text] at hlen
        omega
      have HS := stands_big (mkB s) w hsz
      rw [mkB_list] at HS
      obtain ⟨b, hb⟩ : ∃ b, s.all JP.stand = b := ⟨_, rfl⟩
      rw [hb] at HS
      have HS := Lib.hid HS
      have Hb := Lib.hid hb
      clear hlen hb hsz
      go_enter Tryz.func74, Tryz.ntmps74
      go_wp2_with fail
      refine HS.out.mono ?_
      rintro E w1 ⟨rfl, rfl⟩
      go_wp2_with fail
      go_ret
      exact ⟨ret_bool2 (by rw [JP.sound]; exact Hb.out.symm), rfl⟩
    | list L =>
      obtain ⟨u, rfl, hrow, _⟩ := h
      obtain ⟨a, c, rfl, _, _⟩ := hrow.len
      obtain ⟨g1, g2, g3, g4, g5⟩ := as_list (.slice a L.length c)
      have hll := lenL_text L
      have hln := lenL_len L
      have HA := anySound_big IH.out _ L w hrow (by omega) (fun x hx => by have := lenL_mem hx; omega)
      obtain ⟨b, hb⟩ : ∃ b, JP.soundL L = b := ⟨_, rfl⟩
      rw [hb] at HA
      have HA := Lib.hid HA
      have Hb := Lib.hid hb
      clear hlen hb hll hrow
      go_enter Tryz.func74, Tryz.ntmps74
      go_wp2_with fail
      refine HA.out.mono ?_
      rintro E w1 ⟨rfl, rfl⟩
      go_wp2_with fail
      go_ret
      exact ⟨ret_bool2 (by rw [JP.sound]; exact Hb.out.symm), rfl⟩
    | obj l =>
      obtain ⟨q, rfl, _, _, vn, vv, cn, cv, hrn, _, hrv, _⟩ := h
      obtain ⟨a1, c1, hu1, _, _⟩ := hrn.len
      obtain ⟨a2, c2, hu2, _, _⟩ := hrv.len
      obtain ⟨ln, hln⟩ : ∃ ln, l.length = ln := ⟨_, rfl⟩
      rw [List.length_map, hln] at hu1 hu2
      subst hu1
      subst hu2
      obtain ⟨g1, g2, g3, g4, g5⟩ := as_obj (.pointer (some ⟨q, 0, none⟩))
      have hll := lenF_text l
      have hln2 := lenF_len l
      have hlb : ln ≤ 1099511627776 := by omega
      have Hln := Lib.hid hln
      have Hrn := Lib.hid hrn
      have Hrv := Lib.hid hrv
      have Hlen := Lib.hid (fun x (hx : x ∈ l) => (show x.1.length ≤ 1099511627776 ∧ (JP.text x.2).length ≤ 1099511627776 from by
        have h1 := lenF_mem hx
        have h2 := quote_size x.1
        omega))
      have HS : Hid (JP.sound (.obj l) = l.all fun x => x.1.all JP.stand && JP.sound x.2) := Lib.hid (by rw [JP.sound, JP.soundF_all])
      clear hlen hll hln2 hrn hrv hln
      go_enter Tryz.func74, Tryz.ntmps74
      go_wp2_with fail
      go_loopg [28] ln (fun k u28 wr => ∃ i : Nat, i + k = ln ∧ u28 = .int .i64 (i : Int) ∧ Hid ((l.take i).all (fun x => x.1.all JP.stand && JP.sound x.2) = true) ∧ w = wr)
      case atStart => exact ⟨0, by omega, rfl, Lib.hid rfl, rfl⟩
      case round =>
        obtain ⟨i, hik, rfl, Hall, rfl⟩ := hrel
        cases gk with
        | zero =>
          have hall := Hall.out
          rw [List.take_of_length_le (by rw [Hln.out]; omega)] at hall
          have Ha := Lib.hid hall
          have q1 : ¬ (i : Int) < (ln : Int) := by omega
          clear hall hik
          go_wp2_with fail
          go_ret
          exact ⟨ret_bool2 (by rw [HS.out]; exact Ha.out.symm), rfl⟩
        | succ k =>
          have hil : i < ln := by omega
          obtain ⟨y, hy⟩ : ∃ y, l[i]? = some y := ⟨l[i]'(by rw [Hln.out]; exact hil), List.getElem?_eq_getElem _⟩
          have hlm := Hlen.out y (List.mem_of_getElem? hy)
          obtain ⟨b1, o1, c', hv1, _, _, hbs1, hcell1⟩ := Hrn.out.form (by rw [List.length_map, Hln.out]; omega) (by omega)
          injection hv1 with u1 u2 u3
          subst u1
          clear u2 u3
          obtain ⟨ds1, _, hcc1, hR1⟩ := hcell1 i (mkB y.1) (by rw [List.getElem?_map, hy]; rfl)
          obtain rfl : ds1 = [.string (mkB y.1)] := hR1
          have e0 : w.cell? ⟨b1, o1 + i, none⟩ = some (.string (mkB y.1)) := by simpa using hcc1 0 _ rfl
          obtain ⟨b2, o2, c'', hv2, _, _, hbs2, hcell2⟩ := Hrv.out.form (by rw [List.length_map, Hln.out]; omega) (by omega)
          injection hv2 with u1 u2 u3
          subst u1
          clear u2 u3
          obtain ⟨ds2, _, hcc2, vx, rfl, hvx⟩ := hcell2 i y.2 (by rw [List.getElem?_map, hy]; rfl)
          have e1 : w.cell? ⟨b2, o2 + i, none⟩ = some vx := by simpa using hcc2 0 _ rfl
          have q1 : (0 : Int) ≤ (i : Int) := by omega
          have q2 : (i : Int) < (ln : Int) := by omega
          have hST := stands_big (mkB y.1) w (by rw [mkB_size]; exact hlm.1)
          rw [mkB_list] at hST
          have hSO := IH.out vx y.2 w hvx hlm.2
          obtain ⟨p1, hp1⟩ : ∃ p, y.1.all JP.stand = p := ⟨_, rfl⟩
          obtain ⟨p2, hp2⟩ : ∃ p, JP.sound y.2 = p := ⟨_, rfl⟩
          rw [hp1] at hST
          rw [hp2] at hSO
          have HST := Lib.hid hST
          have HSO := Lib.hid hSO
          have Hy := Lib.hid hy
          have Hp : Hid ((y.1.all JP.stand && JP.sound y.2) = (p1 && p2)) := Lib.hid (by rw [hp1, hp2])
          clear hcell1 hcell2 hcc1 hcc2 hvx hy hp1 hp2 hST hSO hlm
          cases p1 with
          | false =>
            go_wp2_with fail
            refine HST.out.mono ?_
            rintro E w1 ⟨rfl, rfl⟩
            go_wp2_with fail
            go_ret
            exact ⟨ret_bool2 (by rw [HS.out]; exact (not_all_of Hy.out Hp.out).symm), rfl⟩
          | true =>
            go_wp2_with fail
            refine HST.out.mono ?_
            rintro E w1 ⟨rfl, rfl⟩
            go_wp2_with fail
            refine HSO.out.mono ?_
            rintro E w1 ⟨rfl, rfl⟩
            cases p2 with
            | false =>
              go_wp2_with fail
              go_ret
              exact ⟨ret_bool2 (by rw [HS.out]; exact (not_all_of Hy.out Hp.out).symm), rfl⟩
            | true =>
              have HA2 := Lib.hid (all_take_of Hall.out Hy.out Hp.out)
              go_wp2_with fail
              go_roundg k
              case measure => omega
              case rel => exact ⟨i + 1, by omega, by go_num, HA2, rfl⟩
set_option maxRecDepth 100000 in
set_option maxHeartbeats 3200000 in
theorem tell_big (n : Nat) (v : Value) (x : JV) (w : World) (h : JvAt n [] w v x) (hl : (JP.text x).length ≤ 1099511627776) (hl2 : JP.size x ≤ 200 → (JP.text x).length ≤ 1073741824) (hz : JP.size x ≤ 4194304) (ht : TabOK w) :
    Calls Tryz.prog 39 #[v] w fun e w' => e = .returned (.tuple #[.string (mkB (JP.tellT x)), .int .i64 (JP.tellE x)]) ∧ Below w.heap.size w w' := by
  have HZ := size_any n v x w h hz
  have HS := sound_big n v x w h hl
  have ht0 : JP.size x ≤ 200 → _ := fun h9 => text_big n v x w h (hl2 h9) ht
  obtain ⟨S, hS⟩ : ∃ S, JP.sound x = S := ⟨_, rfl⟩
  obtain ⟨M, hM⟩ : ∃ S, JP.size x = S := ⟨_, rfl⟩
  obtain ⟨D, hD⟩ : ∃ S, JP.deep x = S := ⟨_, rfl⟩
  rw [hM, hD] at HZ
  rw [hM] at ht0
  have HT0 := Lib.hid ht0
  clear ht0 hl2
  rw [hS] at HS
  have HZ := Lib.hid HZ
  have HS := Lib.hid HS
  obtain ⟨E0, hE⟩ : ∃ T, JP.tellE x = T := ⟨_, rfl⟩
  obtain ⟨T0, hT⟩ : ∃ T, JP.tellT x = T := ⟨_, rfl⟩
  rw [hE, hT]
  have HE : Hid (E0 = if S = false then 16 else if 10 < D then 4 else if 200 < M then 2 else if 2000 < (JP.text x).length then 2 else 0) := Lib.hid (by rw [← hE, ← hS, ← hM, ← hD]; rfl)
  have HTT : Hid (T0 = if E0 = 0 then JP.text x else []) := Lib.hid (by rw [← hE, ← hT]; rfl)
  clear hS hM hD hE hT ht h
  have no : ∀ e : Int, E0 = e → e ≠ 0 → mkB T0 = ByteArray.empty := fun e h1 h2 => by
    rw [HTT.out, if_neg (by rw [h1]; exact h2)]; rfl
  have No := Lib.hid no
  clear no
  cases S with
  | false =>
    have He : Hid (E0 = 16) := Lib.hid (HE.out.trans (if_pos rfl))
    go_enter Tryz.func39, Tryz.ntmps39
    go_wp2_with fail
    refine HZ.out.mono ?_
    rintro E w1 ⟨rfl, rfl⟩
    go_wp2_with fail
    refine HS.out.mono ?_
    rintro E w1 ⟨rfl, rfl⟩
    go_wp2_with fail
    go_ret2
    exact ⟨ret_tell (No.out 16 He.out (by decide)) He.out.symm, Below.refl _ _⟩
  | true =>
    have HE1 : Hid (E0 = if 10 < D then 4 else if 200 < M then 2 else if 2000 < (JP.text x).length then 2 else 0) := Lib.hid (HE.out.trans (if_neg (by decide)))
    clear HE
    by_cases hd : 10 < D
    · have He : Hid (E0 = 4) := Lib.hid (HE1.out.trans (if_pos hd))
      have p1 : (10 : Int) < (D : Int) := by omega
      clear hd
      go_enter Tryz.func39, Tryz.ntmps39
      go_wp2_with fail
      refine HZ.out.mono ?_
      rintro E w1 ⟨rfl, rfl⟩
      go_wp2_with fail
      refine HS.out.mono ?_
      rintro E w1 ⟨rfl, rfl⟩
      go_wp2_with fail
      go_ret2
      exact ⟨ret_tell (No.out 4 He.out (by decide)) He.out.symm, Below.refl _ _⟩
    have p1 : ¬ (10 : Int) < (D : Int) := by omega
    have HE2 : Hid (E0 = if 200 < M then 2 else if 2000 < (JP.text x).length then 2 else 0) := Lib.hid (HE1.out.trans (if_neg hd))
    clear HE1 hd
    by_cases hm : 200 < M
    · have He : Hid (E0 = 2) := Lib.hid (HE2.out.trans (if_pos hm))
      have p2 : (200 : Int) < (M : Int) := by omega
      clear hm
      go_enter Tryz.func39, Tryz.ntmps39
      go_wp2_with fail
      refine HZ.out.mono ?_
      rintro E w1 ⟨rfl, rfl⟩
      go_wp2_with fail
      refine HS.out.mono ?_
      rintro E w1 ⟨rfl, rfl⟩
      go_wp2_with fail
      go_ret2
      exact ⟨ret_tell (No.out 2 He.out (by decide)) He.out.symm, Below.refl _ _⟩
    have p2 : ¬ (200 : Int) < (M : Int) := by omega
    have HE3 : Hid (E0 = if 2000 < (JP.text x).length then 2 else 0) := Lib.hid (HE2.out.trans (if_neg hm))
    have HT := Lib.hid (HT0.out (by omega))
    clear HE2 hm HT0
    obtain ⟨T, hT⟩ : ∃ T, JP.text x = T := ⟨_, rfl⟩
    rw [hT] at HE3 HT HTT hl
    have hsz := mkB_size T
    by_cases hlg : 2000 < T.length
    · have He : Hid (E0 = 2) := Lib.hid (HE3.out.trans (if_pos hlg))
      have p3 : (2000 : Int) < ((mkB T).size : Int) := by omega
      clear hlg hsz hT
      go_enter Tryz.func39, Tryz.ntmps39
      go_wp2_with fail
      refine HZ.out.mono ?_
      rintro E w1 ⟨rfl, rfl⟩
      go_wp2_with fail
      refine HS.out.mono ?_
      rintro E w1 ⟨rfl, rfl⟩
      go_wp2_with fail
      refine HT.out.mono ?_
      rintro E w1 ⟨rfl, hb⟩
      have HB := Lib.hid hb
      clear hb
      go_wp2_with fail
      go_ret2
      exact ⟨ret_tell (No.out 2 He.out (by decide)) He.out.symm, HB.out⟩
    · have He : Hid (E0 = 0) := Lib.hid (HE3.out.trans (if_neg hlg))
      have p3 : ¬ (2000 : Int) < ((mkB T).size : Int) := by omega
      have HTx : Hid (T0 = T) := Lib.hid (by rw [HTT.out, if_pos He.out])
      clear hlg hsz hT
      go_enter Tryz.func39, Tryz.ntmps39
      go_wp2_with fail
      refine HZ.out.mono ?_
      rintro E w1 ⟨rfl, rfl⟩
      go_wp2_with fail
      refine HS.out.mono ?_
      rintro E w1 ⟨rfl, rfl⟩
      go_wp2_with fail
      refine HT.out.mono ?_
      rintro E w1 ⟨rfl, hb⟩
      have HB := Lib.hid hb
      clear hb
      go_wp2_with fail
      go_ret2
      exact ⟨ret_tell (by rw [HTx.out]) He.out.symm, HB.out⟩
end Go.Proofs.YtdcmnpeabjallaaGreatDoor
namespace Go.Proofs.YtdcmnpeabjallaaGreatDoor
open Go.RowKit
open JP (JV Bs Lf)
set_option maxRecDepth 100000 in
set_option maxHeartbeats 1600000 in
theorem apply1_any {g6 : Nat} {v : Value} (l : List GOwned) (w : World) (h : RowAt OwnedR 2 w v l) (hl : l.length ≤ 1048576) (hz : ∀ x ∈ l, x.manager.size ≤ 1048576 ∧ x.paths.length ≤ 1048576 ∧ ∀ p ∈ x.paths, p.size ≤ 1048576) (hm : ∃ m, MaxOK m w) (hg : w.heap[g6]? = some (.cells #[v] 22 (0, 0))) :
    Calls Tryz.prog 27 #[.pointer (some ⟨g6, 0, none⟩)] w (ChkP (JP.GoodO (l.map oP)) w) := by
  have HC := Lib.hid (check_owned_any v l w h hl hz hm)
  obtain ⟨a1, c1, rfl, -, -⟩ := h.len
  have cc := fun i => cell_block hg i
  clear h hl hz hm hg
  go_enter Tryz.func27, Tryz.ntmps27
  go_wp2_with fail
  refine HC.out.mono ?_
  rintro E w1 ⟨z, rfl, h1, h2, h3⟩
  have H1 := Lib.hid h1
  have H2 := Lib.hid h2
  have H3 := Lib.hid h3
  clear h1 h2 h3 cc
  go_wp2_with fail
  go_ret
  exact ⟨z, rfl, H1.out, H2.out, H3.out⟩
set_option maxRecDepth 100000 in
set_option maxHeartbeats 1600000 in
theorem apply2_any {g7 : Nat} (m : ByteArray) (w : World) (hs : m.size ≤ 1048576) (hg : w.heap[g7]? = some (.cells #[.string m] 9 (0, 0))) :
    Calls Tryz.prog 28 #[.pointer (some ⟨g7, 0, none⟩)] w fun e w' => e = .returned (.int .i64 (NameP.check m.data.toList)) ∧ w = w' := by
  have HC := Lib.hid (check_any m w (by omega))
  have cc := fun i => cell_block hg i
  clear hg
  go_enter Tryz.func28, Tryz.ntmps28
  go_wp2_with fail
  refine HC.out.mono ?_
  rintro E w1 ⟨rfl, rfl⟩
  go_wp2_with fail
  go_ret
  exact ⟨rfl, rfl⟩
def ReadTo (g16 : Nat) (s : Bs) (w : World) (e : Ending) (w' : World) : Prop := e = .returned (.int .i64 (JP.readL s).2) ∧ (∃ wv, w'.heap[g16]? = some (.cells #[wv] 47 (0, 0)) ∧ ∃ n, JvAt n [] w' wv (JP.readL s).1) ∧ Only g16 (g16 + 1) w w'
theorem read_stored {g16 n : Nat} {s : Bs} {R : JV × Int} {w w1 : World} {v0 v1 : Value} (hR : JP.readL s = R) (hb : Below w.heap.size w w1) (h : w.heap[g16]? = some (.cells #[v0] 47 (0, 0))) (hj : JvAt n [g16] w1 v1 R.1) : ReadTo g16 s w (.returned (.int .i64 R.2)) (w1.setCell ⟨g16, 0, none⟩ v1) := by
  obtain ⟨t1, t2⟩ := touch_setCell (i := 0) (v := v1) (below_block hb h)
  subst hR
  refine ⟨rfl, ⟨v1, t1, n, (hj.keepT ⟨t2.os, t2.tape, t2.output, by rw [t2.size]; exact Nat.le_refl _, fun b _ hn => t2.other b (fun e => hn (by rw [e]; exact List.mem_singleton.2 rfl))⟩).fresh (T' := []) fun b hb => by cases hb⟩, ?_⟩
  exact (Only.of hb).trans ⟨t2.os, t2.tape, t2.output, by rw [t2.size]; exact Nat.le_refl _, fun k _ ho => t2.other k (by omega)⟩
set_option maxRecDepth 100000 in
set_option maxHeartbeats 1600000 in
theorem apply3_any {g8 g16 : Nat} {v0 : Value} (s : ByteArray) (w : World) (hs : s.size ≤ 1048576) (h8 : w.heap[g8]? = some (.cells #[.string s] 9 (0, 0))) (h16 : w.heap[g16]? = some (.cells #[v0] 47 (0, 0))) :
    Calls Tryz.prog 30 #[.pointer (some ⟨g8, 0, none⟩), .pointer (some ⟨g16, 0, none⟩)] w (ReadTo g16 s.data.toList w) := by
  have HC := Lib.hid (read_low s w hs)
  have cc := fun i => cell_block h8 i
  have hlt : g16 < w.heap.size := by
    rcases Nat.lt_or_ge g16 w.heap.size with h1 | h1
    · exact h1
    · rw [Array.getElem?_eq_none h1] at h16; cases h16
  have H16 := Lib.hid h16
  obtain ⟨R, hR⟩ : ∃ R, JP.readL s.data.toList = R := ⟨_, rfl⟩
  rw [hR] at HC
  have HR := Lib.hid hR
  clear h8 h16 hR
  go_enter Tryz.func30, Tryz.ntmps30
  go_wp2_with fail
  refine HC.out.mono ?_
  rintro E w1 ⟨v1, rfl, ⟨n, hj⟩, hb⟩
  have hjt := hj [g16] (fun b hb => by rw [List.mem_singleton.1 hb]; exact hlt)
  have hvf := jv_form hjt
  have b1 := below_block hb H16.out
  have HJ := Lib.hid hjt
  have HB := Lib.hid hb
  have B1 := Lib.hid b1
  have dd := fun i => cell_block b1 i
  have ff := fun i => free_block b1 i
  clear hj hjt hb b1 cc
  rcases hvf with rfl | ⟨vt, vu, rfl⟩
  all_goals
    go_wp2_with fail
    go_ret
    refine read_stored HR.out HB.out H16.out HJ.out
end Go.Proofs.YtdcmnpeabjallaaGreatDoor
