/- Texts of ours joined. -/
import Derived.RangeFuncRecord
import Derived.RangeFuncSeq
import Derived.RangeFuncCalls
import Derived.RangeFuncOwn
import Derived.Lib.Hide
import Derived.WalkLawsBesides
import Derived.Lib.SlicesCompact
import Derived.Sort.Walk0
import Derived.Deep.MidRow
import Derived.Lib.AppendIntMem
import Derived.RangeFuncLeaves
import Derived.Shelf.Abstract
import Derived.Shelf.RegionOpen
import Derived.WalkKit
import Derived.OwnWalkIn
import Derived.TacticsInMore
import Derived.LoopNIn
import Derived.LoopIn
import Derived.IntWalk
import Derived.Maps.OwnIn
import Derived.Shelf.SlIter.Nil
import Derived.Test.YtgoapmjcfdbjpaaMt1
set_option linter.unusedVariables false
set_option linter.unusedSimpArgs false
namespace Go.Proofs.Ytgoapmjcfdbjpaa
open Go.RowKit Go.MapKept Go.ChangeMaps
theorem kb_eq {a b : ByteArray} (h : a.data.toList = b.data.toList) : a = b := by
  cases a; cases b
  simp only [ByteArray.mk.injEq]
  exact Array.toList_inj.1 h
theorem ba_beq {a b : ByteArray} : (a == b) = true ↔ a = b := by
  cases a with | mk a => cases b with | mk b =>
  show ByteArray.beq ⟨a⟩ ⟨b⟩ = true ↔ _
  unfold ByteArray.beq
  simp
instance : ReflBEq ByteArray where
  rfl := ba_beq.2 rfl
instance : LawfulBEq ByteArray where
  eq_of_beq h := ba_beq.1 h
def cdOf (x : GCard) : Rf.C ByteArray := ⟨x.uid, x.owners⟩
def cds (l : List GCard) : List (Rf.C ByteArray) := l.map cdOf
theorem cds_uids (l : List GCard) : Rf.uids (cds l) = l.map (·.uid) := by unfold Rf.uids cds; rw [List.map_map]; rfl
theorem cds_get {l : List GCard} {i : Nat} {x : GCard} (h : l[i]? = some x) : (cds l)[i]? = some (cdOf x) := by unfold cds; rw [List.getElem?_map, h]; rfl
theorem cds_len (l : List GCard) : (cds l).length = l.length := by unfold cds; rw [List.length_map]
def nameE (s : ByteArray) : Int := NameP.check s.data.toList
def ownE : List ByteArray → Int
  | [] => 0
  | o :: r => if nameE o ≠ 0 then nameE o else ownE r
def cardE (seen : List ByteArray) (x : GCard) : Int :=
  if nameE x.uid ≠ 0 then nameE x.uid else if x.uid ∈ seen then 5 else if 4 < x.owners.length then 2 else if ownE x.owners ≠ 0 then ownE x.owners else if x.uid ∈ x.owners then 1 else 0
def cardsE (seen : List ByteArray) : List GCard → Int
  | [] => 0
  | x :: r => if cardE seen x ≠ 0 then cardE seen x else cardsE (seen ++ [x.uid]) r
def refsE (l : List GCard) : Int := if 60 < l.length then 2 else cardsE [] l
def GoodC (x : GCard) : Prop := nameE x.uid = 0 ∧ x.owners.length ≤ 4 ∧ ownE x.owners = 0 ∧ x.uid ∉ x.owners
theorem cardE_zero {seen : List ByteArray} {x : GCard} : cardE seen x = 0 ↔ GoodC x ∧ x.uid ∉ seen := by
  unfold cardE GoodC
  by_cases h1 : nameE x.uid = 0
  · rw [if_neg (fun h => h h1)]
    by_cases h2 : x.uid ∈ seen
    · rw [if_pos h2]
      exact ⟨fun h => by simp at h, fun h => (h.2 h2).elim⟩
    · rw [if_neg h2]
      by_cases h3 : 4 < x.owners.length
      · rw [if_pos h3]
        exact ⟨fun h => by simp at h, fun h => by have := h.1.2.1; omega⟩
      · rw [if_neg h3]
        by_cases h4 : ownE x.owners = 0
        · rw [if_neg (fun h => h h4)]
          by_cases h5 : x.uid ∈ x.owners
          · rw [if_pos h5]
            exact ⟨fun h => by simp at h, fun h => (h.1.2.2.2 h5).elim⟩
          · rw [if_neg h5]
            exact ⟨fun _ => ⟨⟨h1, by omega, h4, h5⟩, h2⟩, fun _ => rfl⟩
        · rw [if_pos h4]
          exact ⟨fun h => (h4 h).elim, fun h => (h4 h.1.2.2.1).elim⟩
  · rw [if_pos h1]
    exact ⟨fun h => (h1 h).elim, fun h => (h1 h.1.1).elim⟩
theorem cardsE_zero : ∀ {l : List GCard} {seen : List ByteArray}, cardsE seen l = 0 ↔ (∀ x ∈ l, GoodC x) ∧ (l.map (·.uid)).Nodup ∧ ∀ x ∈ l, x.uid ∉ seen
  | [], seen => by simp [cardsE]
  | x :: r, seen => by
    unfold cardsE
    by_cases h : cardE seen x = 0
    · rw [if_neg (fun h' => h' h), cardsE_zero]
      obtain ⟨h1, h2⟩ := cardE_zero.1 h
      rw [List.map_cons, List.nodup_cons]
      constructor
      · rintro ⟨a, b, c⟩
        refine ⟨fun y hy => (List.mem_cons.1 hy).elim (fun e => e ▸ h1) (a y), ⟨fun hm => ?_, b⟩, fun y hy => (List.mem_cons.1 hy).elim (fun e => e ▸ h2) fun hy hs => c y hy (List.mem_append_left _ hs)⟩
        obtain ⟨y, hy, he⟩ := List.mem_map.1 hm
        exact c y hy (by rw [he]; simp)
      · rintro ⟨a, ⟨b, c⟩, d⟩
        refine ⟨fun y hy => a y (List.mem_cons_of_mem _ hy), c, fun y hy hs => ?_⟩
        rcases List.mem_append.1 hs with hs | hs
        · exact d y (List.mem_cons_of_mem _ hy) hs
        · simp only [List.mem_singleton] at hs
          exact b (List.mem_map.2 ⟨y, hy, hs⟩)
    · rw [if_pos h]
      constructor
      · exact fun e => (h e).elim
      · rintro ⟨a, _, d⟩
        exact (h (cardE_zero.2 ⟨a x (List.mem_cons_self ..), d x (List.mem_cons_self ..)⟩)).elim
structure GoodL (l : List GCard) : Prop where
  len : l.length ≤ 60
  good : ∀ x ∈ l, GoodC x
  uids : (l.map (·.uid)).Nodup
theorem refsE_zero {l : List GCard} : refsE l = 0 ↔ GoodL l := by
  unfold refsE
  by_cases h : 60 < l.length
  · rw [if_pos h]
    exact ⟨fun e => by simp at e, fun e => by have := e.len; omega⟩
  · rw [if_neg h, cardsE_zero]
    exact ⟨fun ⟨a, b, _⟩ => ⟨by omega, a, b⟩, fun e => ⟨e.good, e.uids, fun _ _ hs => by cases hs⟩⟩
theorem GoodL.filter {l : List GCard} (h : GoodL l) (p : GCard → Bool) : GoodL (l.filter p) :=
  ⟨Nat.le_trans (List.length_filter_le ..) h.len, fun x hx => h.good x (List.mem_filter.1 hx).1, ((List.filter_sublist).map _).nodup h.uids⟩
theorem GoodL.nodup {l : List GCard} (h : GoodL l) : (Rf.uids (cds l)).Nodup := by rw [cds_uids]; exact h.uids
def OkCards (l : List GCard) : Prop := l.length ≤ 1048576 ∧ ∀ x ∈ l, x.uid.size ≤ 1048576 ∧ x.owners.length ≤ 1048576 ∧ ∀ o ∈ x.owners, o.size ≤ 1048576
theorem turned_block {w w' : World} {b k : Nat} (h : w.mapTurned w' b) (hk : k ≠ b) : w'.heap[k]? = w.heap[k]? := by
  obtain ⟨es, clock, es', clock', hb, rfl⟩ := h
  exact heap_setBlock_other hb _ hk
def SeenM (f : KB → Option Value) (l : List ByteArray) : Prop := ∀ s : ByteArray, (f s.data.toList).isSome = decide (s ∈ l)
theorem SeenM.add {f : KB → Option Value} {l : List ByteArray} (h : SeenM f l) (s : ByteArray) (v : Value) : SeenM (updF f s.data.toList v) (l ++ [s]) := by
  intro z
  unfold updF
  by_cases e : z = s
  · subst e; simp
  · rw [if_neg (fun e' => e (kb_eq e')), h z]
    simp [e]
theorem Try.zeroIntR (w : World) : (zeroValue 3).run Try.prog w = .ok (.int .i64 0) w := by kernel_rfl
theorem drop_get {β : Type} {l : List β} {i : Nat} {x : β} (hx : l[i]? = some x) : l.drop i = x :: l.drop (i + 1) := Rf.drop_succ hx
set_option maxRecDepth 100000 in
set_option maxHeartbeats 6400000 in
theorem refsCheck_any (v : Value) (l : List GCard) (w : World) (h : RowAt CardR 2 w v l) (hok : OkCards l) :
    Calls Try.prog 10 #[v] w fun e w' => e = .returned (.int .i64 (refsE l)) ∧ Below w.heap.size w w' := by
  obtain ⟨a1, c1, rfl, -, -⟩ := h.len
  obtain ⟨nl, hnl⟩ : ∃ n, l.length = n := ⟨_, rfl⟩
  have hl := hok.1
  rw [hnl] at h hl ⊢
  have HRow := Lib.hid h
  have Hnl := Lib.hid hnl
  have Hs := Lib.hid hok.2
  by_cases hbig : 60 < nl
  · have H2 : Hid ((2 : Int) = refsE l) := Lib.hid (by unfold refsE; rw [if_pos (by omega)])
    clear h hok hnl
    go_enter Try.func10, Try.ntmps10
    go_wp2_with fail
    go_ret
    exact ⟨congrArg (fun n => Ending.returned (Value.int .i64 n)) H2.out, Below.refl _ _⟩
  · have H0 : Hid (refsE l = cardsE ((l.take 0).map (·.uid)) (l.drop 0)) := Lib.hid (by unfold refsE; rw [if_neg (by omega)]; simp)
    obtain ⟨w1, hw1⟩ : ∃ w1, w1 = w.alloc (.map #[] 0) := ⟨_, rfl⟩
    obtain ⟨gm, hgm⟩ : ∃ b, b = w.heap.size := ⟨_, rfl⟩
    have HM1 : Hid (MapS Try.prog 9 w1 gm 0 fun _ => none) := Lib.hid (by rw [hw1, hgm]; exact mapS_made _ _ _)
    have HS1 : Hid (SeenM (fun _ => none) ((l.take 0).map (·.uid))) := Lib.hid fun s => by simp
    have HB1 : Hid (Below w.heap.size w w1) := Lib.hid (by rw [hw1]; exact (Below.refl _ _).alloc (Nat.le_refl _) _)
    have Hgm : Hid (w.heap.size ≤ gm) := Lib.hid (by rw [hgm]; exact Nat.le_refl _)
    have hmm := @run_makeMap Try.prog
    clear h hok hnl
    go_enter Try.func10, Try.ntmps10
    go_upto_region 4 with fail
    rw [← hw1]
    try rw [← hgm]
    clear hw1 hgm hmm
    go_wp2_with fail
    go_loopg [18] nl (fun k u18 wr => ∃ (i : Nat) (F : KB → Option Value), i + k = nl ∧ u18 = .int .i64 (i : Int) ∧ Hid (MapS Try.prog 9 wr gm i F) ∧ Hid (SeenM F ((l.take i).map (·.uid))) ∧ Hid (Below w.heap.size w wr) ∧ Hid (refsE l = cardsE ((l.take i).map (·.uid)) (l.drop i)))
    case atStart => exact ⟨0, _, by omega, rfl, HM1, HS1, HB1, H0⟩
    case round =>
      clear HM1 HS1 HB1 H0
      obtain ⟨i, F, hik, rfl, HM, HS, HB, HE⟩ := hrel
      cases gk with
      | zero =>
        obtain rfl : nl = i := by omega
        have HE' : Hid ((0 : Int) = refsE l) := Lib.hid (by rw [HE.out, List.drop_of_length_le (by rw [Hnl.out]; exact Nat.le_refl _)]; rfl)
        clear HE
        go_wp2_with fail
        go_ret
        exact ⟨congrArg (fun n => Ending.returned (Value.int .i64 n)) HE'.out, HB.out⟩
      | succ k =>
        have hil : i < nl := by omega
        obtain ⟨x, hxi⟩ : ∃ x, l[i]? = some x := ⟨l[i]'(by rw [Hnl.out]; exact hil), List.getElem?_eq_getElem _⟩
        obtain ⟨bb, o, c', hv, _, _, hbs, hcell⟩ := HRow.out.form (by rw [Hnl.out]; omega) (by omega)
        injection hv with u1 u2 u3
        subst u1
        clear u2 u3
        obtain ⟨ds, _, hcc, v1, rfl, hst⟩ := hcell i x hxi
        obtain ⟨sa, sc, rfl, -, -⟩ := hst.row.len
        obtain ⟨sn, hsn⟩ : ∃ sn, x.owners.length = sn := ⟨_, rfl⟩
        rw [hsn] at hcc hst
        obtain ⟨hmu, hmo, hms⟩ := Hs.out x (List.mem_of_getElem? hxi)
        have e0 : wr.cell? ⟨bb, o + i * 2, none⟩ = some (.string x.uid) := (HB.out.cell (p := ⟨bb, _, none⟩) hbs).trans (by simpa using hcc 0 _ rfl)
        have e1 : wr.cell? ⟨bb, o + i * 2 + 1, none⟩ = some (.slice sa sn sc) := (HB.out.cell (p := ⟨bb, _, none⟩) hbs).trans (hcc 1 _ rfl)
        have q1 : (0 : Int) ≤ (i : Int) := by omega
        have q2 : (i : Int) < (nl : Int) := by omega
        obtain ⟨w2, hw2⟩ : ∃ w2, w2 = wr.alloc (.cells #[.string x.uid, .slice sa sn sc] 31) := ⟨_, rfl⟩
        obtain ⟨gx, hgx⟩ : ∃ gx, gx = wr.heap.size := ⟨_, rfl⟩
        have b2 : w2.heap[gx]? = some (.cells #[.string x.uid, .slice sa sn sc] 31 (0, 0)) := by rw [hw2, hgx]; exact heap_alloc_new wr _
        have hb2 : Below wr.heap.size wr w2 := by rw [hw2]; exact (Below.refl _ wr).alloc (Nat.le_refl _) _
        have HB2 := Lib.hid (HB.out.trans (hb2.mono HB.out.size))
        have HM2 := Lib.hid (HM.out.belowW hb2)
        have HSt := Lib.hid (hst.below HB2.out)
        have Hxi := Lib.hid hxi
        have B2 := Lib.hid b2
        have hgxm : gx ≠ gm := fun e => HM2.out.ne b2 e.symm
        have hsm : sn ≤ 1048576 := by rw [← hsn]; exact hmo
        have Hsn := Lib.hid hsn
        have Hms := Lib.hid hms
        have Hmu := Lib.hid hmu
        have HE2 : Hid (refsE l = if cardE ((l.take i).map (·.uid)) x ≠ 0 then cardE ((l.take i).map (·.uid)) x else cardsE ((l.take i).map (·.uid) ++ [x.uid]) (l.drop (i + 1))) := Lib.hid (by rw [HE.out, drop_get hxi]; rfl)
        obtain ⟨c, Hc⟩ : ∃ c, Hid (nameE x.uid = c) := ⟨_, Lib.hid rfl⟩
        have HCk := Lib.hid (check_any x.uid w2 (by omega))
        have Hu9 : Hid (x.uid.size ≤ maxLen) := Lib.hid (by unfold maxLen; omega)
        have cc := fun j => cell_block b2 j
        clear hcc hcell hxi hst hb2 b2 hsn hbs hmo hms hmu HB HM HE
        go_upto_region 7 with fail
        rw [← hw2]
        try rw [← hgx]
        clear hw2 hgx e0 e1
        go_wp2_with fail
        refine HCk.out.mono ?_
        rintro e w' ⟨rfl, rfl⟩
        rw [show NameP.check x.uid.data.toList = c from Hc.out]
        clear HCk
        by_cases hc0 : c = 0
        · subst hc0
          have Hc0 := Hc
          obtain ⟨bin, Hbin⟩ : ∃ b, Hid (decide (x.uid ∈ (l.take i).map (·.uid)) = b) := ⟨_, Lib.hid rfl⟩
          have hlk := (MapS.look HM2.out Try.underlying9 Try.underlying37 (Try.zeroIntR w2) x.uid Hu9.out).1
          obtain ⟨va, hva⟩ : ∃ va, (F x.uid.data.toList).getD (.int .i64 0) = va := ⟨_, rfl⟩
          rw [HS.out x.uid, Hbin.out, hva] at hlk
          clear hva
          cases bin with
          | true =>
            have H5 : Hid ((5 : Int) = refsE l) := Lib.hid (by
              have h9 : cardE ((l.take i).map (·.uid)) x = 5 := by
                unfold cardE
                rw [if_neg (fun h => h Hc.out), if_pos (of_decide_eq_true Hbin.out)]
              rw [HE2.out, h9]; rfl)
            clear HE2
            go_wp2_with fail
            go_ret
            exact ⟨congrArg (fun n => Ending.returned (Value.int .i64 n)) H5.out, HB2.out⟩
          | false =>
            have hns : i < maxLen := by unfold maxLen; omega
            go_upto_region 14 with (at_mapUpdate; refine wpList_store_mapS _ (by rfl) _ _ _ 37 (by rfl) 9 3 Try.underlying9 Try.underlying37 gm i F (by rfl) HM2.out hns x.uid Hu9.out (by rfl) (.int .i64 (i : Int)) (by rfl) ?_; intro w3 hm3 ht3)
            clear hlk cc
            have B3 : Hid (w3.heap[gx]? = some (.cells #[.string x.uid, .slice sa sn sc] 31 (0, 0))) := Lib.hid ((turned_block ht3 hgxm).trans B2.out)
            have HB3 : Hid (Below w.heap.size w w3) := Lib.hid (HB2.out.grown ht3.grown HB2.out.size (fun k e => by cases e; exact Hgm.out))
            have HM3 : Hid (MapS Try.prog 9 w3 gm (i + 1) (updF F x.uid.data.toList (.int .i64 (i : Int)))) := Lib.hid hm3
            have HS3 : Hid (SeenM (updF F x.uid.data.toList (.int .i64 (i : Int))) ((l.take (i + 1)).map (·.uid))) := Lib.hid (by rw [Rf.take_succ Hxi.out, List.map_append]; exact HS.out.add _ _)
            have HSt3 : Hid (StrAt w3 (.slice sa sn sc) x.owners) := Lib.hid (by
              refine HSt.out.keep fun p u hp => ?_
              refine (World.cell?_of_block ?_).trans hp
              refine turned_block ht3 fun e => ?_
              obtain ⟨es, clock, h9⟩ := HM2.out.isMap
              unfold World.cell? at hp
              rw [e, h9] at hp
              simp at hp)
            have hni : Hid (x.uid ∉ (l.take i).map (·.uid)) := Lib.hid (of_decide_eq_false Hbin.out)
            clear hm3 ht3 HM2 HSt B2 HB2
            have cc := fun j => cell_block B3.out j
            by_cases h4 : 4 < sn
            · have H5 : Hid ((2 : Int) = refsE l) := Lib.hid (by
                have h9 : cardE ((l.take i).map (·.uid)) x = 2 := by
                  unfold cardE
                  rw [if_neg (fun h => h Hc.out), if_neg hni.out, if_pos (by rw [Hsn.out]; exact h4)]
                rw [HE2.out, h9]; rfl)
              clear HE2
              go_wp2_with fail
              go_ret
              exact ⟨congrArg (fun n => Ending.returned (Value.int .i64 n)) H5.out, HB3.out⟩
            · have HE3 : Hid (cardE ((l.take i).map (·.uid)) x = if ownE x.owners ≠ 0 then ownE x.owners else if x.uid ∈ x.owners then 1 else 0) := Lib.hid (by
                unfold cardE
                rw [if_neg (fun h => h Hc.out), if_neg hni.out, if_neg (by rw [Hsn.out]; exact h4)])
              have Ho0 : Hid (ownE x.owners = ownE (x.owners.drop 0)) := Lib.hid rfl
              go_wp2_with fail
              go_loopg [48] sn (fun k2 u48 wr2 => ∃ j : Nat, j + k2 = sn ∧ u48 = .int .i64 (j : Int) ∧ Hid (ownE x.owners = ownE (x.owners.drop j)) ∧ wr2 = w3)
              case atStart => exact ⟨0, by omega, rfl, Ho0, rfl⟩
              case round =>
                clear Ho0
                obtain ⟨j, hjk, rfl, Ho, rfl⟩ := hrel
                cases gk with
                | zero =>
                  obtain rfl : sn = j := by omega
                  have Ho' : Hid (ownE x.owners = 0) := Lib.hid (by rw [Ho.out, List.drop_of_length_le (by rw [Hsn.out]; exact Nat.le_refl _)]; rfl)
                  have HC := Lib.hid (contains_any (.slice sa sn sc) x.owners x.uid wr HSt3.out (by rw [Hsn.out]; omega))
                  obtain ⟨cb, Hcb⟩ : ∃ cb, Hid (Lib.containsS x.owners x.uid = cb) := ⟨_, Lib.hid rfl⟩
                  rw [Hcb.out] at HC
                  clear Ho
                  go_wp2_with fail
                  refine HC.out.mono ?_
                  rintro e w9 ⟨rfl, rfl⟩
                  clear HC
                  cases cb with
                  | true =>
                    have H5 : Hid ((1 : Int) = refsE l) := Lib.hid (by
                      have h9 : cardE ((l.take i).map (·.uid)) x = 1 := by
                        rw [HE3.out, if_neg (fun h => h Ho'.out), if_pos ((Lib.containsS_iff _ _).1 Hcb.out)]
                      rw [HE2.out, h9]; rfl)
                    clear HE2
                    go_wp2_with fail
                    go_ret
                    exact ⟨congrArg (fun n => Ending.returned (Value.int .i64 n)) H5.out, HB3.out⟩
                  | false =>
                    have H5 : Hid (refsE l = cardsE ((l.take (i + 1)).map (·.uid)) (l.drop (i + 1))) := Lib.hid (by
                      have h9 : cardE ((l.take i).map (·.uid)) x = 0 := by
                        rw [HE3.out, if_neg (fun h => h Ho'.out), if_neg (fun h => by have := (Lib.containsS_iff _ _).2 h; rw [Hcb.out] at this; cases this)]
                      rw [HE2.out, if_neg (fun h => h h9), Rf.take_succ Hxi.out, List.map_append]; rfl)
                    clear HE2
                    go_wp2_with fail
                    go_roundg k
                    case measure => omega
                    case rel => exact ⟨i + 1, _, by omega, by go_num, HM3, HS3, HB3, H5⟩
                | succ k2 =>
                  have hjl : j < sn := by omega
                  obtain ⟨y, hy⟩ : ∃ y, x.owners[j]? = some y := ⟨x.owners[j]'(by rw [Hsn.out]; exact hjl), List.getElem?_eq_getElem _⟩
                  obtain ⟨b9, o9, c9, hv9, _, _, _, hcy⟩ := HSt3.out.form (by rw [Hsn.out]; omega)
                  injection hv9 with u1 u2 u3
                  subst u1
                  clear u2 u3
                  have e0 := hcy j y hy
                  have q3 : (0 : Int) ≤ (j : Int) := by omega
                  have q4 : (j : Int) < (sn : Int) := by omega
                  have hys := Hms.out y (List.mem_of_getElem? hy)
                  have HCk := Lib.hid (check_any y wr (by omega))
                  obtain ⟨c, Hcy⟩ : ∃ c, Hid (nameE y = c) := ⟨_, Lib.hid rfl⟩
                  have Hdy := Lib.hid (drop_get hy)
                  clear hcy hy
                  go_wp2_with fail
                  refine HCk.out.mono ?_
                  rintro e w9 ⟨rfl, rfl⟩
                  rw [show NameP.check y.data.toList = c from Hcy.out]
                  clear HCk
                  by_cases hc0 : c = 0
                  · subst hc0
                    have Ho2 : Hid (ownE x.owners = ownE (x.owners.drop (j + 1))) := Lib.hid (by
                      rw [Ho.out, Hdy.out]
                      show (if nameE y ≠ 0 then nameE y else ownE (x.owners.drop (j + 1))) = _
                      rw [if_neg (fun h => h Hcy.out)])
                    go_wp2_with fail
                    go_roundg k2
                    case measure => omega
                    case rel => exact ⟨j + 1, by omega, by go_num, Ho2, rfl⟩
                  · have qc : (c != 0) = true := by simp [hc0]
                    have H5 : Hid (c = refsE l) := Lib.hid (by
                      have h8 : ownE x.owners = c := by
                        rw [Ho.out, Hdy.out]
                        show (if nameE y ≠ 0 then nameE y else ownE (x.owners.drop (j + 1))) = _
                        rw [Hcy.out, if_pos hc0]
                      have h9 : cardE ((l.take i).map (·.uid)) x = c := by
                        rw [HE3.out, h8, if_pos hc0]
                      rw [HE2.out, h9, if_pos hc0])
                    clear HE2 hc0
                    go_wp2_with fail
                    go_ret
                    exact ⟨congrArg (fun n => Ending.returned (Value.int .i64 n)) H5.out, HB3.out⟩
        · have qc : (c != 0) = true := by simp [hc0]
          have H5 : Hid (c = refsE l) := Lib.hid (by
            have h9 : cardE ((l.take i).map (·.uid)) x = c := by
              unfold cardE
              rw [Hc.out, if_pos hc0]
            rw [HE2.out, h9, if_pos hc0])
          clear HE2 hc0
          go_wp2_with fail
          go_ret
          exact ⟨congrArg (fun n => Ending.returned (Value.int .i64 n)) H5.out, HB2.out⟩
end Go.Proofs.Ytgoapmjcfdbjpaa
namespace Go.Proofs.Ytgoapmjcfdbjpaa
open Go
section
variable {P : Program} {ops : Array Oper} {md : Region.Mode}
theorem wpAny_relX {n g : Nat} {hs : List Oper} {a0 : Act} {I : World → Prop} {R : Nat → (Nat → Value) → World → Prop} {deps kills : Nat → List Nat} {Q : Exit → Act → World → Prop}
    (hops : ∀ j, j < n → hs[j]? = ops[j]?) (hn : n < ops.size) (hap : apartDsts hs)
    (hs1 : Region.sinkB md ops n = true) (hc1 : Region.chainB md ops n = true)
    (hback : ∀ i o, ops[i]? = some o → ∀ e ∈ o.after, Region.binds md e = true → e.on < i)
    (hdeps : ∀ i o, hs[i]? = some o → ∀ j ∈ deps i, j < n ∧ ∃ e ∈ o.after, Region.binds md e = true ∧ e.on = j)
    (hkill : ∀ i o, hs[i]? = some o → ∀ d ∈ deps i, ∀ i' ∈ kills d, i' = i ∨ ∃ o', ops[i']? = some o' ∧ ∃ e ∈ o'.after, Region.binds md e = true ∧ e.on = i)
    (hloc : ∀ j u u' w, (∀ k, (k = j ∨ k ∈ deps j) → u k = u' k) → R j u w → R j u' w)
    (obl : ∀ i o, hs[i]? = some o → ∀ (u : Nat → Value) w, I w → (∀ j ∈ deps i, R j u w) →
      (Region.wanted o (yielded ops (putAll hs u 0 a0).tmps) = true ∧ gives P (fun v w' => R i (upd u i v) w' ∧ I w' ∧ ∀ j u, j ≠ i → i ∉ kills j → R j u w → R j u w') ((execOp (putAll hs u 0 a0).eval o).run P w)) ∨
      (Region.wanted o (yielded ops (putAll hs u 0 a0).tmps) = false ∧ R i (upd u i undef) w))
    (hend : ∀ (u : Nat → Value) w, I w → (∀ j, j < n → kills j = [] → R j u w) → wpAny P md ops Q g (canon n ops.size) (putAll hs u 0 a0) w) :
    ∀ (f : Nat) (listed : Array Bool) (u : Nat → Value) (w : World), unl listed n = f → HeadInv md ops n listed → I w → (∀ j, j < n → listed.getD j false = true → (∀ i ∈ kills j, listed.getD i false = false) → R j u w) →
      wpAny P md ops Q (f + g) listed (putAll hs u 0 a0) w := by
  intro f
  induction f with
  | zero =>
    intro listed u w hf inv hI hR
    rw [Nat.zero_add, eq_canon inv hf]
    refine hend u w hI fun j hj hk0 => hR j hj (getD_false (by rw [inv.size]; omega) (unl_zero hf j hj)) (fun i hi => by rw [hk0] at hi; cases hi)
  | succ f ih =>
    intro listed u w hf inv hI hR
    obtain ⟨k, hk, hku, hkr⟩ := ready_ex inv hback (by omega) (by omega)
    rw [show f + 1 + g = (f + g) + 1 by omega]
    refine ⟨fun h => (by rw [h] at hkr; cases hkr), fun i hi => ?_⟩
    have hin : i < n := by
      rcases Nat.lt_or_ge i n with h | h
      · exact h
      · exact absurd hi (tail_waits hs1 hc1 hn inv _ k rfl hk hku i h)
    obtain ⟨hiu, o, ho, hall⟩ := mem_ready.1 hi
    have ho' : hs[i]? = some o := (hops i hin).trans ho
    have hRd : ∀ j ∈ deps i, R j u w := fun j hj => by
      obtain ⟨hjn, e, he, hb, hon⟩ := hdeps i o ho' j hj
      refine hR j hjn (by rw [← hon]; exact hall e he hb) fun i' hi' => ?_
      rcases hkill i o ho' j hj i' hi' with rfl | ⟨o', ho2, e', he', hb', hon'⟩
      · exact getD_both hiu
      · cases hl : listed.getD i' false with
        | false => rfl
        | true =>
          have h1 := inv.closed i' o' ho2 hl e' he' hb'
          rw [hon', getD_both hiu] at h1
          cases h1
    have next : ∀ v w', R i (upd u i v) w' → I w' → (∀ j u, j ≠ i → i ∉ kills j → R j u w → R j u w') → wpAny P md ops Q (f + g) (listed.setIfInBounds i true) ((putAll hs u 0 a0).put o.dst v) w' := fun v w' hv hI' hst => by
      rw [putAll_set hs u 0 i a0 o v hap ho']
      have hil : i < listed.size := by rw [inv.size]; omega
      refine ih _ _ w' (by have := unl_set hin hiu hil; omega) (inv.set hi hin) hI' fun j hj hl hal => ?_
      have hup : (fun j => if j = 0 + i then v else u j) = upd u i v := by funext j; simp [upd]
      rw [hup]
      by_cases hji : j = i
      · subst hji; exact hv
      · rw [getD_set_ne false (fun h => hji h.symm)] at hl
        have hik : i ∉ kills j := fun hik => by
          have h1 := hal i hik
          have hil2 : i < listed.size := hil
          have : (listed.setIfInBounds i true).getD i false = true := by simp [Array.getD, hil2]
          rw [this] at h1
          cases h1
        refine hloc j u _ w' (fun q hq => ?_) (hst _ _ hji hik (hR j hj hl (fun i' hi' => by
          have h1 := hal i' hi'
          by_cases hii : i' = i
          · subst hii; exact absurd hi' hik
          · rwa [getD_set_ne false (fun h => hii h.symm)] at h1)))
        unfold upd
        rw [if_neg ?_]
        rintro rfl
        rcases hq with rfl | hq
        · exact hji rfl
        · have hjo : ∃ oj, hs[j]? = some oj := by
            have hlen := hops j hj
            have : j < ops.size := by omega
            exact ⟨ops[j], by rw [hlen]; simp [this]⟩
          obtain ⟨oj, hoj⟩ := hjo
          obtain ⟨_, e, he, hb, hon⟩ := hdeps j oj hoj q hq
          have h1 := inv.closed j oj ((hops j hj).symm.trans hoj) hl e he hb
          rw [hon, getD_both hiu] at h1
          cases h1
    unfold wpOp
    simp only [ho]
    rcases obl i o ho' u w hI hRd with ⟨hw, hg⟩ | ⟨hw, hv⟩
    · rw [if_pos hw]
      refine .inl ?_
      unfold Oper.wp
      exact gives_upon (R := fun v w' => R i (upd u i v) w' ∧ I w' ∧ ∀ j u, j ≠ i → i ∉ kills j → R j u w → R j u w') (fun v w' h => next v w' h.1 h.2.1 h.2.2) hg
    · rw [if_neg (by rw [hw]; simp)]
      exact next undef w hv hI (fun _ _ _ _ h => h)
def relXB (md : Region.Mode) (l : List Oper) (n : Nat) (deps kills : Nat → List Nat) : Bool :=
  relB md l n deps && ((List.range n).all fun i => (deps i).all fun d => (kills d).all fun i' => i' == i || (match l[i']? with | some o' => o'.after.any fun e => Region.binds md e && e.on == i | none => false))
theorem wp_region_relXr {id : Nat} {Q : Exit → Act → World → Prop} {a : Act} {w : World} {l : List Oper} (n : Nat) (I : World → Prop) (R : Nat → (Nat → Value) → World → Prop) (deps kills : Nat → List Nat)
    (hm : P.follows .mixedOrders = true) (hB : relXB .any l n deps kills = true) (hloc : ∀ j u u' w, (∀ k, (k = j ∨ k ∈ deps j) → u k = u' k) → R j u w → R j u' w) (hI : I w.drew)
    (obl : ∀ i o, (l.take n)[i]? = some o → ∀ (u : Nat → Value) w, I w → (∀ j ∈ deps i, R j u w) →
      (Region.wanted o (yielded l.toArray (putAll (l.take n) u 0 a).tmps) = true ∧ gives P (fun v w' => R i (upd u i v) w' ∧ I w' ∧ ∀ j u, j ≠ i → i ∉ kills j → R j u w → R j u w') ((execOp (putAll (l.take n) u 0 a).eval o).run P w)) ∨
      (Region.wanted o (yielded l.toArray (putAll (l.take n) u 0 a).tmps) = false ∧ R i (upd u i undef) w))
    (htail : ∀ (u : Nat → Value) w, I w → (∀ j, j < n → kills j = [] → R j u w) → wpList P l.toArray Q (l.drop n) (putAll (l.take n) u 0 a) w) : (Code.region id l.toArray true).wp P Q a w := by
  rw [relXB, Bool.and_eq_true] at hB
  obtain ⟨hB, hkl⟩ := hB
  simp only [relB, Bool.and_eq_true, decide_eq_true_eq, List.all_eq_true, List.mem_range] at hB
  simp only [List.all_eq_true, List.mem_range] at hkl
  obtain ⟨⟨⟨⟨⟨⟨hn, hs1⟩, hc1⟩, hback⟩, hap⟩, hdeps⟩, hseq⟩ := hB
  have hsz : l.toArray.size = l.length := by simp
  refine wp_region_any hm ?_
  have hown : putAll (l.take n) (fun j => slotOf a (((l.take n)[j]?).bind (·.dst))) 0 a = a := putAll_own _ 0 a _ fun j o ho => by simp only [Nat.zero_add]; rw [ho]; rfl
  have hu0 : unl (Array.replicate l.toArray.size false) n = n := by
    have key : ∀ m, m ≤ l.length → unl (Array.replicate l.toArray.size false) m = m := by
      intro m
      induction m with
      | zero => intro _; rfl
      | succ m ih =>
        intro h
        unfold unl
        rw [ih (by omega), if_neg (by simp [Array.getD, show m < l.length by omega])]
    exact key n (by omega)
  have inv0 : HeadInv .any l.toArray n (Array.replicate l.toArray.size false) :=
    ⟨by simp, fun j oj _ hl => (by rw [getD_replicate_false] at hl; cases hl), fun t _ ht => getD_in (by simpa using ht) (getD_replicate_false _ _)⟩
  have H := wpAny_relX (P := P) (ops := l.toArray) (md := .any) (n := n) (g := l.length - n) (hs := l.take n) (a0 := a) (I := I) (R := R) (deps := deps) (kills := kills) (Q := Q)
    (fun j hj => by simp [List.getElem?_take_of_lt hj]) (by simpa using hn)
    (List.pairwise_iff_getElem.2 fun i j hi hj hij d hd => by
      have hi' : i < l.length := by simp at hi; omega
      have hj' : j < l.length := by simp at hj; omega
      have hjn : j < n := by simp at hj; omega
      have := hap j hjn i hij
      rw [List.getElem?_eq_getElem hj', List.getElem?_eq_getElem hi'] at this
      simp only [List.getElem_take] at hd ⊢
      simp only [hd] at this
      simpa using this)
    hs1 hc1
    (fun i o ho e he hb => by
      have ho' : l[i]? = some o := by simpa using ho
      have hil : i < l.length := (List.getElem?_eq_some_iff.1 ho').1
      have := hback i hil
      rw [ho'] at this
      have := Array.all_eq_true'.1 this e he
      simpa [hb] using this)
    (fun i o ho j hj => by
      have hin : i < n := by have := (List.getElem?_eq_some_iff.1 ho).1; simp at this; omega
      have ho' : l[i]? = some o := by rw [List.getElem?_take_of_lt hin] at ho; exact ho
      have := hdeps i hin
      rw [ho'] at this
      have := List.all_eq_true.1 this j hj
      simp only [Bool.and_eq_true, decide_eq_true_eq] at this
      obtain ⟨e, he, hb⟩ := Array.any_eq_true'.1 this.2
      simp only [Bool.and_eq_true, beq_iff_eq] at hb
      exact ⟨this.1, e, he, hb.1, hb.2⟩)
    (fun i o ho d hd i' hi' => by
      have hin : i < n := by have := (List.getElem?_eq_some_iff.1 ho).1; simp at this; omega
      have ho' : l[i]? = some o := by rw [List.getElem?_take_of_lt hin] at ho; exact ho
      have h1 := hkl i hin d hd i' hi'
      rw [Bool.or_eq_true] at h1
      rcases h1 with h1 | h1
      · left; simpa using h1
      · right
        cases ho2 : l[i']? with
        | none => rw [ho2] at h1; cases h1
        | some o' =>
          rw [ho2] at h1
          obtain ⟨e, he, hb⟩ := Array.any_eq_true'.1 h1
          simp only [Bool.and_eq_true, beq_iff_eq] at hb
          exact ⟨o', by simpa using ho2, e, he, hb.1, hb.2⟩)
    hloc obl
    (fun u w' hI' hR => by
      have := wpAny_of_seq (md := .any) (Q' := Q) (l.drop n) n (canon n l.toArray.size) (putAll (l.take n) u 0 a) w' (fun j => by simp [List.getElem?_drop]) (by rw [List.length_drop, hsz]; exact hseq) (htail u w' hI' hR)
      rwa [List.length_drop] at this)
    n (Array.replicate l.toArray.size false) (fun j => slotOf a (((l.take n)[j]?).bind (·.dst))) w.drew hu0 inv0 hI (fun j _ hl _ => by rw [getD_replicate_false] at hl; cases hl)
  rw [hown, show n + (l.length - n) = l.length by omega] at H
  rw [hsz]
  exact H
theorem wp_region_relX {id : Nat} {Q : Exit → Act → World → Prop} {a : Act} {w : World} {l : List Oper} (n : Nat) (I : World → Prop) (K : Nat → World → World → Prop) (R : Nat → (Nat → Value) → World → Prop) (deps kills : Nat → List Nat)
    (hm : P.follows .mixedOrders = true) (hB : relXB .any l n deps kills = true) (hI0 : I w.drew) (hI : ∀ i w w', K i w w' → I w → I w') (hst : ∀ i j u w w', j ≠ i → i ∉ kills j → K i w w' → I w → R j u w → R j u w')
    (obl : relOblK P l.toArray I K R deps (l.take n) a (l.take n) 0)
    (htail : ∀ (u : Nat → Value) w', I w' → (∀ j, j < n → kills j = [] → R j (mask (deps j) j u) w') → wpList P l.toArray Q (l.drop n) (putAll (l.take n) u 0 a) w') : (Code.region id l.toArray true).wp P Q a w := by
  refine wp_region_relXr n I (fun j u w => R j (mask (deps j) j u) w) deps kills hm hB (fun j u u' w h hR => by rw [← mask_congr h]; exact hR) hI0 (fun i o ho u w' hI' hd => ?_) htail
  have h := relOblK_get (l.take n) 0 obl i o ho u w' hI' (by rw [Nat.zero_add]; exact hd)
  rw [Nat.zero_add] at h
  rcases h with ⟨h1, h2⟩ | h
  · exact .inl ⟨h1, gives_mono (fun v w'' ⟨g1, g2⟩ => ⟨g1, hI _ _ _ g2 hI', fun j u hji hjk hj => hst i j _ _ _ hji hjk g2 hI' hj⟩) h2⟩
  · exact .inr h
end
end Go.Proofs.Ytgoapmjcfdbjpaa
namespace Go.Proofs.Ytgoapmjcfdbjpaa
open Go
section
variable {P : Program} {ops : Array Oper} {md : Region.Mode}
def relYB (md : Region.Mode) (l : List Oper) (n : Nat) (deps kills : Nat → List Nat) : Bool :=
  decide (n < l.length) && Region.sinkB md l.toArray n && Region.chainB md l.toArray n &&
  ((List.range l.length).all fun i => match l[i]? with | some o => o.after.all fun e => !Region.binds md e || decide (e.on < i) | none => true) &&
  ((List.range n).all fun i => (List.range i).all fun j => match l[i]?, l[j]? with | some x, some y => (match y.dst with | some d => x.dst != some d | none => true) | _, _ => true) &&
  ((List.range n).all fun i => match l[i]? with | some o => (deps i).all fun j => decide (j < n) && o.after.any fun e => Region.binds md e && (e.on == j || (decide (e.on < i) && (deps e.on).contains j)) | none => true) &&
  Region.seqB md l.toArray (l.length - n) n (canon n l.length) &&
  ((List.range n).all fun i => (deps i).all fun d => (kills d).all fun i' => i' == i || (match l[i']? with | some o' => o'.after.any fun e => Region.binds md e && e.on == i | none => false))
end
end Go.Proofs.Ytgoapmjcfdbjpaa
namespace Go.Proofs.Ytgoapmjcfdbjpaa
open Go
section
variable {P : Program} {ops : Array Oper} {md : Region.Mode}
theorem wpAny_relZ {n g : Nat} {hs : List Oper} {a0 : Act} {I : World → Prop} {S : Nat → World → Prop} {R : Nat → (Nat → Value) → World → Prop} {deps kills : Nat → List Nat} {Q : Exit → Act → World → Prop}
    (hops : ∀ j, j < n → hs[j]? = ops[j]?) (hn : n < ops.size) (hap : apartDsts hs)
    (hs1 : Region.sinkB md ops n = true) (hc1 : Region.chainB md ops n = true)
    (hback : ∀ i o, ops[i]? = some o → ∀ e ∈ o.after, Region.binds md e = true → e.on < i)
    (hdeps : ∀ i o, hs[i]? = some o → ∀ j ∈ deps i, j < n ∧ ∃ e ∈ o.after, Region.binds md e = true ∧ (e.on = j ∨ (e.on < i ∧ j ∈ deps e.on)))
    (hkill : ∀ i o, hs[i]? = some o → ∀ d ∈ deps i, ∀ i' ∈ kills d, i' = i ∨ ∃ o', ops[i']? = some o' ∧ ∃ e ∈ o'.after, Region.binds md e = true ∧ e.on = i)
    (hloc : ∀ j u u' w, (∀ k, (k = j ∨ k ∈ deps j) → u k = u' k) → R j u w → R j u' w)
    (obl : ∀ i o, hs[i]? = some o → ∀ (u : Nat → Value) w, I w → S i w → (∀ j ∈ deps i, R j u w) →
      (Region.wanted o (yielded ops (putAll hs u 0 a0).tmps) = true ∧ gives P (fun v w' => R i (upd u i v) w' ∧ I w' ∧ (∀ j u, j ≠ i → i ∉ kills j → R j u w → R j u w') ∧ (∀ j, j ≠ i → S j w → S j w')) ((execOp (putAll hs u 0 a0).eval o).run P w)) ∨
      (Region.wanted o (yielded ops (putAll hs u 0 a0).tmps) = false ∧ R i (upd u i undef) w))
    (hend : ∀ (u : Nat → Value) w, I w → (∀ j, j < n → kills j = [] → R j u w) → wpAny P md ops Q g (canon n ops.size) (putAll hs u 0 a0) w) :
    ∀ (f : Nat) (listed : Array Bool) (u : Nat → Value) (w : World), unl listed n = f → HeadInv md ops n listed → I w → (∀ j, j < n → listed.getD j false = true → (∀ i ∈ kills j, listed.getD i false = false) → R j u w) → (∀ j, j < n → listed.getD j false = false → S j w) →
      wpAny P md ops Q (f + g) listed (putAll hs u 0 a0) w := by
  have clos : ∀ (listed : Array Bool), HeadInv md ops n listed → ∀ (m j : Nat), j < n → j ≤ m → listed.getD j false = true → ∀ d ∈ deps j, listed.getD d false = true := by
    intro listed inv m
    induction m with
    | zero =>
      intro j hjn hjm hl d hd
      have hj0 : j = 0 := by omega
      subst hj0
      have hoj : ops[0]? = some (ops[0]'(by omega)) := by simp [show 0 < ops.size by omega]
      obtain ⟨_, e, he, hb, hon⟩ := hdeps 0 _ ((hops 0 hjn).trans hoj) d hd
      have h1 := inv.closed 0 _ hoj hl e he hb
      rcases hon with h2 | ⟨h2, _⟩
      · rw [← h2]; exact h1
      · omega
    | succ m ihm =>
      intro j hjn hjm hl d hd
      have hoj : ops[j]? = some (ops[j]'(by omega)) := by simp [show j < ops.size by omega]
      obtain ⟨_, e, he, hb, hon⟩ := hdeps j _ ((hops j hjn).trans hoj) d hd
      have h1 := inv.closed j _ hoj hl e he hb
      rcases hon with h2 | ⟨h2, h3⟩
      · rw [← h2]; exact h1
      · exact ihm e.on (by omega) (by omega) h1 d h3
  intro f
  induction f with
  | zero =>
    intro listed u w hf inv hI hR hS
    rw [Nat.zero_add, eq_canon inv hf]
    refine hend u w hI fun j hj hk0 => hR j hj (getD_false (by rw [inv.size]; omega) (unl_zero hf j hj)) (fun i hi => by rw [hk0] at hi; cases hi)
  | succ f ih =>
    intro listed u w hf inv hI hR hS
    obtain ⟨k, hk, hku, hkr⟩ := ready_ex inv hback (by omega) (by omega)
    rw [show f + 1 + g = (f + g) + 1 by omega]
    refine ⟨fun h => (by rw [h] at hkr; cases hkr), fun i hi => ?_⟩
    have hin : i < n := by
      rcases Nat.lt_or_ge i n with h | h
      · exact h
      · exact absurd hi (tail_waits hs1 hc1 hn inv _ k rfl hk hku i h)
    obtain ⟨hiu, o, ho, hall⟩ := mem_ready.1 hi
    have ho' : hs[i]? = some o := (hops i hin).trans ho
    have hRd : ∀ j ∈ deps i, R j u w := fun j hj => by
      obtain ⟨hjn, e, he, hb, hon⟩ := hdeps i o ho' j hj
      refine hR j hjn (by rcases hon with h2 | ⟨h2, h3⟩; · rw [← h2]; exact hall e he hb
                          · exact clos listed inv e.on e.on (by omega) (Nat.le_refl _) (hall e he hb) j h3) fun i' hi' => ?_
      rcases hkill i o ho' j hj i' hi' with rfl | ⟨o', ho2, e', he', hb', hon'⟩
      · exact getD_both hiu
      · cases hl : listed.getD i' false with
        | false => rfl
        | true =>
          have h1 := inv.closed i' o' ho2 hl e' he' hb'
          rw [hon', getD_both hiu] at h1
          cases h1
    have next : ∀ v w', R i (upd u i v) w' → I w' → (∀ j u, j ≠ i → i ∉ kills j → R j u w → R j u w') → (∀ j, j ≠ i → S j w → S j w') → wpAny P md ops Q (f + g) (listed.setIfInBounds i true) ((putAll hs u 0 a0).put o.dst v) w' := fun v w' hv hI' hst hsS => by
      rw [putAll_set hs u 0 i a0 o v hap ho']
      have hil : i < listed.size := by rw [inv.size]; omega
      refine ih _ _ w' (by have := unl_set hin hiu hil; omega) (inv.set hi hin) hI' (fun j hj hl hal => ?_) fun j hj hl => by
        by_cases hji : j = i
        · subst hji
          have : (listed.setIfInBounds j true).getD j false = true := by simp [Array.getD, hil]
          rw [this] at hl; cases hl
        · exact hsS j hji (hS j hj (by rwa [getD_set_ne false (fun h => hji h.symm)] at hl))
      have hup : (fun j => if j = 0 + i then v else u j) = upd u i v := by funext j; simp [upd]
      rw [hup]
      by_cases hji : j = i
      · subst hji; exact hv
      · rw [getD_set_ne false (fun h => hji h.symm)] at hl
        have hik : i ∉ kills j := fun hik => by
          have h1 := hal i hik
          have hil2 : i < listed.size := hil
          have : (listed.setIfInBounds i true).getD i false = true := by simp [Array.getD, hil2]
          rw [this] at h1
          cases h1
        refine hloc j u _ w' (fun q hq => ?_) (hst _ _ hji hik (hR j hj hl (fun i' hi' => by
          have h1 := hal i' hi'
          by_cases hii : i' = i
          · subst hii; exact absurd hi' hik
          · rwa [getD_set_ne false (fun h => hii h.symm)] at h1)))
        unfold upd
        rw [if_neg ?_]
        rintro rfl
        rcases hq with rfl | hq
        · exact hji rfl
        · have h1 := clos listed inv j j hj (Nat.le_refl _) hl q hq
          rw [getD_both hiu] at h1
          cases h1
    unfold wpOp
    simp only [ho]
    rcases obl i o ho' u w hI (hS i hin (getD_both hiu)) hRd with ⟨hw, hg⟩ | ⟨hw, hv⟩
    · rw [if_pos hw]
      refine .inl ?_
      unfold Oper.wp
      exact gives_upon (R := fun v w' => R i (upd u i v) w' ∧ I w' ∧ (∀ j u, j ≠ i → i ∉ kills j → R j u w → R j u w') ∧ ∀ j, j ≠ i → S j w → S j w') (fun v w' h => next v w' h.1 h.2.1 h.2.2.1 h.2.2.2) hg
    · rw [if_neg (by rw [hw]; simp)]
      exact next undef w hv hI (fun _ _ _ _ h => h) (fun _ _ h => h)
theorem wp_region_relZr {id : Nat} {Q : Exit → Act → World → Prop} {a : Act} {w : World} {l : List Oper} (n : Nat) (I : World → Prop) (S : Nat → World → Prop) (R : Nat → (Nat → Value) → World → Prop) (deps kills : Nat → List Nat)
    (hm : P.follows .mixedOrders = true) (hB : relYB .any l n deps kills = true) (hloc : ∀ j u u' w, (∀ k, (k = j ∨ k ∈ deps j) → u k = u' k) → R j u w → R j u' w) (hI : I w.drew) (hS0 : ∀ j, S j w.drew)
    (obl : ∀ i o, (l.take n)[i]? = some o → ∀ (u : Nat → Value) w, I w → S i w → (∀ j ∈ deps i, R j u w) →
      (Region.wanted o (yielded l.toArray (putAll (l.take n) u 0 a).tmps) = true ∧ gives P (fun v w' => R i (upd u i v) w' ∧ I w' ∧ (∀ j u, j ≠ i → i ∉ kills j → R j u w → R j u w') ∧ (∀ j, j ≠ i → S j w → S j w')) ((execOp (putAll (l.take n) u 0 a).eval o).run P w)) ∨
      (Region.wanted o (yielded l.toArray (putAll (l.take n) u 0 a).tmps) = false ∧ R i (upd u i undef) w))
    (htail : ∀ (u : Nat → Value) w, I w → (∀ j, j < n → kills j = [] → R j u w) → wpList P l.toArray Q (l.drop n) (putAll (l.take n) u 0 a) w) : (Code.region id l.toArray true).wp P Q a w := by
  simp only [relYB, Bool.and_eq_true, decide_eq_true_eq, List.all_eq_true, List.mem_range] at hB
  obtain ⟨⟨⟨⟨⟨⟨⟨hn, hs1⟩, hc1⟩, hback⟩, hap⟩, hdeps⟩, hseq⟩, hkl⟩ := hB
  have hsz : l.toArray.size = l.length := by simp
  refine wp_region_any hm ?_
  have hown : putAll (l.take n) (fun j => slotOf a (((l.take n)[j]?).bind (·.dst))) 0 a = a := putAll_own _ 0 a _ fun j o ho => by simp only [Nat.zero_add]; rw [ho]; rfl
  have hu0 : unl (Array.replicate l.toArray.size false) n = n := by
    have key : ∀ m, m ≤ l.length → unl (Array.replicate l.toArray.size false) m = m := by
      intro m
      induction m with
      | zero => intro _; rfl
      | succ m ih =>
        intro h
        unfold unl
        rw [ih (by omega), if_neg (by simp [Array.getD, show m < l.length by omega])]
    exact key n (by omega)
  have inv0 : HeadInv .any l.toArray n (Array.replicate l.toArray.size false) :=
    ⟨by simp, fun j oj _ hl => (by rw [getD_replicate_false] at hl; cases hl), fun t _ ht => getD_in (by simpa using ht) (getD_replicate_false _ _)⟩
  have H := wpAny_relZ (P := P) (ops := l.toArray) (md := .any) (n := n) (g := l.length - n) (hs := l.take n) (a0 := a) (I := I) (S := S) (R := R) (deps := deps) (kills := kills) (Q := Q)
    (fun j hj => by simp [List.getElem?_take_of_lt hj]) (by simpa using hn)
    (List.pairwise_iff_getElem.2 fun i j hi hj hij d hd => by
      have hi' : i < l.length := by simp at hi; omega
      have hj' : j < l.length := by simp at hj; omega
      have hjn : j < n := by simp at hj; omega
      have := hap j hjn i hij
      rw [List.getElem?_eq_getElem hj', List.getElem?_eq_getElem hi'] at this
      simp only [List.getElem_take] at hd ⊢
      simp only [hd] at this
      simpa using this)
    hs1 hc1
    (fun i o ho e he hb => by
      have ho' : l[i]? = some o := by simpa using ho
      have hil : i < l.length := (List.getElem?_eq_some_iff.1 ho').1
      have := hback i hil
      rw [ho'] at this
      have := Array.all_eq_true'.1 this e he
      simpa [hb] using this)
    (fun i o ho j hj => by
      have hin : i < n := by have := (List.getElem?_eq_some_iff.1 ho).1; simp at this; omega
      have ho' : l[i]? = some o := by rw [List.getElem?_take_of_lt hin] at ho; exact ho
      have := hdeps i hin
      rw [ho'] at this
      have := List.all_eq_true.1 this j hj
      simp only [Bool.and_eq_true, decide_eq_true_eq] at this
      obtain ⟨e, he, hb⟩ := Array.any_eq_true'.1 this.2
      simp only [Bool.and_eq_true, Bool.or_eq_true, beq_iff_eq, decide_eq_true_eq, List.contains_iff_mem] at hb
      exact ⟨this.1, e, he, hb.1, hb.2⟩)
    (fun i o ho d hd i' hi' => by
      have hin : i < n := by have := (List.getElem?_eq_some_iff.1 ho).1; simp at this; omega
      have ho' : l[i]? = some o := by rw [List.getElem?_take_of_lt hin] at ho; exact ho
      have h1 := hkl i hin d hd i' hi'
      rw [Bool.or_eq_true] at h1
      rcases h1 with h1 | h1
      · left; simpa using h1
      · right
        cases ho2 : l[i']? with
        | none => rw [ho2] at h1; cases h1
        | some o' =>
          rw [ho2] at h1
          obtain ⟨e, he, hb⟩ := Array.any_eq_true'.1 h1
          simp only [Bool.and_eq_true, beq_iff_eq] at hb
          exact ⟨o', by simpa using ho2, e, he, hb.1, hb.2⟩)
    hloc obl
    (fun u w' hI' hR => by
      have := wpAny_of_seq (md := .any) (Q' := Q) (l.drop n) n (canon n l.toArray.size) (putAll (l.take n) u 0 a) w' (fun j => by simp [List.getElem?_drop]) (by rw [List.length_drop, hsz]; exact hseq) (htail u w' hI' hR)
      rwa [List.length_drop] at this)
    n (Array.replicate l.toArray.size false) (fun j => slotOf a (((l.take n)[j]?).bind (·.dst))) w.drew hu0 inv0 hI (fun j _ hl _ => by rw [getD_replicate_false] at hl; cases hl) (fun j _ _ => hS0 j)
  rw [hown, show n + (l.length - n) = l.length by omega] at H
  rw [hsz]
  exact H
def relOblZ (P : Program) (ops : Array Oper) (I : World → Prop) (S : Nat → World → Prop) (K : Nat → World → World → Prop) (R : Nat → (Nat → Value) → World → Prop) (deps : Nat → List Nat) (hs : List Oper) (a0 : Act) : List Oper → Nat → Prop
  | [], _ => True
  | o :: r, i => (∀ (u : Nat → Value) w, I w → S i w → (∀ j ∈ deps i, R j (mask (deps j) j u) w) → owesK P ops (fun v w' => R i (mask (deps i) i (upd u i v)) w') (K i) (putAll hs u 0 a0) o w) ∧ relOblZ P ops I S K R deps hs a0 r (i + 1)
theorem relOblZ_get {I : World → Prop} {S : Nat → World → Prop} {K : Nat → World → World → Prop} {R : Nat → (Nat → Value) → World → Prop} {deps : Nat → List Nat} {hs : List Oper} {a0 : Act} : ∀ (l : List Oper) (k : Nat), relOblZ P ops I S K R deps hs a0 l k → ∀ j o, l[j]? = some o →
    (∀ (u : Nat → Value) w, I w → S (k + j) w → (∀ i ∈ deps (k + j), R i (mask (deps i) i u) w) → owesK P ops (fun v w' => R (k + j) (mask (deps (k + j)) (k + j) (upd u (k + j) v)) w') (K (k + j)) (putAll hs u 0 a0) o w)
  | [], _, _, j, o, h => by simp at h
  | x :: r, k, h, j, o, ho => by
    cases j with
    | zero =>
      simp only [List.getElem?_cons_zero, Option.some.injEq] at ho
      subst ho
      exact h.1
    | succ j =>
      have := relOblZ_get r (k + 1) h.2 j o (by simpa using ho)
      rw [show k + 1 + j = k + (j + 1) by omega] at this
      exact this
theorem wp_region_relZ {id : Nat} {Q : Exit → Act → World → Prop} {a : Act} {w : World} {l : List Oper} (n : Nat) (I : World → Prop) (S : Nat → World → Prop) (K : Nat → World → World → Prop) (R : Nat → (Nat → Value) → World → Prop) (deps : Nat → List Nat)
    (hm : P.follows .mixedOrders = true) (hB : relYB .any l n deps (fun _ => []) = true) (hI0 : I w.drew) (hS0 : ∀ j, S j w.drew) (hI : ∀ i w w', K i w w' → I w → I w') (hS : ∀ i j w w', j ≠ i → K i w w' → I w → S j w → S j w') (hst : ∀ i j u w w', j ≠ i → K i w w' → I w → R j u w → R j u w')
    (obl : relOblZ P l.toArray I S K R deps (l.take n) a (l.take n) 0)
    (htail : ∀ (u : Nat → Value) w', I w' → (∀ j, j < n → R j (mask (deps j) j u) w') → wpList P l.toArray Q (l.drop n) (putAll (l.take n) u 0 a) w') : (Code.region id l.toArray true).wp P Q a w := by
  refine wp_region_relZr n I S (fun j u w => R j (mask (deps j) j u) w) deps (fun _ => []) hm hB (fun j u u' w h hR => by rw [← mask_congr h]; exact hR) hI0 hS0 (fun i o ho u w' hI' hS' hd => ?_) (fun u w' hI' hR => htail u w' hI' fun j hj => hR j hj rfl)
  have h := relOblZ_get (l.take n) 0 obl i o ho u w' hI' (by rw [Nat.zero_add]; exact hS') (by rw [Nat.zero_add]; exact hd)
  rw [Nat.zero_add] at h
  rcases h with ⟨h1, h2⟩ | h
  · exact .inl ⟨h1, gives_mono (fun v w'' ⟨g1, g2⟩ => ⟨g1, hI _ _ _ g2 hI', (fun j u hji _ hj => hst i j _ _ _ hji g2 hI' hj), fun j hji hj => hS i j _ _ hji g2 hI' hj⟩) h2⟩
  · exact .inr h
end
end Go.Proofs.Ytgoapmjcfdbjpaa
namespace Go.Proofs.Ytgoapmjcfdbjpaa
open Go.RowKit
def SameBut (e : TypeId) (w w' : World) : Prop := ∀ (b : Nat) (cs : Array Value) (t : TypeId) (fr : Nat × Nat), w.heap[b]? = some (.cells cs t fr) → t ≠ e → w'.heap[b]? = some (.cells cs t fr)
theorem SameBut.trans {e : TypeId} {a b c : World} (h : SameBut e a b) (k : SameBut e b c) : SameBut e a c := fun q cs t fr hq ht => k q cs t fr (h q cs t fr hq ht) ht
section
variable {α : Type} {R : Rd α} {k : Nat} {w w' : World} {v : Value} {l m : List α} {B : Nat} {e : TypeId}
end
section
variable {P : Program} {α : Type} {R : Rd α} {k : Nat} {l m : List α} {B : Nat} {e : TypeId}
end
def StrX (e : TypeId) (w : World) (v : Value) (l : List ByteArray) : Prop := StrAt w v l ∧ (0 < l.length → ∃ (b o n c : Nat) (cs : Array Value) (t : TypeId) (fr : Nat × Nat), v = .slice (some ⟨b, o, none⟩) n c ∧ w.heap[b]? = some (.cells cs t fr) ∧ t ≠ e)
theorem StrX.stays {e : TypeId} {w w' : World} {v : Value} {l : List ByteArray} (h : StrX e w v l) (hs : SameBut e w w') : StrX e w' v l := by
  obtain ⟨h1, h2⟩ := h
  refine ⟨?_, fun hl => ?_⟩
  · rcases h1 with h3 | ⟨a, c, rfl, h3, h4, h5⟩
    · exact .inl h3
    · refine .inr ⟨a, c, rfl, h3, h4, fun j x hx => ?_⟩
      have hl : 0 < l.length := by have := (List.getElem?_eq_some_iff.1 hx).1; omega
      obtain ⟨b, o, n, c', cs, t, fr, hv, hb, ht⟩ := h2 hl
      cases hv
      have h6 := h5 j x hx
      have hb' := hs b cs t fr hb ht
      rw [add_plain'] at h6 ⊢
      rw [World.cell?_of_block (a := ⟨b, o + j, none⟩) (w := w) (w' := w') (by show w'.heap[b]? = w.heap[b]?; rw [hb, hb'])]
      exact h6
  · obtain ⟨b, o, n, c', cs, t, fr, hv, hb, ht⟩ := h2 hl
    exact ⟨b, o, n, c', cs, t, fr, hv, hs b cs t fr hb ht, ht⟩
end Go.Proofs.Ytgoapmjcfdbjpaa
namespace Go.Proofs.Ytgoapmjcfdbjpaa
open Go.RowKit Go.MapKept Go.ChangeMaps
theorem own_keepB {w w' : World} {B : Nat} {v : Value} {l : List ByteArray} (h : OwnAt RString 1 w B 9 v l) (hb : ∀ q, v.ownBlock = some q → w'.heap[q]? = w.heap[q]?) : OwnAt RString 1 w' B 9 v l := by
  obtain ⟨css, h1, h2, h3, h4⟩ := h
  refine ⟨css, h1, h2, ⟨h3.1, ?_⟩, h4⟩
  rcases h3.2 with h5 | ⟨q, cap, cur, rfl, hB, hh, hr⟩
  · exact .inl h5
  · exact .inr ⟨q, cap, cur, rfl, hB, (hb q rfl).trans hh, hr⟩
theorem own_turned {w w' : World} {B b : Nat} {v : Value} {l : List ByteArray} (h : OwnAt RString 1 w B 9 v l) (ht : w.mapTurned w' b) : OwnAt RString 1 w' B 9 v l :=
  own_keepB h fun q hq => turned_block ht fun e => by
    obtain ⟨_, _, cur, h1⟩ := h.at hq
    obtain ⟨es, clock, _, _, hb, _⟩ := ht
    rw [e, hb] at h1; cases h1
theorem below_grown {w w' : World} (h : Below w.heap.size w w') (row : Option Nat) : w.grownBy w' row := ⟨h.os, h.tape, h.output, h.size, fun k hk _ => h.block k hk⟩
theorem grown_trans {a b c : World} {row : Option Nat} (h : a.grownBy b row) (k : b.grownBy c row) : a.grownBy c row := ⟨k.os.trans h.os, k.tape.trans h.tape, k.output.trans h.output, Nat.le_trans h.size k.size, fun i hi hne => (k.block i (Nat.lt_of_lt_of_le hi h.size) hne).trans (h.block i hi hne)⟩
theorem below_drewF (w : World) : Below w.heap.size w w.drew := (Below.refl _ w).drew
structure OwnsF (w : World) (lo b n : Nat) (f : KB → Option Value) (g : ByteArray → List ByteArray) : Prop where
  map : MapS Try.prog 9 w b n f
  row : ∀ (s : ByteArray) v, f s.data.toList = some v → OwnAt RString 1 w lo 9 v (g s)
  no : ∀ s : ByteArray, f s.data.toList = none → g s = []
  apart : ∀ k k' v v' q, k ≠ k' → f k = some v → f k' = some v' → v.ownBlock = some q → v'.ownBlock ≠ some q
  lo : lo ≤ b
def OwnsAt (w : World) (lo b n : Nat) (g : ByteArray → List ByteArray) : Prop := ∃ f, OwnsF w lo b n f g
def valO (f : KB → Option Value) (s : ByteArray) : Value := (f s.data.toList).getD (.slice none 0 0)
section
variable {w w' : World} {lo b n : Nat} {f : KB → Option Value} {g : ByteArray → List ByteArray}
theorem kb_form (k : KB) : ∃ s : ByteArray, s.data.toList = k := ⟨⟨k.toArray⟩, by simp⟩
theorem OwnsF.at (h : OwnsF w lo b n f g) (s : ByteArray) : OwnAt RString 1 w lo 9 (valO f s) (g s) := by
  unfold valO
  cases hk : f s.data.toList with
  | none => rw [h.no s hk]; exact OwnAt.nil w
  | some v => exact h.row s v hk
theorem OwnsF.kept (h : OwnsF w lo b n f g) (hb : w'.heap[b]? = w.heap[b]?) (hr : ∀ k v q, f k = some v → v.ownBlock = some q → w'.heap[q]? = w.heap[q]?) : OwnsF w' lo b n f g :=
  ⟨h.map.block hb, fun s v hk => own_keepB (h.row s v hk) fun q hq => hr _ v q hk hq, h.no, h.apart, h.lo⟩
theorem OwnsF.lt (h : OwnsF w lo b n f g) {k : KB} {v : Value} {q : Nat} (hk : f k = some v) (hq : v.ownBlock = some q) : lo ≤ q ∧ q < w.heap.size ∧ q ≠ b := by
  obtain ⟨s, rfl⟩ := kb_form k
  obtain ⟨h1, h2, cur, h3⟩ := (h.row s v hk).at hq
  exact ⟨h1, h2, fun e => h.map.ne h3 e.symm⟩
theorem OwnsF.below (h : OwnsF w lo b n f g) (hb : Below w.heap.size w w') : OwnsF w' lo b n f g := h.kept (hb.block b h.map.lt) fun _ _ q hk hq => hb.block q (h.lt hk hq).2.1
theorem OwnsAt.below (h : OwnsAt w lo b n g) (hb : Below w.heap.size w w') : OwnsAt w' lo b n g := let ⟨f, h⟩ := h; ⟨f, h.below hb⟩
theorem OwnsF.turned {m : Nat} (h : OwnsF w lo b n f g) (ht : w.mapTurned w' m) (hne : b ≠ m) : OwnsF w' lo b n f g :=
  h.kept (turned_block ht hne) fun k v q hk hq => turned_block ht fun e => by
    obtain ⟨s, rfl⟩ := kb_form k
    obtain ⟨_, _, cur, h1⟩ := (h.row s v hk).at hq
    obtain ⟨es, clock, _, _, hb, _⟩ := ht
    rw [e, hb] at h1; cases h1
theorem OwnsF.congr {g' : ByteArray → List ByteArray} (h : OwnsF w lo b n f g) (hg : ∀ s, g s = g' s) : OwnsF w lo b n f g' := by
  have : g = g' := funext hg
  subst this
  exact h
theorem owns_made (w : World) (lo : Nat) (h : lo ≤ w.heap.size) : OwnsF (w.alloc (.map #[] 0)) lo w.heap.size 0 (fun _ => none) fun _ => [] :=
  ⟨mapS_made _ _ _, fun _ _ h => (by cases h), fun _ _ => rfl, fun _ _ _ _ _ _ h => (by cases h), h⟩
theorem OwnsF.put {w1 : World} {s u : ByteArray} {v' : Value} (h : OwnsF w lo b n f g) (hg : w.grownBy w1 (valO f s).ownBlock) (hv : OwnAt RString 1 w1 lo 9 v' (g s ++ [u])) (hn : v'.ownBlock = (valO f s).ownBlock ∨ ∃ q, v'.ownBlock = some q ∧ w.heap.size ≤ q)
    (hm : MapS Try.prog 9 w' b (n + 1) (updF f s.data.toList v')) (ht : w1.mapTurned w' b) : OwnsF w' lo b (n + 1) (updF f s.data.toList v') fun z => if z = s then g s ++ [u] else g z := by
  have hval : ∀ q, (valO f s).ownBlock = some q → ∃ v, f s.data.toList = some v ∧ v.ownBlock = some q := fun q hq => by
    unfold valO at hq
    cases hk : f s.data.toList with
    | none => rw [hk] at hq; cases hq
    | some v => rw [hk] at hq; exact ⟨v, rfl, hq⟩
  have hold : ∀ k v q, k ≠ s.data.toList → f k = some v → v.ownBlock = some q → v'.ownBlock ≠ some q := fun k v q hne hk hq hq' => by
    rcases hn with e | ⟨q', e, hle⟩
    · rw [e] at hq'
      obtain ⟨v2, hk2, hq2⟩ := hval q hq'
      exact h.apart k _ v v2 q hne hk hk2 hq hq2
    · rw [e] at hq'
      cases hq'
      have := (h.lt hk hq).2.1
      omega
  refine ⟨hm, fun z v hz => ?_, fun z hz => ?_, fun k k' v v2 q hne hk hk' hq => ?_, h.lo⟩
  · unfold updF at hz
    by_cases e : z = s
    · subst e
      rw [if_pos rfl] at hz ⊢
      cases hz
      exact own_turned hv ht
    · rw [if_neg (fun e' => e (kb_eq e'))] at hz
      rw [if_neg e]
      refine own_turned (own_keepB (h.row z v hz) fun q hq => hg.block q (h.lt hz hq).2.1 fun e2 => ?_) ht
      obtain ⟨v2, hk2, hq2⟩ := hval q e2.symm
      exact h.apart _ _ v v2 q (fun e' => e (kb_eq e')) hz hk2 hq hq2
  · unfold updF at hz
    by_cases e : z = s
    · subst e; rw [if_pos rfl] at hz; cases hz
    · rw [if_neg (fun e' => e (kb_eq e'))] at hz
      rw [if_neg e]
      exact h.no z hz
  · unfold updF at hk hk'
    by_cases e : k = s.data.toList
    · rw [if_pos e] at hk
      cases hk
      rw [if_neg (fun e2 => hne (e.trans e2.symm))] at hk'
      exact fun hq' => hold k' v2 q (fun e2 => hne (e.trans e2.symm)) hk' hq' hq
    · rw [if_neg e] at hk
      by_cases e' : k' = s.data.toList
      · rw [if_pos e'] at hk'
        cases hk'
        exact hold k v q e hk hq
      · rw [if_neg e'] at hk'
        exact h.apart k k' v v2 q hne hk hk' hq
theorem Try.zeroStrsR (w : World) : (zeroValue 23).run Try.prog w = .ok (.slice none 0 0) w := by kernel_rfl
theorem OwnsF.look (h : OwnsF w lo b n f g) (s : ByteArray) (hs : s.size ≤ maxLen) : (Instr.lookup 54 (.map (some b)) (.string s) false).run Try.prog w = .ok (valO f s) w :=
  (h.map.look Try.underlying9 Try.underlying54 (Try.zeroStrsR w) s hs).2
end
theorem exec_appendR {P : Program} {a : Act} {o : Oper} {w w3 : World} {s x : Operand} {t : TypeId} {v xv v' : Value} (ho : o.op = .call { callee := .builtin .append, args := #[s, x], argTypes := #[t, t] }) (hs : a.eval s = v) (hx : a.eval x = xv)
    (hrun : (Builtin.append_ #[t, t] o.type #[v, xv]).run P w = .ok v' w3) : (execOp a.eval o).run P w = .ok (.value v') w3 := by
  simp [execOp, ho, resolve, invoke, builtin, hs, hx, hrun, Result.andThen]
theorem app_text {w : World} {B : Nat} {V X : Value} {L : List ByteArray} {z : ByteArray} {q : Nat} (h : OwnAt RString 1 w B 9 V L) (hL : L.length ≤ 1048576)
    (hX : X = .slice (some ⟨q, 0, none⟩) 1 1) (hg : w.heap[q]? = some (.cells #[.string z] 9 (0, 0))) (hB : B ≤ w.heap.size) :
    ∃ v' w', (Builtin.append_ #[23, 23] 23 #[V, X]).run Try.prog w = .ok v' w' ∧ OwnAt RString 1 w' B 9 v' (L ++ [z]) ∧ w.grownBy w' V.ownBlock ∧ (v'.ownBlock = V.ownBlock ∨ v'.ownBlock = some w.heap.size) := by
  obtain ⟨i0, hi0, hz0, hz1, hz2⟩ := info_parts Try.infoStr
  obtain ⟨v', w', hrun, r1, r2, _, r4⟩ := run_append_ownAt (P := Try.prog) w 23 23 i0 _ 16 Try.underlying23 hi0 hz0 hz1 hz2 rfl (by omega) flat_string one_string V h X (m := [z]) (by rw [hX]; exact RowAt.one hg rfl rfl) (by unfold maxLen; simp; omega) (by simp; omega) hB
  exact ⟨v', w', hrun, r1, r2, r4⟩
def ownsB (l : List GCard) (o : ByteArray) : List ByteArray := Rf.ownsL (cds l) o
def stG (l : List GCard) (i : Nat) (x : GCard) (j : Nat) (o : ByteArray) : List ByteArray := ownsB (l.take i) o ++ if o ∈ x.owners.take j then [x.uid] else []
theorem stG_zero (l : List GCard) (i : Nat) (x : GCard) (o : ByteArray) : stG l i x 0 o = ownsB (l.take i) o := by unfold stG; simp
theorem ownsB_more {l : List GCard} {i : Nat} {x : GCard} (hx : l[i]? = some x) (o : ByteArray) : ownsB (l.take (i + 1)) o = ownsB (l.take i) o ++ if o ∈ x.owners then [x.uid] else [] := by
  unfold ownsB Rf.ownsL cds
  rw [Rf.take_succ hx, List.map_append, List.filter_append, List.map_append]
  congr 1
  by_cases h : o ∈ x.owners
  · rw [if_pos h]; simp [cdOf, h]
  · rw [if_neg h]; simp [cdOf, h]
theorem stG_end {l : List GCard} {i : Nat} {x : GCard} (hx : l[i]? = some x) {j : Nat} (hj : x.owners.length ≤ j) (o : ByteArray) : stG l i x j o = ownsB (l.take (i + 1)) o := by
  rw [ownsB_more hx]; unfold stG; rw [List.take_of_length_le hj]
theorem ownsB_len (l : List GCard) (o : ByteArray) : (ownsB l o).length ≤ l.length := by
  have := (Rf.owns_sub (cds l) o).length_le
  rw [cds_uids, List.length_map] at this
  exact this
theorem stG_len (l : List GCard) (i : Nat) (x : GCard) (j : Nat) (o : ByteArray) : (stG l i x j o).length ≤ l.length + 1 := by
  unfold stG
  rw [List.length_append]
  have h1 := ownsB_len (l.take i) o
  have h2 : (l.take i).length ≤ l.length := by rw [List.length_take]; omega
  have h3 : (if o ∈ x.owners.take j then [x.uid] else []).length ≤ 1 := by split <;> simp
  omega
theorem stG_mem {l : List GCard} (hn : (l.map (·.uid)).Nodup) {i : Nat} {x : GCard} (hx : l[i]? = some x) (j : Nat) (o : ByteArray) : x.uid ∈ stG l i x j o ↔ o ∈ x.owners.take j := by
  have hno : x.uid ∉ ownsB (l.take i) o := fun h => by
    have h1 := Rf.owns_uids h
    obtain ⟨y, hy, he⟩ := List.mem_map.1 h1
    have h2 := (Rf.uid_apart (l := cds l) (by rw [cds_uids]; exact hn) (cds_get hx)).1 y (by
      unfold cds at hy ⊢
      rwa [← List.map_take])
    exact h2 he
  unfold stG
  rw [List.mem_append]
  constructor
  · rintro (h | h)
    · exact (hno h).elim
    · split at h
      · assumption
      · cases h
  · intro h
    rw [if_pos h]
    exact .inr (by simp)
theorem stG_same {l : List GCard} {i : Nat} {x : GCard} {j : Nat} {y : ByteArray} (hy : x.owners[j]? = some y) (hin : y ∈ x.owners.take j) (o : ByteArray) : stG l i x j o = stG l i x (j + 1) o := by
  unfold stG
  congr 1
  rw [Rf.take_succ hy]
  by_cases h : o ∈ x.owners.take j
  · rw [if_pos h, if_pos (List.mem_append_left _ h)]
  · rw [if_neg h, if_neg]
    intro h'
    rcases List.mem_append.1 h' with h' | h'
    · exact h h'
    · simp only [List.mem_singleton] at h'; subst h'; exact h hin
theorem stG_put {l : List GCard} {i : Nat} {x : GCard} {j : Nat} {y : ByteArray} (hy : x.owners[j]? = some y) (hin : y ∉ x.owners.take j) (o : ByteArray) : (if o = y then stG l i x j y ++ [x.uid] else stG l i x j o) = stG l i x (j + 1) o := by
  unfold stG
  rw [Rf.take_succ hy]
  by_cases e : o = y
  · subst e
    rw [if_pos rfl, if_neg hin, if_pos (by simp), List.append_nil]
  · rw [if_neg e]
    congr 1
    by_cases h : o ∈ x.owners.take j
    · rw [if_pos h, if_pos (List.mem_append_left _ h)]
    · rw [if_neg h, if_neg]
      intro h'
      rcases List.mem_append.1 h' with h' | h'
      · exact h h'
      · simp only [List.mem_singleton] at h'; exact e h'
end Go.Proofs.Ytgoapmjcfdbjpaa
namespace Go.Proofs.Ytgoapmjcfdbjpaa
open Go.RowKit Go.MapKept Go.ChangeMaps
theorem results_one_box {P : Program} {fn : Func} {p : Tmp} {ty : TypeId} (h : fn.results = #[.cell p ty]) (tmps : Array Value) (w : World) (g : Nat) (t : TypeId) (cs : Array Value) (fr : Nat × Nat) (d : TypeDesc)
    (hp : tmps.getD p undef = .pointer (some ⟨g, 0, none⟩)) (hg : w.heap[g]? = some (.cells cs t fr))
    (hu : P.underlying ty = some d) (hd : (match d with | .struct _ | .array _ _ => true | _ => false) = true) (hi : (P.info? ty).map (·.size) = some cs.size) :
    (results fn tmps).run P w = .ok (.agg cs) w := by
  have hp' : tmps[p]?.getD undef = .pointer (some ⟨g, 0, none⟩) := by simpa using hp
  simp [results, h, hp', asAddr, run_loadVar_row w g t ty cs fr d hg hu hd hi]
theorem Try.sizeGraph : (Try.prog.info? 56).map (·.size) = some 2 := by kernel_rfl
structure GraphAt (w : World) (lo tb ob n : Nat) (T : KB → Option Value) (f : KB → Option Value) (l : List GCard) : Prop where
  there : MapS Try.prog 9 w tb l.length T
  seen : SeenM T (l.map (·.uid))
  owns : OwnsF w lo ob n f (ownsB l)
  ne : tb ≠ ob
  tlo : lo ≤ tb
theorem GraphAt.below {w w' : World} {lo tb ob n : Nat} {T f : KB → Option Value} {l : List GCard} (h : GraphAt w lo tb ob n T f l) (hb : Below w.heap.size w w') : GraphAt w' lo tb ob n T f l :=
  ⟨h.there.belowW hb, h.seen, h.owns.below hb, h.ne, h.tlo⟩
set_option maxRecDepth 100000 in
set_option maxHeartbeats 6400000 in
theorem refsOf_any (v : Value) (l : List GCard) (w : World) (h : RowAt CardR 2 w v l) (hok : OkCards l) (hgd : GoodL l) :
    Calls Try.prog 22 #[v] w fun e w' => ∃ tb ob n T f, e = .returned (.agg #[.map (some tb), .map (some ob)]) ∧ GraphAt w' w.heap.size tb ob n T f l ∧ n ≤ 300 ∧ Below w.heap.size w w' := by
  obtain ⟨a1, c1, rfl, -, -⟩ := h.len
  obtain ⟨nl, hnl⟩ : ∃ n, l.length = n := ⟨_, rfl⟩
  have hl := hgd.len
  rw [hnl] at h hl ⊢
  have HRow := Lib.hid h
  have Hnl := Lib.hid hnl
  have Hs := Lib.hid hok.2
  have Hgd := Lib.hid hgd
  have hmm := @run_makeMap Try.prog
  clear h hok hnl hgd
  go_enter Try.func22, Try.ntmps22
  go_upto_region 2 with fail
  obtain ⟨gR, hgR⟩ : ∃ b, b = w.heap.size := ⟨_, rfl⟩
  obtain ⟨tb, htb⟩ : ∃ b, b = w.heap.size + 1 := ⟨_, rfl⟩
  obtain ⟨ob, hob⟩ : ∃ b, b = w.heap.size + 1 + 1 := ⟨_, rfl⟩
  obtain ⟨gg, hgg⟩ : ∃ b, b = w.heap.size + 1 + 1 + 1 := ⟨_, rfl⟩
  obtain ⟨wa, hwa⟩ : ∃ x, x = w.alloc (.cells #[.map none, .map none] 56) := ⟨_, rfl⟩
  obtain ⟨wb, hwb⟩ : ∃ x, x = wa.alloc (.map #[] 0) := ⟨_, rfl⟩
  obtain ⟨wc, hwc⟩ : ∃ x, x = wb.alloc (.map #[] 0) := ⟨_, rfl⟩
  obtain ⟨wd, hwd⟩ : ∃ x, x = wc.alloc (.cells #[.map (some tb), .map (some ob)] 56) := ⟨_, rfl⟩
  have sa : wa.heap.size = w.heap.size + 1 := by rw [hwa, World.size_alloc]
  have sb : wb.heap.size = w.heap.size + 1 + 1 := by rw [hwb, World.size_alloc, sa]
  have sc : wc.heap.size = w.heap.size + 1 + 1 + 1 := by rw [hwc, World.size_alloc, sb]
  have ba : Below w.heap.size w wa := by rw [hwa]; exact (Below.refl _ w).alloc (Nat.le_refl _) _
  have bb : Below wa.heap.size wa wb := by rw [hwb]; exact (Below.refl _ wa).alloc (Nat.le_refl _) _
  have bc : Below wb.heap.size wb wc := by rw [hwc]; exact (Below.refl _ wb).alloc (Nat.le_refl _) _
  have bd : Below wc.heap.size wc wd := by rw [hwd]; exact (Below.refl _ wc).alloc (Nat.le_refl _) _
  have bac : Below wa.heap.size wa wc := bb.trans (bc.mono (by omega))
  have bad : Below wa.heap.size wa wd := bac.trans (bd.mono (by omega))
  have hRa : wa.heap[gR]? = some (.cells #[.map none, .map none] 56 (0, 0)) := by rw [hwa, hgR]; exact heap_alloc_new w _
  have hRd := below_block bad hRa
  have hGd : wd.heap[gg]? = some (.cells #[.map (some tb), .map (some ob)] 56 (0, 0)) := by rw [hwd, hgg, ← sc]; exact heap_alloc_new wc _
  have hTb : MapS Try.prog 9 wb tb 0 fun _ => none := by rw [hwb, htb, ← sa]; exact mapS_made _ _ _
  have hTd : MapS Try.prog 9 wd tb 0 fun _ => none := hTb.belowW (bc.trans (bd.mono (by omega)))
  have hOc : OwnsF wc w.heap.size ob 0 (fun _ => none) fun _ => [] := by rw [hwc, hob, ← sb]; exact owns_made wb _ (by omega)
  have hOd := hOc.below bd
  have BR0 := Lib.hid hRd
  have BG0 := Lib.hid hGd
  have HM0 := Lib.hid hTd
  have HO0 : Hid (OwnsF wd w.heap.size ob 0 (fun _ => none) (ownsB (l.take 0))) := Lib.hid (hOd.congr fun s => by simp [ownsB, cds, Rf.ownsL])
  have HB0 : Hid (Below w.heap.size w wd) := Lib.hid (ba.trans (bad.mono (by omega)))
  have HS0 : Hid (SeenM (fun _ => none) ((l.take 0).map (·.uid))) := Lib.hid fun s => by simp
  have Hne : Hid (tb ≠ ob ∧ w.heap.size ≤ tb ∧ w.heap.size ≤ ob ∧ w.heap.size ≤ gR ∧ gR ≠ gg ∧ gR ≠ tb ∧ gR ≠ ob ∧ gg ≠ tb ∧ gg ≠ ob) := Lib.hid (by omega)
  clear ba bb bc bd bac bad hRa hRd hGd hTb hTd hOc hOd hmm
  rw [← hwa, ← hwb, ← hwc]
  try rw [← hgg]
  try rw [← hob]
  try rw [← htb]
  try rw [← hgR]
  rw [← hwd]
  clear hwa hwb hwc hwd sa sb sc hgR htb hob hgg
  go_wp2_with fail
  go_loopg [13] nl (fun k u13 wr => ∃ (i n : Nat) (F f : KB → Option Value), i + k = nl ∧ u13 = .int .i64 (i : Int) ∧ Hid (MapS Try.prog 9 wr tb i F) ∧ Hid (SeenM F ((l.take i).map (·.uid))) ∧ Hid (OwnsF wr w.heap.size ob n f (ownsB (l.take i))) ∧ n ≤ 5 * i ∧ Hid (wr.heap[gR]? = some (.cells #[.map none, .map none] 56 (0, 0))) ∧ Hid (wr.heap[gg]? = some (.cells #[.map (some tb), .map (some ob)] 56 (0, 0))) ∧ Hid (Below w.heap.size w wr))
  case atStart => exact ⟨0, 0, _, _, by omega, rfl, HM0, HS0, HO0, by omega, BR0, BG0, HB0⟩
  case round =>
    clear HM0 HS0 HO0 BR0 BG0 HB0 wa wb wc wd
    obtain ⟨i, n, F, f, hik, rfl, HM, HS, HO, hn5, BR, BG, HB⟩ := hrel
    cases gk with
    | zero =>
      obtain rfl : nl = i := by omega
      have ht : l.take nl = l := List.take_of_length_le (by rw [Hnl.out]; exact Nat.le_refl _)
      rw [ht] at HS HO
      have cg := fun j => cell_block BG.out j
      go_wp2_with (first | (refine wpList_load_row (by rfl) _ _ (by rfl) gg (by rfl) _ _ _ _ (by exact BG.out) Try.underlying56 rfl (by exact Try.sizeGraph) ?_) | (refine wpList_store_box (by rfl) _ _ _ (by rfl) gR #[.map (some tb), .map (some ob)] (by rfl) (by rfl) _ _ (by exact BR.out) (by exact Try.sizeGraph) (by rfl) (by simp [Value.oneCell']) ?_))
      intro WF bF tF
      go_wp2_with fail
      refine bodyPost_ret (v := .agg #[.map (some tb), .map (some ob)]) ?_ rfl ?_
      · exact results_one_box Try.results22 _ _ gR _ _ _ _ (by rfl) bF Try.underlying56 rfl (by exact Try.sizeGraph)
      · obtain ⟨k1, k2, k3, k4, k5, k6, k7, k8, k9⟩ := Hne.out
        refine ⟨tb, ob, n, F, f, rfl, ⟨?_, HS.out, HO.out.kept (tF.other _ (Ne.symm k7)) fun k v q hk hq => tF.other _ fun e => ?_, k1, k2⟩, by omega, tF.below HB.out k4⟩
        · rw [Hnl.out]; exact HM.out.block (tF.other _ (Ne.symm k6))
        · obtain ⟨s, rfl⟩ := kb_form k
          obtain ⟨_, _, cur, h1⟩ := (HO.out.row s v hk).at hq
          rw [e, BR.out] at h1
          cases h1
    | succ k =>
      have hil : i < nl := by omega
      obtain ⟨x, hxi⟩ : ∃ x, l[i]? = some x := ⟨l[i]'(by rw [Hnl.out]; exact hil), List.getElem?_eq_getElem _⟩
      obtain ⟨bb, o, c', hv, _, _, hbs, hcell⟩ := HRow.out.form (by rw [Hnl.out]; omega) (by omega)
      injection hv with u1 u2 u3
      subst u1
      clear u2 u3
      obtain ⟨ds, _, hcc, v1, rfl, hst⟩ := hcell i x hxi
      obtain ⟨sa, sc, rfl, -, -⟩ := hst.row.len
      obtain ⟨sn, hsn⟩ : ∃ sn, x.owners.length = sn := ⟨_, rfl⟩
      rw [hsn] at hcc hst
      obtain ⟨hmu, hmo, hms⟩ := Hs.out x (List.mem_of_getElem? hxi)
      have e0 : wr.cell? ⟨bb, o + i * 2, none⟩ = some (.string x.uid) := (HB.out.cell (p := ⟨bb, _, none⟩) hbs).trans (by simpa using hcc 0 _ rfl)
      have e1 : wr.cell? ⟨bb, o + i * 2 + 1, none⟩ = some (.slice sa sn sc) := (HB.out.cell (p := ⟨bb, _, none⟩) hbs).trans (hcc 1 _ rfl)
      have q1 : (0 : Int) ≤ (i : Int) := by omega
      have q2 : (i : Int) < (nl : Int) := by omega
      obtain ⟨w2, hw2⟩ : ∃ w2, w2 = wr.alloc (.cells #[.string x.uid, .slice sa sn sc] 31) := ⟨_, rfl⟩
      obtain ⟨gx, hgx⟩ : ∃ gx, gx = wr.heap.size := ⟨_, rfl⟩
      have b2 : w2.heap[gx]? = some (.cells #[.string x.uid, .slice sa sn sc] 31 (0, 0)) := by rw [hw2, hgx]; exact heap_alloc_new wr _
      have hb2 : Below wr.heap.size wr w2 := by rw [hw2]; exact (Below.refl _ wr).alloc (Nat.le_refl _) _
      have HB2 := Lib.hid (HB.out.trans (hb2.mono HB.out.size))
      have HM2 := Lib.hid (HM.out.belowW hb2)
      have HO2 := Lib.hid (HO.out.below hb2)
      have BR2 := Lib.hid (below_block hb2 BR.out)
      have BG2 := Lib.hid (below_block hb2 BG.out)
      have HSt := Lib.hid hst
      have Hxi := Lib.hid hxi
      have B2 := Lib.hid b2
      have hgxt : gx ≠ tb := fun e => HM2.out.ne b2 e.symm
      have hgxo : gx ≠ ob := fun e => HO2.out.map.ne b2 e.symm
      have hsm : sn ≤ 4 := by rw [← hsn]; exact (Hgd.out.good x (List.mem_of_getElem? hxi)).2.1
      have Hsn := Lib.hid hsn
      have Hms := Lib.hid hms
      have Hu9 : Hid (x.uid.size ≤ maxLen) := Lib.hid (by unfold maxLen; omega)
      have cc := fun j => cell_block b2 j
      have cg := fun j => cell_block BG2.out j
      clear hcc hcell hxi hst hb2 b2 hsn hbs hmo hms hmu HB HM HO BR BG
      go_upto_region 5 with fail
      rw [← hw2]
      try rw [← hgx]
      clear hw2 hgx e0 e1
      have hns : i < maxLen := by unfold maxLen; omega
      go_upto_region 6 with (at_mapUpdate; refine wpList_store_mapS _ (by rfl) _ _ _ 37 (by rfl) 9 3 Try.underlying9 Try.underlying37 tb i F (by rfl) HM2.out hns x.uid Hu9.out (by rfl) (.int .i64 (i : Int)) (by rfl) ?_; intro w3 hm3 ht3)
      clear cc cg
      have B3 : Hid (w3.heap[gx]? = some (.cells #[.string x.uid, .slice sa sn sc] 31 (0, 0))) := Lib.hid ((turned_block ht3 hgxt).trans B2.out)
      have BR3 := Lib.hid ((turned_block ht3 Hne.out.2.2.2.2.2.1).trans BR2.out)
      have BG3 := Lib.hid ((turned_block ht3 Hne.out.2.2.2.2.2.2.2.1).trans BG2.out)
      have HB3 : Hid (Below w.heap.size w w3) := Lib.hid (HB2.out.grown ht3.grown HB2.out.size (fun k e => by cases e; exact Hne.out.2.1))
      have HM3 : Hid (MapS Try.prog 9 w3 tb (i + 1) (updF F x.uid.data.toList (.int .i64 (i : Int)))) := Lib.hid hm3
      have HS3 : Hid (SeenM (updF F x.uid.data.toList (.int .i64 (i : Int))) ((l.take (i + 1)).map (·.uid))) := Lib.hid (by rw [Rf.take_succ Hxi.out, List.map_append]; exact HS.out.add _ _)
      have HO3 : Hid (OwnsF w3 w.heap.size ob n f (stG l i x 0)) := Lib.hid ((HO2.out.turned ht3 (Ne.symm Hne.out.1)).congr fun s => (stG_zero l i x s).symm)
      clear hm3 ht3 HM2 B2 HB2 BR2 BG2 HO2 HS
      have cc := fun j => cell_block B3.out j
      go_upto_region 7 with fail
      clear cc
      go_loopg [26] sn (fun k2 u26 wr2 => ∃ (j m : Nat) (h : KB → Option Value), j + k2 = sn ∧ u26 = .int .i64 (j : Int) ∧ Hid (MapS Try.prog 9 wr2 tb (i + 1) (updF F x.uid.data.toList (.int .i64 (i : Int)))) ∧ Hid (OwnsF wr2 w.heap.size ob m h (stG l i x j)) ∧ m ≤ 5 * i + j ∧ Hid (wr2.heap[gR]? = some (.cells #[.map none, .map none] 56 (0, 0))) ∧ Hid (wr2.heap[gg]? = some (.cells #[.map (some tb), .map (some ob)] 56 (0, 0))) ∧ Hid (wr2.heap[gx]? = some (.cells #[.string x.uid, .slice sa sn sc] 31 (0, 0))) ∧ Hid (Below w.heap.size w wr2))
      case atStart => exact ⟨0, n, f, by omega, rfl, HM3, HO3, by omega, BR3, BG3, B3, HB3⟩
      case round =>
        clear HM3 HO3 BR3 BG3 B3 HB3
        obtain ⟨j, m, h, hjk, rfl, HM, HO, hm5, BR, BG, BX, HB⟩ := hrel
        cases gk with
        | zero =>
          obtain rfl : sn = j := by omega
          have HO' : Hid (OwnsF wr w.heap.size ob m h (ownsB (l.take (i + 1)))) := Lib.hid (HO.out.congr fun s => stG_end Hxi.out (by rw [Hsn.out]; exact Nat.le_refl _) s)
          clear HO
          go_wp2_with fail
          go_roundg k
          case measure => omega
          case rel => exact ⟨i + 1, m, _, _, by omega, by go_num, HM, HS3, HO', by omega, BR, BG, HB⟩
        | succ k2 =>
          have hjl : j < sn := by omega
          obtain ⟨y, hy⟩ : ∃ y, x.owners[j]? = some y := ⟨x.owners[j]'(by rw [Hsn.out]; exact hjl), List.getElem?_eq_getElem _⟩
          obtain ⟨b9, o9, c9, hv9, _, _, _, hcy⟩ := (HSt.out.below HB.out).form (by rw [Hsn.out]; omega)
          injection hv9 with u1 u2 u3
          subst u1
          clear u2 u3
          have e0 := hcy j y hy
          have q3 : (0 : Int) ≤ (j : Int) := by omega
          have q4 : (j : Int) < (sn : Int) := by omega
          have hys := Hms.out y (List.mem_of_getElem? hy)
          have hlk := HO.out.look y (by unfold maxLen; omega)
          have Hy := Lib.hid hy
          have hat := HO.out.at y
          have hglen := stG_len l i x j y
          rw [Hnl.out] at hglen
          obtain ⟨va, vc, hva, -, -⟩ := hat.row.len
          obtain ⟨vn, hvn⟩ : ∃ vn, (stG l i x j y).length = vn := ⟨_, rfl⟩
          rw [hvn] at hva hglen
          rw [hva] at hlk
          have HC := Lib.hid (contains_any (.slice va vn vc) (stG l i x j y) x.uid wr (by rw [← hva]; exact hat.row.strs) (by rw [hvn]; omega))
          obtain ⟨cb, Hcb⟩ : ∃ cb, Hid (Lib.containsS (stG l i x j y) x.uid = cb) := ⟨_, Lib.hid rfl⟩
          rw [Hcb.out] at HC
          have Hva := Lib.hid hva
          have Hvn := Lib.hid hvn
          have Hat := Lib.hid hat
          have Hin : Hid (cb = true ↔ y ∈ x.owners.take j) := Lib.hid (by rw [← Hcb.out, Lib.containsS_iff]; exact stG_mem Hgd.out.uids Hxi.out j y)
          have cc := fun z => cell_block BX.out z
          have cg := fun z => cell_block BG.out z
          clear hcy hy hva hvn hat
          go_wp2_with fail
          refine HC.out.mono ?_
          rintro e w9 ⟨rfl, rfl⟩
          clear HC
          cases cb with
          | true =>
            have HO' : Hid (OwnsF wr w.heap.size ob m h (stG l i x (j + 1))) := Lib.hid (HO.out.congr fun s => stG_same Hy.out (Hin.out.1 rfl) s)
            clear HO
            go_wp2_with fail
            clear cc cg
            go_roundg k2
            case measure => omega
            case rel => exact ⟨j + 1, m, h, by omega, by go_num, HM, HO', by omega, BR, BG, BX, HB⟩
          | false =>
            have hnin : Hid (y ∉ x.owners.take j) := Lib.hid fun h => by have := Hin.out.2 h; cases this
            go_upto_region 10 with fail
            clear cc cg e0 hlk
            have Hoff : Hid (∀ q, (Value.slice va vn vc).ownBlock = some q → w.heap.size ≤ q ∧ q < wr.heap.size ∧ q ≠ gg ∧ q ≠ gx ∧ q ≠ gR ∧ q ≠ ob ∧ q ≠ tb) := Lib.hid fun q hq => by
              obtain ⟨h1, h2, cur, h3⟩ := Hat.out.at (by rw [Hva.out]; exact hq)
              refine ⟨h1, h2, fun e => ?_, fun e => ?_, fun e => ?_, fun e => HO.out.map.ne h3 e.symm, fun e => HM.out.ne h3 e.symm⟩
              · rw [e, BG.out] at h3; cases h3
              · rw [e, BX.out] at h3; cases h3
              · rw [e, BR.out] at h3; cases h3
            have hltg : gg < wr.heap.size := (Array.getElem?_eq_some_iff.1 BG.out).1
            have hltx : gx < wr.heap.size := (Array.getElem?_eq_some_iff.1 BX.out).1
            have hltr : gR < wr.heap.size := (Array.getElem?_eq_some_iff.1 BR.out).1
            have hwl := HB.out.size
            refine wp_region_relZ 11 (fun w' => wr.grownBy w' (Value.slice va vn vc).ownBlock) (fun jj w' => jj = 10 → OwnAt RString 1 w' w.heap.size 9 (.slice va vn vc) (stG l i x j y)) (fun ii wa wb => wa.grownBy wb (if ii = 10 then (Value.slice va vn vc).ownBlock else none)) (fun jj U w' => match jj with
              | 0 => U 0 = .pointer (some ⟨gg, 1, none⟩)
              | 1 => U 1 = .map (some ob)
              | 2 => U 2 = .string y
              | 3 => U 3 = .pointer (some ⟨gg, 1, none⟩)
              | 4 => U 4 = .map (some ob)
              | 5 => U 5 = .string y
              | 6 => U 6 = .slice va vn vc
              | 7 => U 7 = .pointer (some ⟨gx, 0, none⟩)
              | 8 => U 8 = .string x.uid
              | 9 => ∃ q, U 9 = .slice (some ⟨q, 0, none⟩) 1 1 ∧ wr.heap.size ≤ q ∧ w'.heap[q]? = some (.cells #[.string x.uid] 9 (0, 0))
              | 10 => OwnAt RString 1 w' w.heap.size 9 (U 10) (stG l i x j y ++ [x.uid]) ∧ ((U 10).ownBlock = (Value.slice va vn vc).ownBlock ∨ ∃ q, (U 10).ownBlock = some q ∧ wr.heap.size ≤ q)
              | _ => True)
              (fun | 1 => [0] | 4 => [3] | 6 => [4, 5] | 8 => [7] | 9 => [8] | 10 => [6, 9] | _ => []) (by kernel_rfl) (by kernel_rfl) (below_grown (below_drewF wr) _) (fun _ _ => by have h9 := Hat.out.below stays_string (below_drewF wr); rw [Hva.out] at h9; exact h9) (fun ii wa wb hk hi => ?_) (fun ii jj wa wb hji hk hi h h7 => ?_) (fun ii jj U wa wb hji hk hi h => ?_) ⟨?_, ?_, ?_, ?_, ?_, ?_, ?_, ?_, ?_, ?_, ?_, trivial⟩ ?_
            · by_cases e : ii = 10
              · rw [if_pos e] at hk; exact grown_trans hi hk
              · rw [if_neg e] at hk
                exact grown_trans hi ⟨hk.os, hk.tape, hk.output, hk.size, fun q hq _ => hk.block q hq (by simp)⟩
            · have e : ii ≠ 10 := fun e => hji (h7.trans e.symm)
              rw [if_neg e] at hk
              exact own_keepB (h h7) fun q hq => hk.block q ((h h7).at hq).2.1 (by simp)
            · by_cases e : ii = 10
              · subst e
                rw [if_pos rfl] at hk
                match jj, hji, h with
                | 0, _, h => exact h
                | 1, _, h => exact h
                | 2, _, h => exact h
                | 3, _, h => exact h
                | 4, _, h => exact h
                | 5, _, h => exact h
                | 6, _, h => exact h
                | 7, _, h => exact h
                | 8, _, h => exact h
                | 9, _, h =>
                  obtain ⟨q, h1, h2, h3⟩ := h
                  exact ⟨q, h1, h2, (hk.block q (Array.getElem?_eq_some_iff.1 h3).1 fun e => by have := (Hoff.out q e.symm).2.1; omega).trans h3⟩
                | 10, hji, _ => exact absurd rfl hji
                | _ + 11, _, _ => trivial
              · rw [if_neg e] at hk
                match jj, hji, h with
                | 0, _, h => exact h
                | 1, _, h => exact h
                | 2, _, h => exact h
                | 3, _, h => exact h
                | 4, _, h => exact h
                | 5, _, h => exact h
                | 6, _, h => exact h
                | 7, _, h => exact h
                | 8, _, h => exact h
                | 9, _, h =>
                  obtain ⟨q, h1, h2, h3⟩ := h
                  exact ⟨q, h1, h2, (hk.block q (Array.getElem?_eq_some_iff.1 h3).1 (by simp)).trans h3⟩
                | 10, _, h => exact ⟨own_keepB h.1 fun q hq => hk.block q (h.1.at hq).2.1 (by simp), h.2⟩
                | _ + 11, _, _ => trivial
            · intro x' w' hb hS hd
              refine owesK_here (.pointer (some ⟨gg, 1, none⟩)) (by rfl) ?_ rfl (World.grownBy.refl _ _)
              clear hS hd
              simp only [putAll, List.take_succ_cons, List.take_zero]
              go_simp
            · intro x' w' hb hS hd
              have k0 : x' 0 = .pointer (some ⟨gg, 1, none⟩) := hd 0 (by simp)
              have h9 : w'.heap[gg]? = some (.cells #[.map (some tb), .map (some ob)] 56 (0, 0)) := (hb.block gg hltg fun e => (Hoff.out gg e.symm).2.2.1 rfl).trans BG.out
              have c9 : w'.cell? ⟨gg, 1, none⟩ = some (.map (some ob)) := cell_block h9 1
              refine owesK_here (.map (some ob)) (by rfl) ?_ rfl (World.grownBy.refl _ _)
              clear hS hd
              simp only [putAll, List.take_succ_cons, List.take_zero]
              go_simp
            · intro x' w' hb hS hd
              refine owesK_here (.string y) (by rfl) ?_ rfl (World.grownBy.refl _ _)
              clear hS hd
              simp only [putAll, List.take_succ_cons, List.take_zero]
              go_simp
            · intro x' w' hb hS hd
              refine owesK_here (.pointer (some ⟨gg, 1, none⟩)) (by rfl) ?_ rfl (World.grownBy.refl _ _)
              clear hS hd
              simp only [putAll, List.take_succ_cons, List.take_zero]
              go_simp
            · intro x' w' hb hS hd
              have k3 : x' 3 = .pointer (some ⟨gg, 1, none⟩) := hd 3 (by simp)
              have h9 : w'.heap[gg]? = some (.cells #[.map (some tb), .map (some ob)] 56 (0, 0)) := (hb.block gg hltg fun e => (Hoff.out gg e.symm).2.2.1 rfl).trans BG.out
              have c9 : w'.cell? ⟨gg, 1, none⟩ = some (.map (some ob)) := cell_block h9 1
              refine owesK_here (.map (some ob)) (by rfl) ?_ rfl (World.grownBy.refl _ _)
              clear hS hd
              simp only [putAll, List.take_succ_cons, List.take_zero]
              go_simp
            · intro x' w' hb hS hd
              refine owesK_here (.string y) (by rfl) ?_ rfl (World.grownBy.refl _ _)
              clear hS hd
              simp only [putAll, List.take_succ_cons, List.take_zero]
              go_simp
            · intro x' w' hb hS hd
              have k4 : x' 4 = .map (some ob) := hd 4 (by simp)
              have k5 : x' 5 = .string y := hd 5 (by simp)
              have hlk := ((HO.out.map.kept hb (fun e => (Hoff.out ob e.symm).2.2.2.2.2.1 rfl)).look Try.underlying9 Try.underlying54 (Try.zeroStrsR w') y (by unfold maxLen; omega)).2
              rw [show (h y.data.toList).getD (.slice none 0 0) = .slice va vn vc from Hva.out] at hlk
              refine owesK_here (.slice va vn vc) (by rfl) ?_ rfl (World.grownBy.refl _ _)
              clear hS hd
              simp only [putAll, List.take_succ_cons, List.take_zero]
              go_simp
            · intro x' w' hb hS hd
              refine owesK_here (.pointer (some ⟨gx, 0, none⟩)) (by rfl) ?_ rfl (World.grownBy.refl _ _)
              clear hS hd
              simp only [putAll, List.take_succ_cons, List.take_zero]
              go_simp
            · intro x' w' hb hS hd
              have k7 : x' 7 = .pointer (some ⟨gx, 0, none⟩) := hd 7 (by simp)
              have h9 : w'.heap[gx]? = some (.cells #[.string x.uid, .slice (some ⟨b9, o9, none⟩) sn sc] 31 (0, 0)) := (hb.block gx hltx fun e => (Hoff.out gx e.symm).2.2.2.1 rfl).trans BX.out
              have c9 : w'.cell? ⟨gx, 0, none⟩ = some (.string x.uid) := cell_block h9 0
              refine owesK_here (.string x.uid) (by rfl) ?_ rfl (World.grownBy.refl _ _)
              clear hS hd
              simp only [putAll, List.take_succ_cons, List.take_zero]
              go_simp
            · intro x' w' hb hS hd
              have k8 : x' 8 = .string x.uid := hd 8 (by simp)
              have hsz := hb.size
              refine owesK_makes (w' := w'.alloc (.cells #[.string x.uid] 9)) (.slice (some ⟨w'.heap.size, 0, none⟩) 1 1) (by rfl) ?_ ⟨_, rfl, by omega, heap_alloc_new w' _⟩ (World.grownBy_alloc w' _ _)
              clear hS hd
              simp only [putAll, List.take_succ_cons, List.take_zero]
              rw [k8]
              go_simp
            · intro x' w' hb hS hd
              have k6 : x' 6 = .slice va vn vc := hd 6 (by simp)
              obtain ⟨q, k9, _, hq9⟩ : ∃ q, x' 9 = .slice (some ⟨q, 0, none⟩) 1 1 ∧ wr.heap.size ≤ q ∧ w'.heap[q]? = some (.cells #[.string x.uid] 9 (0, 0)) := hd 9 (by simp)
              have hsz := hb.size
              obtain ⟨v', w3, hrun, q1, q2, q3⟩ := app_text (X := x' 9) (hS rfl) (by rw [Hvn.out]; omega) k9 hq9 (by omega)
              refine owesK_makes (w' := w3) v' (by rfl) ?_ ⟨q1, q3.imp id fun e => ⟨_, e, hsz⟩⟩ q2
              rw [← k6] at hrun
              clear hb hS hd
              simp only [putAll, List.take_succ_cons, List.take_zero]
              try simp only [Act.put, List.setIfInBounds_toArray, List.set_cons_zero, List.set_cons_succ]
              exact exec_appendR (by rfl) (by rfl) (by rfl) hrun
            · intro x' w' hb hR
              have k1 : x' 1 = .map (some ob) := hR 1 (by omega)
              have k2' : x' 2 = .string y := hR 2 (by omega)
              obtain ⟨k10, kn⟩ : OwnAt RString 1 w' w.heap.size 9 (x' 10) (stG l i x j y ++ [x.uid]) ∧ ((x' 10).ownBlock = (Value.slice va vn vc).ownBlock ∨ ∃ q, (x' 10).ownBlock = some q ∧ wr.heap.size ≤ q) := hR 10 (by omega)
              obtain ⟨v9, hv9⟩ : ∃ v9, x' 10 = v9 := ⟨_, rfl⟩
              rw [hv9] at k10 kn
              have hMo := Lib.hid (HO.out.map.kept hb (fun e => (Hoff.out ob e.symm).2.2.2.2.2.1 rfl))
              have hMt := Lib.hid (HM.out.kept hb (fun e => (Hoff.out tb e.symm).2.2.2.2.2.2 rfl))
              have BG' := Lib.hid ((hb.block gg hltg fun e => (Hoff.out gg e.symm).2.2.1 rfl).trans BG.out)
              have BX' := Lib.hid ((hb.block gx hltx fun e => (Hoff.out gx e.symm).2.2.2.1 rfl).trans BX.out)
              have BR' := Lib.hid ((hb.block gR hltr fun e => (Hoff.out gR e.symm).2.2.2.2.1 rfl).trans BR.out)
              have HB' : Hid (Below w.heap.size w w') := Lib.hid (HB.out.grown hb hwl fun q hq => (Hoff.out q hq).1)
              have Hbg := Lib.hid hb
              have K10 := Lib.hid k10
              have Kn := Lib.hid kn
              have hms' : m < maxLen := by unfold maxLen; omega
              have hy9 : y.size ≤ maxLen := by unfold maxLen; omega
              clear hR hb k10 kn
              simp only [putAll, List.take_succ_cons, List.take_zero, List.drop_succ_cons, List.drop_zero]
              rw [k1, k2', hv9]
              clear k1 k2' hv9
              try simp only [Act.put, List.setIfInBounds_toArray, List.set_cons_zero, List.set_cons_succ]
              go_upto_region 11 with (at_mapUpdate; refine wpList_store_mapS _ (by rfl) _ _ _ 54 (by rfl) 9 23 Try.underlying9 Try.underlying54 ob m h (by rfl) hMo.out hms' y hy9 (by rfl) v9 (by rfl) ?_; intro w4 hm4 ht4)
              have HO4 : Hid (OwnsF w4 w.heap.size ob (m + 1) (updF h y.data.toList v9) (stG l i x (j + 1))) := Lib.hid ((HO.out.put (s := y) (u := x.uid) (by rw [Hva.out]; exact Hbg.out) K10.out (by rw [Hva.out]; exact Kn.out) hm4 ht4).congr fun s => stG_put Hy.out hnin.out s)
              have HM4 := Lib.hid (hMt.out.block (turned_block ht4 Hne.out.1))
              have BG4 := Lib.hid ((turned_block ht4 Hne.out.2.2.2.2.2.2.2.2).trans BG'.out)
              have BX4 := Lib.hid ((turned_block ht4 hgxo).trans BX'.out)
              have BR4 := Lib.hid ((turned_block ht4 Hne.out.2.2.2.2.2.2.1).trans BR'.out)
              have HB4 : Hid (Below w.heap.size w w4) := Lib.hid (HB'.out.grown ht4.grown HB'.out.size fun q hq => by cases hq; exact Hne.out.2.2.1)
              clear hm4 ht4
              go_wp2_with fail
              go_roundg k2
              case measure => omega
              case rel => exact ⟨j + 1, m + 1, _, by omega, by go_num, HM4, HO4, by omega, BR4, BG4, BX4, HB4⟩
end Go.Proofs.Ytgoapmjcfdbjpaa
namespace Go.Proofs.Ytgoapmjcfdbjpaa
open Go.RowKit
theorem below_putObj {B : Nat} (W : World) (l : Nat) (o : Obj) (h : B ≤ l) : Below B W (W.putObj l o) :=
  ⟨rfl, rfl, rfl, by simp, fun k hk => World.putObj_heap_other (by omega)⟩
end Go.Proofs.Ytgoapmjcfdbjpaa
namespace Go.Proofs.Ytgoapmjcfdbjpaa
open Go.RowKit
def KeepsNC (W W' : World) : Prop := ∀ (k : Nat) (o : Obj), W.heap[k]? = some o → (∀ c t f, o ≠ Obj.cells c t f) → W'.heap[k]? = some o
def SeqTold {α : Type} (F : Fence) (n : Nat) (P : Program) (gf : Nat) (lb : Array Value) (enc : α → Value) (xs : List α) (b3 n0 : Nat) (w : World) : Prop :=
  ∀ (l : Nat) (J : List α → World → Prop) (W : World), (∀ k, k < n0 → W.heap[k]? = w.heap[k]?) →
    (∀ pre x W1, J pre W1 → pre.length < xs.length → YieldAt F (n - 1) P l #[enc x] W1 fun e W' => e = .returned (.bool true) ∧ J (pre ++ [x]) W' ∧ ∀ k, k < n0 → k ≠ b3 → W'.heap[k]? = W1.heap[k]?) →
    J [] W → CallsIn F n P gf (#[.func (.yield l) #[] #[]] ++ lb) W fun e W' => (∃ v, e = .returned v) ∧ J xs W'
def putPost {α : Type} (I : List α → World → Prop) (xs : List α) (b3 n0 : Nat) (W : World) : Exit → Act → World → Prop
  | .normal, _, W' => I xs W' ∧ KeepsNC W W' ∧ ∀ k, k < n0 → k ≠ b3 → W'.heap[k]? = W.heap[k]?
  | _, _, _ => False
theorem wpIn_range_put {α : Type} {F : Fence} {n : Nat} {P : Program} {g : Operand} {p : Tmp} {assign body : Code} {Q : Exit → Act → World → Prop} {a : Act} {w : World}
    (hro : F.round = none) (h1 : 1 ≤ n) {gf : Nat} {lb : Array Value} (hg : a.eval g = .func (.func gf) #[] lb) (hFg : F.fn gf) (eg : ∀ args w, (callFunc gf args).run P w = .ok (.enter gf args) w)
    {enc : α → Value} {xs : List α} {b3 n0 : Nat} (hn0 : n0 ≤ w.heap.size) (hseq : SeqTold F (n - 1) P gf lb enc xs b3 n0 w)
    (I : List α → World → Prop) (hA : ∀ pre A o, I pre A → I pre (A.alloc o)) (hL : ∀ pre A l lo lo', w.heap.size ≤ l → I pre A → A.heap[l]? = some (.loop lo) → I pre (A.putObj l (.loop lo'))) (h0 : I [] w) (a₁ : α → Act)
    (hassign : ∀ (l : Nat) (x : α) (W : World) (K : Act → World → Prop), K (a₁ x) W →
      assign.wpIn (F.inRound l) (n - 1 - 1) P (Exit.then K (fun _ _ _ => False)) { tmps := a.tmps.setIfInBounds p (enc x), defers := [] } W)
    (hbody : ∀ (l : Nat) (pre : List α) (x : α) (W : World), I pre W → pre.length < xs.length → body.wpIn (F.inRound l) (n - 1 - 1) P (putPost I (pre ++ [x]) b3 n0 W) (a₁ x) W)
    (hdone : ∀ (D : Nat) (W : World), I xs W → W.heap[D]? = some (.deferred (some [])) → w.heap.size ≤ D → Q .normal { a with defers := { target := .collected D, args := #[] } :: a.defers } W) :
    (Code.rangeFunc g #[p] assign body).wpIn F n P Q a w := by
  refine wpIn_rangeFunc ?_
  intro fn hfn
  rw [hro]
  obtain ⟨rec, hrec⟩ : ∃ rec : LoopState → Loop, rec = fun st => { state := st, pending := none, fn, tmps := a.tmps, params := #[p], assign, body, defers := w.heap.size } := ⟨_, rfl⟩
  obtain ⟨W1, hW1⟩ : ∃ W1, (w.alloc (.deferred (some []))).alloc (.loop (rec .ready)) = W1 := ⟨_, rfl⟩
  have hL1 : W1.heap[w.heap.size + 1]? = some (.loop (rec .ready)) := by
    rw [← hW1]; have := World.alloc_heap_new (w.alloc (.deferred (some []))) (.loop (rec .ready)); rwa [World.size_alloc] at this
  have hK1 : W1.heap[w.heap.size]? = some (.deferred (some [])) := by
    rw [← hW1]; exact (Below.heap_alloc _ _ _ (by simp)).trans (World.alloc_heap_new w _)
  have hB1 : Below w.heap.size w W1 := by
    rw [← hW1]; exact ((Below.refl _ w).alloc (Nat.le_refl _) _).alloc (by simp) _
  have hI1 : I [] W1 := by rw [← hW1]; exact hA _ _ _ (hA _ _ _ h0)
  refine ⟨w.heap.size + 1, [{ target := .collected w.heap.size, args := #[] }], W1, { target := .fn (.func gf) lb, args := #[.func (.yield (w.heap.size + 1)) #[] #[]] }, W1, gf,
    #[.func (.yield (w.heap.size + 1)) #[] #[]] ++ lb, W1, ?_, ?_, ?_, ?_, fun _ => h1, ?_⟩
  · rw [← hW1, hrec]; exact run_enterLoop_outer _ _ _ _ _
  · simp only [resolve, hg]
    simp [go_sem]
  · intro f' hf'; simp [Target.leads] at hf'; subst hf'; exact hFg
  · simp [invoke, go_sem, eg]
  · refine (hseq (w.heap.size + 1) (fun pre W => I pre W ∧ W.heap[w.heap.size + 1]? = some (.loop (rec .ready)) ∧ W.heap[w.heap.size]? = some (.deferred (some []))) W1
      (fun k hk => hB1.block k (Nat.lt_of_lt_of_le hk hn0)) ?_ ⟨hI1, hL1, hK1⟩).mono ?_
    · rintro pre x W ⟨hi, hl, hk⟩ hlen
      have hlt : w.heap.size + 1 < W.heap.size := (Array.getElem?_eq_some_iff.1 hl).1
      have hy := run_yield (P := P) (args := #[enc x]) hl (by rw [hrec]; rfl)
      rw [hrec] at hy
      have hz : (Array.zip #[p] #[enc x]).foldl (fun (t : Array Value) (q : Tmp × Value) => t.setIfInBounds q.1 q.2) a.tmps = a.tmps.setIfInBounds p (enc x) := by simp
      simp only [] at hy
      rw [hz] at hy
      refine ⟨fn, _, assign, body, hy, roundIn_of_wpIn hfn ?_⟩
      refine hassign _ x W _ ?_
      refine ⟨_, run_beginRound hl (by rw [hrec]), ?_⟩
      obtain ⟨W2, hW2⟩ : ∃ W2, W.putObj (w.heap.size + 1) (.loop { rec .ready with state := .busy }) = W2 := ⟨_, rfl⟩
      have hl2 : W2.heap[w.heap.size + 1]? = some (.loop { rec .ready with state := .busy }) := by rw [← hW2]; exact World.putObj_heap_same hlt
      have hk2 : W2.heap[w.heap.size]? = some (.deferred (some [])) := by rw [← hW2]; exact (World.putObj_heap_other (by omega)).trans hk
      have hi2 : I pre W2 := by rw [← hW2]; exact hL _ _ _ _ _ (by omega) hi hl
      have hb2 : ∀ k, k < n0 → W2.heap[k]? = W.heap[k]? := fun k hk => by rw [← hW2]; exact World.putObj_heap_other (by omega)
      rw [hW2]
      refine wpIn_mono (hbody _ pre x _ hi2 hlen) ?_
      rintro e a3 W3 hp
      cases e with
      | normal =>
        obtain ⟨hi3, hs3, hk3⟩ := hp
        have hl3 : W3.heap[w.heap.size + 1]? = some (.loop { rec .ready with state := .busy }) := hs3 _ _ hl2 (fun c t f e => by cases e)
        have hd3 : W3.heap[w.heap.size]? = some (.deferred (some [])) := hs3 _ _ hk2 (fun c t f e => by cases e)
        have he := run_endRound (P := P) none hl3
        refine ⟨_, _, he, rfl, ⟨hL _ _ _ _ _ (by omega) hi3 hl3, ?_, (World.putObj_heap_other (by omega)).trans hd3⟩, fun k hk hne => ?_⟩
        · rw [World.putObj_heap_same (Array.getElem?_eq_some_iff.1 hl3).1, hrec]; rfl
        · rw [World.putObj_heap_other (by omega), hk3 k hk hne]
          exact hb2 k hk
      | ret => exact hp.elim
      | exit id => exact hp.elim
      | goto t => exact hp.elim
      | panic ch => exact hp.elim
      | outgrown => exact hp.elim
    · rintro e W2 ⟨⟨v, rfl⟩, hi, hl, hk⟩
      have he := run_endLoop (P := P) hl (by rw [hrec]; simp)
      rw [hrec] at he
      rw [hrec] at hl
      refine ⟨none, _, he, hdone _ _ (hL _ _ _ _ _ (by omega) hi hl) ((World.putObj_heap_other (by omega)).trans hk) (Nat.le_refl _)⟩
end Go.Proofs.Ytgoapmjcfdbjpaa
namespace Go.Proofs.Ytgoapmjcfdbjpaa
open Go.RowKit
theorem bl_irrefl : ∀ x : List UInt8, Op.bytesLess x x = false
  | [] => rfl
  | a :: x => by unfold Op.bytesLess; simp [bl_irrefl x]
theorem bl_total : ∀ x y : List UInt8, Op.bytesLess x y = false → Op.bytesLess y x = false → x = y
  | [], [], _, _ => rfl
  | [], _ :: _, h, _ => by simp [Op.bytesLess] at h
  | _ :: _, [], _, h => by simp [Op.bytesLess] at h
  | a :: x, b :: y, h1, h2 => by
    unfold Op.bytesLess at h1 h2
    simp only [Bool.or_eq_false_iff, Bool.and_eq_false_iff, decide_eq_false_iff_not, UInt8.not_lt] at h1 h2
    have hab : a = b := UInt8.le_antisymm h2.1 h1.1
    subst hab
    rw [bl_total x y (by simpa using h1.2) (by simpa using h2.2)]
theorem bl_trans : ∀ x y z : List UInt8, Op.bytesLess x y = true → Op.bytesLess y z = true → Op.bytesLess x z = true
  | _, [], _, h, _ => by simp [Op.bytesLess] at h
  | _, _ :: _, [], _, h => by simp [Op.bytesLess] at h
  | [], _ :: _, _ :: _, _, _ => rfl
  | a :: x, b :: y, c :: z, h1, h2 => by
    unfold Op.bytesLess at h1 h2 ⊢
    simp only [Bool.or_eq_true, Bool.and_eq_true, decide_eq_true_eq, beq_iff_eq] at h1 h2 ⊢
    rcases h1 with h1 | ⟨rfl, h1⟩
    · rcases h2 with h2 | ⟨rfl, h2⟩
      · exact .inl (UInt8.lt_trans h1 h2)
      · exact .inl h1
    · rcases h2 with h2 | ⟨rfl, h2⟩
      · exact .inl h2
      · exact .inr ⟨rfl, bl_trans x y z h1 h2⟩
theorem bl_asymm {x y : List UInt8} (h : Op.bytesLess x y = true) : Op.bytesLess y x = false := by
  cases h2 : Op.bytesLess y x with
  | false => rfl
  | true => have := bl_trans x y x h h2; rw [bl_irrefl] at this; cases this
theorem toList_inj {a b : ByteArray} (h : a.toList = b.toList) : a = b := by
  rw [ByteArray.toList_eq, ByteArray.toList_eq] at h
  cases a; cases b
  simp only [ByteArray.mk.injEq]
  exact Array.toList_inj.1 h
end Go.Proofs.Ytgoapmjcfdbjpaa
namespace Go.Proofs.Ytgoapmjcfdbjpaa
open Go.RowKit Go.Sort Go.Proofs
def leL (x y : List UInt8) : Bool := decide (x ≤ y)
theorem leL_eq (x y : List UInt8) : leL x y = !Op.bytesLess y x := by
  unfold leL
  rw [bytesLess_eq]
  by_cases h : y < x
  · rw [decide_eq_true h, decide_eq_false (fun hle : x ≤ y => hle h)]; rfl
  · rw [decide_eq_false h, decide_eq_true (show x ≤ y from h)]; rfl
theorem leL_trans (x y z : List UInt8) (h : leL x y = true) (k : leL y z = true) : leL x z = true := by
  rw [leL_eq, Bool.not_eq_true'] at *
  cases hz : Op.bytesLess z x with
  | false => rfl
  | true =>
    cases hy : Op.bytesLess y z with
    | true => rw [bl_trans y z x hy hz] at h; cases h
    | false =>
      have := bl_total y z hy k
      subst this
      rw [hz] at h; cases h
theorem leL_total (x y : List UInt8) : (leL x y || leL y x) = true := by
  rw [leL_eq, leL_eq]
  cases h : Op.bytesLess y x with
  | false => rfl
  | true => rw [bl_asymm h]; rfl
def sortedL (l : List (List UInt8)) : List (List UInt8) := l.mergeSort fun x y => decide (x ≤ y)
theorem sorted_pair (l : List (List UInt8)) : (sortedL l).Pairwise fun x y => leL x y = true := List.pairwise_mergeSort (le := leL) leL_trans leL_total l
theorem sorted_mem (l : List (List UInt8)) (x : List UInt8) : x ∈ sortedL l ↔ x ∈ l := List.mem_mergeSort
theorem sorted_len (l : List (List UInt8)) : (sortedL l).length = l.length := List.length_mergeSort l
theorem compact_rising (zs : List (List UInt8)) (hs : zs.Pairwise fun x y => leL x y = true) :
    (Lib.compact zs).Pairwise (fun x y => Op.bytesLess x y = true) ∧ ∀ x, x ∈ Lib.compact zs ↔ x ∈ zs := by
  have hget : ∀ i j, i < j → j < zs.length → leL (zs.toArray[i]!) (zs.toArray[j]!) = true := fun i j hij hj => by
    have := List.pairwise_iff_getElem.1 hs i j (by omega) hj hij
    rwa [getElem!_pos zs.toArray i (by simpa using (by omega : i < zs.length)), getElem!_pos zs.toArray j (by simpa using hj)]
  have key : ∀ m, m ≤ zs.length → (Lib.compactUpTo zs.toArray m).Pairwise (fun x y => Op.bytesLess x y = true) ∧ (∀ x ∈ Lib.compactUpTo zs.toArray m, ∃ j, j < m ∧ x = zs.toArray[j]!) ∧ (∀ j, j < m → zs.toArray[j]! ∈ Lib.compactUpTo zs.toArray m) := fun m => by
    induction m with
    | zero => intro _; exact ⟨by simp [Lib.compactUpTo], by simp [Lib.compactUpTo], fun j hj => by omega⟩
    | succ m ih =>
      intro hm
      obtain ⟨h1, h2, h3⟩ := ih (by omega)
      rw [Lib.compactUpTo_succ]
      by_cases h0 : m = 0
      · subst h0
        rw [if_pos (Lib.keeps_lt_one _ 0 (by omega))]
        have : Lib.compactUpTo zs.toArray 0 = [] := by simp [Lib.compactUpTo]
        rw [this, List.nil_append]
        refine ⟨by simp, fun x hx => ⟨0, by omega, by simpa using hx⟩, fun j hj => ?_⟩
        obtain rfl : j = 0 := by omega
        simp
      · by_cases he : zs.toArray[m]! = zs.toArray[m - 1]!
        · rw [Lib.keeps_neg (by omega) he]
          simp only [Bool.false_eq_true, if_false, List.append_nil]
          refine ⟨h1, fun x hx => ?_, fun j hj => ?_⟩
          · obtain ⟨j, hj, e⟩ := h2 x hx
            exact ⟨j, by omega, e⟩
          · by_cases hjm : j = m
            · subst hjm
              rw [he]
              exact h3 _ (by omega)
            · exact h3 j (by omega)
        · rw [Lib.keeps_pos he, if_pos rfl]
          refine ⟨?_, fun x hx => ?_, fun j hj => ?_⟩
          · rw [List.pairwise_append]
            refine ⟨h1, by simp, fun a ha b hb => ?_⟩
            obtain rfl : b = zs.toArray[m]! := by simpa using hb
            obtain ⟨j, hj, rfl⟩ := h2 a ha
            have h4 : Op.bytesLess (zs.toArray[m - 1]!) (zs.toArray[m]!) = true := by
              have h5 := hget (m - 1) m (by omega) (by omega)
              rw [leL_eq, Bool.not_eq_true'] at h5
              cases h6 : Op.bytesLess (zs.toArray[m - 1]!) (zs.toArray[m]!) with
              | true => rfl
              | false => exact absurd (bl_total _ _ h6 h5).symm he
            by_cases hjm : j = m - 1
            · rw [hjm]; exact h4
            · have h5 := hget j (m - 1) (by omega) (by omega)
              rw [leL_eq, Bool.not_eq_true'] at h5
              cases h6 : Op.bytesLess (zs.toArray[j]!) (zs.toArray[m - 1]!) with
              | true => exact bl_trans _ _ _ h6 h4
              | false => rw [bl_total _ _ h6 h5]; exact h4
          · rcases List.mem_append.1 hx with hx | hx
            · obtain ⟨j, hj, e⟩ := h2 x hx
              exact ⟨j, by omega, e⟩
            · exact ⟨m, by omega, by simpa using hx⟩
          · by_cases hjm : j = m
            · subst hjm; simp
            · exact List.mem_append_left _ (h3 j (by omega))
  obtain ⟨h1, h2, h3⟩ := key zs.length (Nat.le_refl _)
  refine ⟨h1, fun x => ⟨fun hx => ?_, fun hx => ?_⟩⟩
  · obtain ⟨j, hj, rfl⟩ := h2 x hx
    rw [getElem!_pos zs.toArray j (by simpa using hj)]
    simp
  · obtain ⟨j, hj, rfl⟩ := List.getElem_of_mem hx
    have := h3 j hj
    rw [getElem!_pos zs.toArray j (by simpa using hj)] at this
    exact this
end Go.Proofs.Ytgoapmjcfdbjpaa
namespace Go.Proofs.Ytgoapmjcfdbjpaa
open Go.RowKit
theorem setCells_all (g : Nat) (t : TypeId) : ∀ (vs : List Value) (i : Nat) (cur : Array Value) (w : World), w.heap[g]? = some (.cells cur t (0, 0)) → i + vs.length ≤ cur.size →
    ∃ cur', (w.setCells g i vs).heap[g]? = some (.cells cur' t (0, 0)) ∧ cur'.size = cur.size ∧ (∀ j, j < i ∨ i + vs.length ≤ j → cur'[j]? = cur[j]?) ∧ (∀ j u, vs[j]? = some u → cur'[i + j]? = some u) ∧ Touch g w (w.setCells g i vs)
  | [], i, cur, w, hg, _ => ⟨cur, hg, rfl, fun _ _ => rfl, fun j u h => by simp at h, ⟨rfl, rfl, rfl, rfl, fun _ _ => rfl⟩⟩
  | v :: r, i, cur, w, hg, hl => by
    simp only [List.length_cons] at hl
    obtain ⟨h1, h2⟩ := touch_setCell (w := w) (i := i) (v := v) hg
    obtain ⟨cur', g1, g2, g3, g4, g5⟩ := setCells_all g t r (i + 1) _ _ h1 (by simp; omega)
    refine ⟨cur', g1, by simpa using g2, fun j hj => ?_, fun j u hu => ?_, ?_⟩
    · simp only [List.length_cons] at hj
      rw [g3 j (by omega), Array.getElem?_setIfInBounds, if_neg (by omega)]
    · cases j with
      | zero =>
        simp only [List.getElem?_cons_zero, Option.some.injEq] at hu
        subst hu
        rw [Nat.add_zero, g3 i (by omega), Array.getElem?_setIfInBounds, if_pos rfl, if_pos (by omega)]
      | succ j =>
        have := g4 j u (by simpa using hu)
        rwa [show i + 1 + j = i + (j + 1) by omega] at this
    · show Touch g w ((w.setCell ⟨g, i, none⟩ v).setCells g (i + 1) r)
      exact ⟨g5.os.trans h2.os, g5.tape.trans h2.tape, g5.output.trans h2.output, g5.size.trans h2.size, fun b hb => (g5.other b hb).trans (h2.other b hb)⟩
section
variable {α : Type} {R : Rd α} {k B : Nat} {e : TypeId} {w : World} {g n c : Nat} {l : List α}
theorem OwnAt.there (h : OwnAt R k w B e (.slice (some ⟨g, 0, none⟩) n c) l) {o m : Nat} (hm : o + m ≤ c * k) : w.there g o m := by
  obtain ⟨css, h1, h2, h3, h4⟩ := h
  rcases h3.2 with ⟨h5, _⟩ | ⟨g', cap, cur, hv, hB, hh, hle, hmx, hz, ht⟩
  · cases h5
  · cases hv
    intro j hj
    refine ⟨?_, free_block hh _⟩
    rw [cell_block hh, Array.getElem?_eq_getElem (by omega)]
    rfl
theorem OwnAt.behind (hf : Flat R) (h : OwnAt R k w B e (.slice (some ⟨g, 0, none⟩) n c) l) {i : Nat} (hi : i ≤ l.length) {vs : List Value} (hvs : i * k + vs.length ≤ c * k) :
    OwnAt R k (w.setCells g (i * k) vs) B e (.slice (some ⟨g, 0, none⟩) i c) (l.take i) ∧ Touch g w (w.setCells g (i * k) vs) := by
  obtain ⟨css, h1, h2, h3, h4⟩ := h
  rcases h3.2 with ⟨h5, _⟩ | ⟨g', cap, cur, hv, hB, hh, hle, hmx, hz, ht⟩
  · cases h5
  · cases hv
    obtain ⟨cur', g1, g2, g3, g4, g5⟩ := setCells_all g e vs (i * k) cur w hh (by rw [hz]; exact hvs)
    have hik : i * k ≤ l.length * k := Nat.mul_le_mul_right k hi
    have hlk : (l.take i).length = i := by rw [List.length_take]; omega
    have hk2 : ∀ q ∈ css.take i, q.length = k := fun q hq => h2 q (List.mem_of_mem_take hq)
    have hfl : (css.take i).flatten.length = i * k := by rw [flat_len hk2, List.length_take, h1]; congr 1; omega
    have hpre : (css.take i).flatten = css.flatten.take (i * k) := by
      have h7 : css.flatten = (css.take i).flatten ++ (css.drop i).flatten := by rw [← List.flatten_append, List.take_append_drop]
      rw [h7, ← hfl, List.take_left]
    refine ⟨⟨css.take i, by rw [List.length_take, List.length_take, h1], hk2, ?_, fun j q y hq hy => ?_⟩, g5⟩
    · rw [hlk]
      refine ⟨hfl, .inr ⟨g, c, cur', rfl, hB, g1, by omega, hmx, by rw [g2]; exact hz, ?_⟩⟩
      rw [hpre, ← ht]
      apply List.ext_getElem?
      intro t
      by_cases htl : t < i * k
      · rw [List.getElem?_take_of_lt htl, Array.getElem?_toList, g3 t (.inl htl), List.getElem?_take_of_lt htl, List.getElem?_take_of_lt (by omega), Array.getElem?_toList]
      · rw [List.getElem?_eq_none (by rw [List.length_take]; omega), List.getElem?_eq_none (by rw [List.length_take]; omega)]
    · have hj : j < i := by have := (List.getElem?_eq_some_iff.1 hy).1; omega
      rw [List.getElem?_take_of_lt hj] at hq hy
      exact hf _ _ _ _ (h4 j q y hq hy)
end
end Go.Proofs.Ytgoapmjcfdbjpaa
namespace Go.Proofs.Ytgoapmjcfdbjpaa
open Go.RowKit
def mkB (l : List UInt8) : ByteArray := ⟨l.toArray⟩
theorem own_texts {w : World} {B : Nat} {e : TypeId} {g n c : Nat} {l : List ByteArray} (h : OwnAt RString 1 w B e (.slice (some ⟨g, 0, none⟩) n c) l) : n = l.length ∧ B ≤ g ∧ g < w.heap.size ∧ l.length ≤ c ∧ c ≤ maxLen ∧ Go.Sort.Holds encStr w g 0 (l.map (·.data.toList)).toArray := by
  have ho := own_strs h
  rcases h.form with ⟨h1, _⟩ | ⟨g', c', h1, h2, h3, h4, h5⟩
  · cases h1
  · injection h1 with u1 u2 u3
    injection u1 with u1
    injection u1 with u1
    subst u1; subst u2; subst u3
    refine ⟨rfl, h2, h3, h4, h5, fun j hj => ?_⟩
    have hjl : j < l.length := by simpa using hj
    rcases ho.2 with ⟨e1, _⟩ | ⟨g2, cap, cur, e1, _, hh, _, _, _, _⟩
    · cases e1
    · have hc := ho.cells (g := g) rfl j _ (strs_get (List.getElem?_eq_getElem hjl))
      rw [add_plain'] at hc
      injection e1 with u1 _ _
      injection u1 with u1
      injection u1 with u1
      subst u1
      refine ⟨?_, free_block hh _⟩
      rw [hc, getElem!_pos _ j (by simpa using hjl)]
      simp [encStr]
theorem own_putRow {w : World} {B : Nat} {e : TypeId} {g n c q : Nat} {l : List ByteArray} (h : OwnAt RString 1 w B e (.slice (some ⟨g, 0, none⟩) n c) l) (zs : List (List UInt8)) (hz : zs.length = l.length) :
    OwnAt RString 1 (Go.Sort.putRow encStr (Go.Sort.ahead w q) g 0 zs.toArray) B e (.slice (some ⟨g, 0, none⟩) n c) (zs.map mkB) ∧ RowKit.Below B w (Go.Sort.putRow encStr (Go.Sort.ahead w q) g 0 zs.toArray) ∧ (Go.Sort.putRow encStr (Go.Sort.ahead w q) g 0 zs.toArray).heap.size = w.heap.size := by
  obtain ⟨css, c1, c2, ⟨c3, c4⟩, c5⟩ := h
  rcases c4 with ⟨h0, _⟩ | ⟨g', cap, cur, hv, hB, hh, hle, hm, hzc, ht⟩
  · cases h0
  · injection hv with u1 u2 u3
    injection u1 with u1
    injection u1 with u1
    subst u1; subst u2; subst u3
    obtain ⟨W, hW⟩ : ∃ W, Go.Sort.putRow encStr (Go.Sort.ahead w q) g 0 zs.toArray = W := ⟨_, rfl⟩
    rw [hW]
    have hw : W.heap[g]? = some (.cells (Go.Sort.putCells encStr 0 zs.toArray cur) e (0, 0)) := by
      rw [← hW]
      unfold Go.Sort.putRow Go.Sort.mapBlock
      show (Array.modify w.heap g _)[g]? = _
      rw [Array.getElem?_modify, if_pos rfl, hh]
      rfl
    have ho : ∀ k, k ≠ g → W.heap[k]? = w.heap[k]? := fun k hk => by
      rw [← hW]
      unfold Go.Sort.putRow Go.Sort.mapBlock
      show (Array.modify w.heap g _)[k]? = _
      rw [Array.getElem?_modify, if_neg (Ne.symm hk)]
    have hs : W.heap.size = w.heap.size := by
      rw [← hW]
      unfold Go.Sort.putRow Go.Sort.mapBlock
      show (Array.modify w.heap g _).size = _
      rw [Array.size_modify]
    refine ⟨ownAt_strs (n := l.length) ⟨by rw [strs_length, List.length_map, hz, Nat.mul_one], .inr ⟨g, c, _, rfl, hB, hw, hle, hm, by unfold Go.Sort.putCells; rw [Array.size_mapIdx]; exact hzc, ?_⟩⟩ (by rw [List.length_map, hz]), ⟨by rw [← hW]; rfl, by rw [← hW]; rfl, by rw [← hW]; rfl, by rw [hs]; exact Nat.le_refl _, fun k hk => ho k (by omega)⟩, hs⟩
    apply List.ext_getElem?
    intro t
    rw [Nat.mul_one]
    by_cases htl : t < l.length
    · have htc : t < cur.size := by rw [hzc]; omega
      rw [List.getElem?_take_of_lt htl, Array.getElem?_toList]
      unfold Go.Sort.putCells
      rw [Array.getElem?_mapIdx, Array.getElem?_eq_getElem htc, Option.map_some, if_pos ⟨by omega, by simp [hz]; omega⟩, Nat.sub_zero, getElem!_pos zs.toArray t (by simpa [hz] using htl)]
      unfold strs
      rw [List.map_map, List.getElem?_map, List.getElem?_eq_getElem (by omega)]
      rfl
    · rw [List.getElem?_eq_none (by rw [List.length_take]; omega), List.getElem?_eq_none (by rw [strs_length, List.length_map, hz]; omega)]
theorem sortStr_any (v : Value) (l : List ByteArray) (B : Nat) (w : World) (h : OwnAt RString 1 w B 9 v l) (hB : B ≤ w.heap.size) (hl : l.length ≤ 1073741824) :
    Calls Try.prog 26 #[v] w fun e w' => e = .returned (.tuple #[]) ∧ OwnAt RString 1 w' B 9 v ((sortedL (l.map (·.data.toList))).map mkB) ∧ RowKit.Below B w w' := by
  rcases h.form with ⟨rfl, rfl⟩ | ⟨g, c, rfl, _, hg, _, _⟩
  · refine (Try.slices_Sort_string_none none 0 w).mono fun e w' ⟨h1, h2⟩ => ?_
    subst h2
    refine ⟨h1, ?_, Below.refl _ _⟩
    have : sortedL (([] : List ByteArray).map (·.data.toList)) = [] := by simp [sortedL]
    rw [this]
    exact OwnAt.nil _
  · obtain ⟨_, _, _, _, _, hH⟩ := own_texts h
    have hs := Try.slices_Sort_string g 0 c (l.map (·.data.toList)) w hH hg (by rw [List.length_map]; omega)
    rw [List.length_map] at hs
    refine hs.mono fun e w' ⟨h1, n, os, h2⟩ => ?_
    obtain ⟨o1, o2, o3⟩ := own_putRow (q := n) h (sortedL (l.map (·.data.toList))) (by rw [sorted_len, List.length_map])
    have hgr : RowKit.Below (Go.Sort.putRow encStr (Go.Sort.ahead w n) g 0 (sortedL (l.map (·.data.toList))).toArray).heap.size (Go.Sort.putRow encStr (Go.Sort.ahead w n) g 0 (sortedL (l.map (·.data.toList))).toArray) w' := by
      rw [h2]
      exact Lib.below_grow _ _ (Nat.le_refl _) 0 os
    refine ⟨h1, o1.below stays_string hgr, o2.trans (hgr.mono (by rw [o3]; exact hB))⟩
theorem setCells_nil (w : World) (g i : Nat) : w.setCells g i [] = w := rfl
theorem compactStr_any (v : Value) (l : List ByteArray) (B : Nat) (w : World) (h : OwnAt RString 1 w B 9 v l) (hl : l.length ≤ 1073741824) :
    Calls Try.prog 23 #[v] w fun e w' => ∃ v', e = .returned v' ∧ OwnAt RString 1 w' B 9 v' ((Lib.compact (l.map (·.data.toList))).map mkB) ∧ RowKit.Below B w w' := by
  rcases h.form with ⟨rfl, rfl⟩ | ⟨g, c, rfl, _, hg, _, _⟩
  · refine (Try.slices_Compact_string_empty none 0 w).mono fun e w' ⟨h1, h2⟩ => ?_
    subst h2
    refine ⟨_, h1, ?_, Below.refl _ _⟩
    have : Lib.compact (([] : List ByteArray).map (·.data.toList)) = [] := by simp [Lib.compact, Lib.compactUpTo]
    rw [this]
    exact OwnAt.nil _
  · obtain ⟨_, _, _, hlc, _, hH⟩ := own_texts h
    have hs := Try.slices_Compact_string g 0 c (l.map (·.data.toList)) w hH (by rw [List.length_map]; omega) (by rw [List.length_map]; exact hlc)
    rw [List.length_map] at hs
    refine hs.mono fun e w' ⟨h1, q, h2⟩ => ?_
    have hle : (Lib.compact (l.map (·.data.toList))).length ≤ l.length := by
      have := Lib.compact_length_le (l.map (·.data.toList))
      rwa [List.length_map] at this
    obtain ⟨o1, o2, o3⟩ := own_putRow (q := q) h (Lib.compact (l.map (·.data.toList)) ++ List.replicate (l.length - (Lib.compact (l.map (·.data.toList))).length) []) (by rw [List.length_append, List.length_replicate]; omega)
    rw [← h2] at o1 o2 o3
    obtain ⟨o4, _⟩ := o1.behind flat_string (i := (Lib.compact (l.map (·.data.toList))).length) (vs := []) (by rw [List.length_map, List.length_append]; omega) (by simp; omega)
    rw [setCells_nil, List.map_append, List.take_left' (by rw [List.length_map])] at o4
    exact ⟨_, h1, o4, o2⟩
end Go.Proofs.Ytgoapmjcfdbjpaa
namespace Go.Proofs.Ytgoapmjcfdbjpaa
open Go.RowKit Go.MapKept Go.ChangeMaps Go.Shelf Go.Maps Go.Sort
attribute [local go_sem] Oper.semAt_some
theorem values_any (v : Value) (a : Option Addr) (n c : Nat) (hv : v = .slice a n c) (w : World) : Calls Try.prog 25 #[v] w fun e w' => e = .returned (.func (.func 36) #[] #[.pointer (some ⟨w.heap.size, 0, none⟩)]) ∧ w' = w.alloc (.cells #[v] 23) := by
  subst hv
  go_enter Try.func25, Try.ntmps25
  go_wp2
  go_ret
  exact ⟨rfl, rfl⟩
set_option maxRecDepth 100000 in
set_option maxHeartbeats 2000000 in
theorem vals_told (n : Nat) (hn : 1 ≤ n) (v : Value) (l : List ByteArray) (gb b3 n0 : Nat) (w0 w : World) (hn0 : n0 = w0.heap.size) (hw : ∀ k, k < n0 → w.heap[k]? = w0.heap[k]?) (h : StrAt w0 v l) (hgb : w0.heap[gb]? = some (.cells #[v] 23 (0, 0))) (hl : l.length ≤ 1073741824) (hb3 : n0 ≤ b3) :
    SeqTold Fence.wide n Try.prog 36 #[.pointer (some ⟨gb, 0, none⟩)] Value.string l b3 n0 w := by
  intro l9 J W hW hY h0
  obtain ⟨a, c, rfl, hlc, hcm⟩ := h.len
  have hgl : gb < n0 := by rw [hn0]; exact (Array.getElem?_eq_some_iff.1 hgb).1
  have wgb := cell_block ((hW gb hgl).trans ((hw gb hgl).trans hgb))
  obtain ⟨nl, hnl⟩ : ∃ n, l.length = n := ⟨_, rfl⟩
  rw [hnl] at h hgb hl hlc wgb hY
  have H := Lib.hid h
  have Hnl := Lib.hid hnl
  have HW : Hid (∀ k, k < n0 → W.heap[k]? = w0.heap[k]?) := Lib.hid fun k hk => (hW k hk).trans (hw k hk)
  have HY := Lib.hid hY
  clear hY h hnl hW hw
  refine callsIn_of_wp Try.func36 rfl trivial ?_ rfl
  simp only [Try.ntmps36, List.size_toArray, List.length_cons, List.length_nil, Nat.reduceAdd, Nat.reduceSub, Array.replicate_succ, Array.replicate_zero, List.push_toArray, List.append_toArray, List.nil_append, List.cons_append]
  gi_wp2
  gi_loopw [7] (fun p wr => ∃ k : Nat, k ≤ nl ∧ p = .int .i64 (k : Int) ∧ J (l.take k) wr ∧ Hid (∀ k, k < n0 → wr.heap[k]? = w0.heap[k]?)) (fun p _ => nl - (intOf p).toNat)
  case atStart => exact ⟨0, by omega, rfl, by simpa using h0, HW⟩
  case round =>
    clear wgb h0
    obtain ⟨k, hk, rfl, hJ, HWr⟩ := hrel
    by_cases hkl : k < nl
    · obtain ⟨y, hy⟩ : ∃ y, l[k]? = some y := ⟨l[k]'(by rw [Hnl.out]; exact hkl), List.getElem?_eq_getElem _⟩
      obtain ⟨b, o, c', hv, hbl, _, _, hc⟩ := H.out.form (by rw [Hnl.out]; omega)
      injection hv with u1 u2 u3
      subst u1
      clear u2 u3
      have e0 : wr.cell? ⟨b, o + k, none⟩ = some (.string y) := by
        have h9 := hc k y hy
        have hb9 : b < w0.heap.size := World.block_lt_of_cell? w0 _ h9
        exact (World.cell?_of_block (HWr.out b (by omega))).trans h9
      have q1 : (0 : Int) ≤ (k : Int) := by omega
      have q2 : (k : Int) < (nl : Int) := by omega
      obtain ⟨fn, tmps, assign, body, hyld, hR⟩ := HY.out (l.take k) y wr hJ (by rw [List.length_take, Hnl.out]; omega)
      have HR := Lib.hid hR
      have Htk : Hid (l.take (k + 1) = l.take k ++ [y]) := Lib.hid (Rf.take_succ hy)
      clear hc hy hR hJ
      gi_wp2
      refine HR.out.mono ?_
      rintro e W' ⟨rfl, hJ', hk'⟩
      have HW' : Hid (∀ k, k < n0 → W'.heap[k]? = w0.heap[k]?) := Lib.hid fun z hz => (hk' z hz (by omega)).trans (HWr.out z hz)
      clear hyld hk'
      gi_wp2
      go_roundw
      case rel => exact ⟨k + 1, by omega, by go_num, by rw [Htk.out]; exact hJ', HW'⟩
      case measure => simp [intOf]; omega
    · obtain rfl : k = nl := by omega
      have hJ' : J l wr := by rwa [List.take_of_length_le (by rw [Hnl.out]; exact Nat.le_refl _)] at hJ
      clear hJ
      gi_wp2
      go_end0
      exact ⟨⟨_, rfl⟩, hJ'⟩
theorem own_keepRow {w w' : World} {B n : Nat} {e : TypeId} {v : Value} {xs : List Value} (h : w.ownsRow B e 1 v n xs) (hb : ∀ q, v.ownBlock = some q → w'.heap[q]? = w.heap[q]?) : w'.ownsRow B e 1 v n xs := by
  refine ⟨h.1, ?_⟩
  rcases h.2 with h5 | ⟨q, cap, cur, rfl, hB, hh, hr⟩
  · exact .inl h5
  · exact .inr ⟨q, cap, cur, rfl, hB, (hb q rfl).trans hh, hr⟩
theorem own_blockR {w : World} {B n : Nat} {e : TypeId} {v : Value} {xs : List Value} (h : w.ownsRow B e 1 v n xs) {q : Nat} (hq : v.ownBlock = some q) : B ≤ q ∧ q < w.heap.size ∧ ∃ cur, w.heap[q]? = some (.cells cur e (0, 0)) := by
  rcases h.2 with ⟨rfl, _⟩ | ⟨g, cap, cur, rfl, hB, hh, hr⟩
  · cases hq
  · simp [Value.ownBlock] at hq
    subst hq
    exact ⟨hB, (Array.getElem?_eq_some_iff.1 hh).1, cur, hh⟩
def AppI (w : World) (pre : List ByteArray) (W : World) : Prop := ∃ v, W.heap[w.heap.size]? = some (.cells #[v] 23 (0, 0)) ∧ W.ownsRow w.heap.size 9 1 v pre.length (strs pre) ∧ Below w.heap.size w W
theorem AppI.alloc {w A : World} {pre : List ByteArray} (h : AppI w pre A) (o : Obj) : AppI w pre (A.alloc o) := by
  obtain ⟨v, h1, h2, h3⟩ := h
  exact ⟨v, heap_alloc_old h1, h2.alloc o, h3.alloc h3.size o⟩
theorem AppI.put {w A : World} {pre : List ByteArray} {l : Nat} {lo : Loop} (h : AppI w pre A) (hl : w.heap.size ≤ l) (ha : A.heap[l]? = some (.loop lo)) (lo' : Loop) : AppI w pre (A.putObj l (.loop lo')) := by
  obtain ⟨v, h1, h2, h3⟩ := h
  refine ⟨v, (World.putObj_heap_other fun e => ?_).trans h1, own_keepRow h2 fun q hq => World.putObj_heap_other fun e => ?_, h3.trans (below_putObj A _ _ hl)⟩
  · rw [e, ha] at h1; cases h1
  · obtain ⟨_, _, cur, h9⟩ := own_blockR h2 hq
    rw [e, ha] at h9; cases h9
set_option maxRecDepth 100000 in
set_option maxHeartbeats 2000000 in
theorem appendVals_any (v : Value) (l : List ByteArray) (gb : Nat) (w : World) (h : StrAt w v l) (hgb : w.heap[gb]? = some (.cells #[v] 23 (0, 0))) (hl : l.length ≤ 1073741824) :
    Calls Try.prog 46 #[.slice none 0 0, .func (.func 36) #[] #[.pointer (some ⟨gb, 0, none⟩)]] w fun e w' => ∃ v', e = .returned v' ∧ w'.ownsRow w.heap.size 9 1 v' l.length (strs l) ∧ Below w.heap.size w w' := by
  refine (callsIn_wide (n := 6)).1 ?_
  have H := Lib.hid h
  have Hgb := Lib.hid hgb
  clear h hgb
  refine callsIn_of_wp_marks Try.func46 rfl trivial ?_ rfl
  simp only [Try.ntmps46, List.size_toArray, List.length_cons, List.length_nil, Nat.reduceAdd, Nat.reduceSub, Array.replicate_succ, Array.replicate_zero, List.push_toArray, List.append_toArray, List.nil_append, List.cons_append]
  gi_wp2_with fail
  have h0 : AppI w [] (w.alloc (.cells #[.slice none 0 0] 23)) := ⟨_, heap_alloc_new w _, World.ownsRow_nil _ _ _ _, (Below.refl _ w).alloc (Nat.le_refl _) _⟩
  have htold := vals_told 5 (by omega) v l gb w.heap.size w.heap.size w (w.alloc (.cells #[.slice none 0 0] 23)) rfl (fun k hk => Below.heap_alloc w _ k hk) H.out Hgb.out hl (Nat.le_refl _)
  generalize hwa : w.alloc (.cells #[.slice none 0 0] 23) = wa at h0 htold ⊢
  have hsa : wa.heap.size = w.heap.size + 1 := by rw [← hwa, World.size_alloc]
  clear hwa
  refine wpIn_range_put (α := ByteArray) rfl (by omega) (gf := 36) (lb := #[.pointer (some ⟨gb, 0, none⟩)]) rfl trivial (enters_of Try.func36 (by kernel_rfl) rfl)
    (enc := Value.string) (xs := l) (b3 := w.heap.size) (n0 := w.heap.size) (by omega) htold (AppI w) (fun pre A o h => h.alloc o) (fun pre A l lo lo' hl h ha => h.put (by omega) ha lo') h0
    (fun x => { tmps := #[Value.slice none 0 0, Value.func (Fn.func 36) #[] #[Value.pointer (some ⟨gb, 0, none⟩)], Value.pointer (some ⟨w.heap.size, 0, none⟩), undef, Value.slice none 0 0, Value.string x, Value.func (Fn.func 36) #[] #[Value.pointer (some ⟨gb, 0, none⟩)], Value.string x, undef, undef, undef, undef, undef], defers := [] }) ?assign ?body ?done
  case assign =>
    intro l9 x W K hK
    gi_wp2
    exact hK
  case body =>
    rintro l9 pre x W ⟨v9, hb, ho, hB⟩ hlt
    have HB := Lib.hid hB
    have Hb := Lib.hid hb
    have Ho := Lib.hid ho
    have hpl : pre.length < l.length := hlt
    have hsz := hB.size
    have hgl : w.heap.size < W.heap.size := (Array.getElem?_eq_some_iff.1 hb).1
    have c1 := cell_block hb 0
    obtain ⟨i0, hi0, hz0, hz1, hz2⟩ := info_parts Try.infoStr
    have hne : v9.ownBlock ≠ some w.heap.size := fun e => by
      obtain ⟨_, _, cur, h9⟩ := own_blockR ho e
      rw [hb] at h9; cases h9
    obtain ⟨a9, c9, rfl⟩ : ∃ a c, v9 = .slice a pre.length c := by
      rcases ho.2 with ⟨rfl, h0⟩ | ⟨g, cap, cur, rfl, _⟩
      · rw [h0]; exact ⟨_, _, rfl⟩
      · exact ⟨_, _, rfl⟩
    clear hb ho hB htold h0
    gi_wp2_with (gi_at_builtin; refine Hid.out ?_)
    refine Lib.hid ?_
    refine wpListIn_append_own_at _ (by rfl) _ _ _ (by rfl) w.heap.size 9 i0 _ 1 16 Try.underlying23 hi0 hz0 hz1 hz2 rfl (by decide) _ _ _ (by rfl) (Ho.out.alloc _) ⟨W.heap.size, 0, none⟩ 1 1 [.string x] (by rfl) rfl (cell_one_new _ _ _) (by simp [Value.oneCell']) (by unfold maxLen; omega) (by omega) (by simp; omega) ?_
    intro v' w3 hown' hg3 hnil3 hat3
    have hwl : w.heap.size < (W.alloc (.cells #[.string x] 9)).heap.size := by rw [World.size_alloc]; omega
    have hb3 : w3.heap[w.heap.size]? = some (.cells #[.slice a9 pre.length c9] 23 (0, 0)) := (hg3.block _ hwl fun e => hne e.symm).trans (heap_alloc_old Hb.out)
    obtain ⟨a', c', hv'⟩ : ∃ a c, v' = .slice a (pre.length + 1) c := by
      rcases hown'.2 with ⟨rfl, h0⟩ | ⟨g, cap, cur, rfl, _⟩
      · rw [h0]; exact ⟨_, _, rfl⟩
      · exact ⟨_, _, rfl⟩
    rw [hv'] at hown' hat3 ⊢
    clear hv' hnil3
    have hBa : Below w.heap.size w (W.alloc (.cells #[.string x] 9)) := HB.out.alloc (by omega) _
    have hB3 : Below w.heap.size w w3 := hBa.grown hg3 hBa.size fun q hq => (own_blockR Ho.out hq).1
    have t := touch_setCell (i := 0) (v := .slice a' (pre.length + 1) c') hb3
    have Hfin : Hid (∀ a : Act, putPost (AppI w) (pre ++ [x]) w.heap.size w.heap.size W .normal a (w3.setCell ⟨w.heap.size, 0, none⟩ (.slice a' (pre.length + 1) c'))) := Lib.hid (by
      intro a
      refine ⟨⟨_, t.1, own_keepRow ?_ fun q hq => t.2.other q fun e => ?_, t.2.below hB3 (Nat.le_refl _)⟩, fun k o hk hno => ?_, fun k hk _ => ?_⟩
      · rw [List.length_append, strs_append]; exact hown'
      · obtain ⟨_, _, cur, h9⟩ := own_blockR hown' hq
        rw [e, hb3] at h9; cases h9
      · have hkW : k < W.heap.size := (Array.getElem?_eq_some_iff.1 hk).1
        have h1 : k ≠ w.heap.size := fun e => by rw [e, Hb.out] at hk; cases hk; exact hno _ _ _ rfl
        rw [t.2.other k h1, hg3.block k (by rw [World.size_alloc]; omega) fun e => ?_]
        · exact heap_alloc_old hk
        · obtain ⟨_, _, cur, h9⟩ := own_blockR Ho.out e.symm
          rw [hk] at h9; cases h9; exact hno _ _ _ rfl
      · rw [t.2.other k (by omega), hB3.block k hk, HB.out.block k hk])
    have c3 := cell_block hb3 0
    have f3 := free_block hb3 0
    clear hown' hg3 hat3 hb3 hBa hB3 t c1 hwl Hb Ho hne
    gi_wp2_with fail
    exact Hfin.out _
  case done =>
    rintro D W ⟨v9, hb, ho, hB⟩ hK hD
    have HB := Lib.hid hB
    have Hb := Lib.hid hb
    have Ho := Lib.hid ho
    have HK := Lib.hid hK
    have c1 := cell_block hb 0
    obtain ⟨a9, c9, hv9⟩ : ∃ a c, v9 = .slice a l.length c := by
      rcases ho.2 with ⟨rfl, h0⟩ | ⟨g, cap, cur, rfl, _⟩
      · rw [h0]; exact ⟨_, _, rfl⟩
      · exact ⟨_, _, rfl⟩
    have hsz := hB.size
    clear hb ho hB h0 htold hK
    gi_wp2_with fail
    refine ⟨by simp, .inl ⟨_, _, rfl, run_takeDeferred HK.out, ?_⟩⟩
    refine ⟨_, results_tmp rfl _ _ _, v9, (by rw [hv9]; rfl), own_keepRow Ho.out fun q hq => World.putObj_heap_other fun e => ?_, HB.out.trans (below_putObj W _ _ (by omega))⟩
    obtain ⟨_, _, cur, h9⟩ := own_blockR Ho.out hq
    rw [e, HK.out] at h9; cases h9
set_option maxRecDepth 100000 in
theorem sortedVals_any (v : Value) (l : List ByteArray) (gb : Nat) (w : World) (h : StrAt w v l) (hgb : w.heap[gb]? = some (.cells #[v] 23 (0, 0))) (hl : l.length ≤ 1048576) :
    Calls Try.prog 24 #[.func (.func 36) #[] #[.pointer (some ⟨gb, 0, none⟩)]] w fun e w' => ∃ v', e = .returned v' ∧ OwnAt RString 1 w' w.heap.size 9 v' ((sortedL (l.map (·.data.toList))).map mkB) ∧ Below w.heap.size w w' := by
  have hcol : Calls Try.prog 35 #[.func (.func 36) #[] #[.pointer (some ⟨gb, 0, none⟩)]] w fun e w' => ∃ v', e = .returned v' ∧ w'.ownsRow w.heap.size 9 1 v' l.length (strs l) ∧ Below w.heap.size w w' := by
    have H := Lib.hid (appendVals_any v l gb w h hgb (by omega))
    clear h hgb
    go_enter Try.func35, Try.ntmps35
    go_wp2_with fail
    refine H.out.mono ?_
    rintro e w' ⟨v', rfl, h1, h2⟩
    clear H
    go_wp2_with fail
    go_ret
    exact ⟨v', rfl, h1, h2⟩
  have Hc := Lib.hid hcol
  clear hcol h hgb
  go_enter Try.func24, Try.ntmps24
  go_wp2_with fail
  refine Hc.out.mono ?_
  rintro e w' ⟨v', rfl, h1, h2⟩
  have hs := h2.size
  have HS := Lib.hid (sortStr_any v' l w.heap.size w' (ownAt_strs h1 rfl) hs (by omega))
  have H2 := Lib.hid h2
  clear Hc h1 h2
  go_wp2_with fail
  refine HS.out.mono ?_
  rintro e w9 ⟨rfl, h3, h4⟩
  clear HS
  go_wp2_with fail
  go_ret
  exact ⟨v', rfl, h3, H2.out.trans h4⟩
end Go.Proofs.Ytgoapmjcfdbjpaa
namespace Go.Proofs
open Go.Shelf
def Try.keys42_ren : Go.Shelf.Ren := ⟨fun | 7 => 42 | 10 => 61 | n => n, fun | 23 => 37 | 26 => 9 | 3 => 3 | 28 => 61 | 0 => 0 | 27 => 60 | 33 => 79 | 4 => 4 | n => n, fun | n => n⟩
theorem Try.keys42 : Go.Proofs.SlLaysZ.n7 Try.prog Try.keys42_ren := {
  mixed := by kernel_rfl
  f7 := ⟨Try.f42.name, by decide, Try.func42.trans (congrArg some (by kernel_rfl))⟩
  f10 := ⟨Try.f61.name, by decide, Try.func61.trans (congrArg some (by kernel_rfl))⟩
  t0 := Try.underlying0
  a0 := Try.isAgg0
  z0 := Try.sizeOf0
  v0 := Try.zeroValue0
  t4 := Try.underlying4
  a4 := Try.isAgg4
  z4 := Try.sizeOf4
  v4 := Try.zeroValue4
  t23 := Try.underlying37
  a23 := Try.isAgg37
  z23 := Try.sizeOf37
  v23 := Try.zeroValue37
  t26 := Try.underlying9
  a26 := Try.isAgg9
  z26 := Try.sizeOf9
  v26 := Try.zeroValue9
  t27 := Try.underlying60
  a27 := Try.isAgg60
  z27 := Try.sizeOf60
  v27 := Try.zeroValue60
  t28 := Try.underlying61
  a28 := Try.isAgg61
  z28 := Try.sizeOf61
  v28 := Try.zeroValue61
  t33 := Try.underlying79
  a33 := Try.isAgg79
  z33 := Try.sizeOf79
  v33 := Try.zeroValue79 }
def Try.sorted24_ren : Go.Shelf.Ren := ⟨fun | 6 => 24 | 8 => 35 | 9 => 26 | 11 => 46 | 13 => 38 | 12 => 37 | 23 => 56 | 24 => 57 | 14 => 47 | 15 => 48 | 16 => 49 | 17 => 50 | 18 => 51 | 19 => 52 | 20 => 53 | 21 => 54 | 22 => 55 | 25 => 62 | 26 => 63 | 27 => 64 | 28 => 65 | 29 => 66 | 30 => 67 | 31 => 69 | n => n, fun | 26 => 9 | 28 => 61 | 24 => 23 | 0 => 0 | 3 => 3 | 37 => 82 | 48 => 104 | 50 => 106 | 4 => 4 | 40 => 97 | 39 => 96 | 45 => 63 | 5 => 5 | 9 => 9 | 51 => 110 | 55 => 114 | 57 => 116 | 58 => 117 | 33 => 79 | n => n, fun | n => n⟩
theorem Try.sorted24 : Go.Proofs.SlLaysZ.n6 Try.prog Try.sorted24_ren := {
  mixed := by kernel_rfl
  f6 := ⟨Try.f24.name, by decide, Try.func24.trans (congrArg some (by kernel_rfl))⟩
  f8 := ⟨Try.f35.name, by decide, Try.func35.trans (congrArg some (by kernel_rfl))⟩
  f11 := ⟨Try.f46.name, by decide, Try.func46.trans (congrArg some (by kernel_rfl))⟩
  t0 := Try.underlying0
  a0 := Try.isAgg0
  z0 := Try.sizeOf0
  v0 := Try.zeroValue0
  t24 := Try.underlying23
  a24 := Try.isAgg23
  z24 := Try.sizeOf23
  v24 := Try.zeroValue23
  t26 := Try.underlying9
  a26 := Try.isAgg9
  z26 := Try.sizeOf9
  v26 := Try.zeroValue9
  t28 := Try.underlying61
  a28 := Try.isAgg61
  z28 := Try.sizeOf61
  v28 := Try.zeroValue61
  i26 := by kernel_rfl }
end Go.Proofs
namespace Go.Proofs.Ytgoapmjcfdbjpaa
open Go.RowKit Go.MapKept Go.ChangeMaps Go.Shelf Go.Maps Go.Sort
theorem Try.sortsR (m : Nat) : AnyZ.SortsIn Try.prog Try.sorted24_ren Fence.wide m :=
  ⟨fun blk off cap ss W hH hblk hsz => callsIn_wide.2 (Try.slices_Sort_string blk off cap ss W hH hblk hsz), fun p cap W => callsIn_wide.2 (Try.slices_Sort_string_none p cap W)⟩
theorem keys_any (b : Nat) (w : World) : Calls Try.prog 42 #[.map (some b)] w fun e w' => e = .returned (.func (.func 61) #[] #[.pointer (some ⟨w.heap.size, 0, none⟩)]) ∧ w' = w.alloc (.cells #[.map (some b)] 37) :=
  (callsIn_wide (n := 5)).1 (AnyZ.keys_in Try.keys42 Fence.wide 5 trivial rfl (some b) w)
theorem mkB_strs (ss : List (List UInt8)) : ss.map encStr = strs (ss.map mkB) := by
  unfold strs
  rw [List.map_map]
  rfl
set_option maxHeartbeats 1000000 in
theorem sortedKeys_any {b n : Nat} {f : KB → Option Value} (gb : Nat) (w : World) (hm : MapS Try.prog 9 w b n f) (hn : n ≤ 1048576) (hgb : w.heap[gb]? = some (.cells #[.map (some b)] 37 (0, 0))) :
    Calls Try.prog 24 #[.func (.func 61) #[] #[.pointer (some ⟨gb, 0, none⟩)]] w fun e w' => ∃ (v' : Value) (ss : List ByteArray), e = .returned v' ∧ OwnAt RString 1 w' w.heap.size 9 v' ss ∧ ss.Nodup ∧ (∀ s : ByteArray, s ∈ ss ↔ (f s.data.toList).isSome = true) ∧ Below w.heap.size w w' := by
  obtain ⟨ks, hk1, hk2, _, _⟩ := hm.keys Try.underlying9
  obtain ⟨D, hown, hf⟩ := hm
  have hsz : Maps.size D ≤ n := hown.size_le
  have hseq : SeqGives Fence.wide 2 Try.prog 61 #[.pointer (some ⟨gb, 0, none⟩)] encStr (fun ss => ss.Perm (strKeys D)) (Maps.size D) w :=
    AnyZ.keys_gives (ρ := Try.keys42_ren) { Try.keys42 with } Fence.wide _ trivial rfl (by omega) gb b n D _ ((Array.getElem?_eq_some_iff.1 hgb).1) (cell_block hgb 0) hown
  have hperm : ks.Perm (strKeys D) := by
    refine Collected.perm (left := fun _ => false) ⟨hk1, fun x => ?_⟩ hown (Maps.string_keyed Try.underlying9) Try.underlying9 fun _ => rfl
    rw [hk2, hf, lookD_has Try.underlying9 hown]
    simp [kb]
  refine (callsIn_wide (n := 5)).1 ((AnyZ.sorted_in Try.sorted24 Fence.wide 5 trivial trivial trivial trivial rfl (by omega) (Try.sortsR _) (enters_of Try.func26 (by kernel_rfl) rfl) 61 #[.pointer (some ⟨gb, 0, none⟩)] trivial (enters_of Try.func61 (by kernel_rfl) rfl) _ _ (by unfold maxLen; omega) (by omega) _ hseq).mono ?_)
  rintro e w' ⟨v, ss, rfl, hS, hrow, _, hb⟩
  have hp : (ss.mergeSort fun x y => decide (x ≤ y)).Perm ks := ((List.mergeSort_perm _ _).trans hS).trans hperm.symm
  refine ⟨v, (ss.mergeSort fun x y => decide (x ≤ y)).map mkB, rfl, ownAt_strs (by rw [← mkB_strs]; exact hrow) (by rw [List.length_map]; exact List.length_mergeSort ss), ?_, fun s => ?_, hb⟩
  · have h9 : (ss.mergeSort fun x y => decide (x ≤ y)).Nodup := hp.nodup_iff.2 hk1
    rw [List.nodup_iff_pairwise_ne, List.pairwise_map]
    exact (List.nodup_iff_pairwise_ne.1 h9).imp fun hne e => hne (by
      have := congrArg (fun z : ByteArray => z.data.toList) e
      simpa [mkB] using this)
  · rw [List.mem_map, ← hk2, ← hp.mem_iff]
    constructor
    · rintro ⟨x, hx, rfl⟩
      simpa [mkB] using hx
    · intro h
      exact ⟨_, h, by unfold mkB; simp⟩
end Go.Proofs.Ytgoapmjcfdbjpaa
