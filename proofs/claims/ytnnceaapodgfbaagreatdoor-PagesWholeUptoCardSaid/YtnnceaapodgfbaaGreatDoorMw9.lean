/- Texts of ours joined. -/
import Derived.WalkSpells
import Derived.Deep.LoopGhost
import Derived.Lib.Hide
import Derived.IntWalk
import Derived.Laws.StructEq
import Derived.Deep.DeepCutAuto
import Derived.Test.YtnnceaapodgfbaaGreatDoorMw8
set_option linter.unusedVariables false
set_option linter.unusedSimpArgs false
namespace Go.Proofs.YtnnceaapodgfbaaGreatDoor
namespace Sto
open Go.RowKit
theorem Tryz.infoObjL : (Tryz.prog.info? 30).map (fun i => (i.zero, i.size, i.bytes)) = some (some (.agg #[.string ByteArray.empty, .string ByteArray.empty, .string ByteArray.empty, .slice none 0 0, .slice none 0 0, .slice none 0 0, .bool false, .string ByteArray.empty, .int .i64 0, .string ByteArray.empty]), 10, 168) := by kernel_rfl
theorem timeT_le (S : St) (rev : Int) : timeT S rev ≤ S.log.length := by
  unfold timeT
  by_cases h : rev < 0 ∨ (S.rev : Int) < rev
  · have h1 : timeE S rev = 1 := by unfold timeE; rw [if_pos h]
    rw [h1, if_pos (by decide)]
    omega
  · have h2 : rev.toNat ≤ S.log.length := by unfold St.rev at h; omega
    split
    · omega
    · split
      · exact Nat.le_refl _
      · exact h2
theorem live_le : ∀ l : List GEvent, live l ≤ (l.length : Int)
  | [] => by decide
  | e :: r => by
    have h := live_le r
    unfold live
    rw [List.length_cons]
    split
    · omega
    · split <;> omega
set_option maxRecDepth 100000 in
set_option maxHeartbeats 6400000 in
theorem list_any {D : Dom} {w : World} {g : Nat} {S : St} (h : StoreAt D w g S) (hS : OkSt S) (kind space : ByteArray) (hk : kind.size ≤ 1048576) (hs : space.size ≤ 1048576) (rev : Int) :
    Calls Tryz.prog 23 #[.pointer (some ⟨g, 0, none⟩), .string kind, .string space, .int .i64 rev] w fun e w' => Below w.heap.size w w' ∧ ∃ E v out, e = .returned (.tuple #[v, .int .i64 (listE S kind space rev)]) ∧ ListTold S kind space rev out ∧ OwnX ObjX 10 E w' 30 v out ∧ ∀ b, E b → w.heap.size ≤ b ∧ b < w'.heap.size := by
  obtain ⟨R, HR⟩ : ∃ R, Hid (says (chk kind) (spaceE space) = R) := ⟨_, Lib.hid rfl⟩
  obtain ⟨le, Hle⟩ : ∃ x, Hid (listE S kind space rev = x) := ⟨_, Lib.hid rfl⟩
  rw [Hle.out]
  have HA := Lib.hid h
  have HS := Lib.hid hS
  have hgl := h.lt
  clear h hS
  go_enter Tryz.func23, Tryz.ntmps23
  go_upto_region 2 with fail
  obtain ⟨w1, hw1⟩ : ∃ w1, w1 = w.alloc (.cells #[.int .i64 0] 113) := ⟨_, rfl⟩
  obtain ⟨gc, hgc⟩ : ∃ gc, gc = w.heap.size := ⟨_, rfl⟩
  have C1 : Hid (IsBad gc w1 0) := Lib.hid (by rw [hw1, hgc]; exact heap_alloc_new w _)
  have HB1 : Hid (Below w.heap.size w w1) := Lib.hid (by rw [hw1]; exact (Below.refl _ w).alloc (Nat.le_refl _) _)
  have hs1 : gc < w1.heap.size := by rw [hw1, World.size_alloc]; omega
  have hgw : w.heap.size ≤ gc := by omega
  have hd : ∀ b, D b → b < gc := fun b hb => by have := HA.out.low hb; omega
  have Hd := Lib.hid hd
  rw [← hw1, ← hgc]
  clear hw1 hgc hd
  go_wp2_with fail
  refine (name_one gc 0 kind w1 C1.out (by omega)).mono ?_
  rintro E w2 ⟨rfl, h1, h2⟩
  rw [zero_says] at h1
  have C2 := Lib.hid h1
  have K2 := Lib.hid h2
  clear h1 h2
  go_wp2_with fail
  refine (space_any gc _ space w2 C2.out (by omega)).mono ?_
  rintro E w3 ⟨rfl, h1, h2⟩
  have C3 : Hid (IsBad gc w3 R) := Lib.hid (by rw [← HR.out]; exact h1)
  have K3 := Lib.hid (K2.out.trans h2)
  have HB := Lib.hid (K3.out.below HB1.out HB1.out.size hgw)
  have HA3 : Hid (StoreAt D w3 g S) := Lib.hid ((HA.out.belowW HB1.out).agree (fun b hb => K3.out.block b (by have := Hd.out b hb; omega) (by have := Hd.out b hb; omega)) K3.out.size)
  clear h1 h2 C1 C2 K2 K3 HA HB1
  have cc : w3.cell? ⟨gc, 0, none⟩ = some (.int .i64 R) := cell_block C3.out 0
  by_cases hR : R = 0
  · subst hR
    have HTi := Lib.hid (time_any HA3.out rev)
    go_wp2_with fail
    refine HTi.out.mono ?_
    rintro E w4 ⟨rfl, hw4⟩
    subst hw4
    clear HTi cc
    obtain ⟨te, Hte⟩ : ∃ x, Hid (timeE S rev = x) := ⟨_, Lib.hid rfl⟩
    obtain ⟨tt, Htt⟩ : ∃ x, Hid (timeT S rev = x) := ⟨_, Lib.hid rfl⟩
    rw [Hte.out, Htt.out]
    have Hl : Hid (le = te) := Lib.hid (by rw [← Hle.out, ← Hte.out]; unfold listE; rw [HR.out, if_neg (by decide)])
    by_cases hte : te = 0
    · subst hte
      obtain ⟨M, I, mb, nn, f, vlog, hin, hDD⟩ := HA3.out
      have HIn := Lib.hid hin
      have HDD := Lib.hid hDD
      have cg := fun i => cell_block hin.box i
      clear hin hDD
      go_wp2_with (at_range; refine wpList_range_mapK _ (by rfl) _ 108 (by rfl) 159 Tryz.underlying108 mb nn f (by rfl) HIn.out.map ?_; intro w4 cnt hrg hgr hsz)
      try go_frame
      have hb4 : Below w3.heap.size w3 w4 := ⟨hgr.os, hgr.tape, hgr.output, hgr.size, fun k hk => hgr.block k hk (by simp)⟩
      have HR1 := Lib.hid hrg
      have HB4 := Lib.hid (HB.out.trans (hb4.mono HB.out.size))
      have HA4 := Lib.hid (HA3.out.belowW hb4)
      have hsr : w3.heap.size < w4.heap.size := by omega
      obtain ⟨r, hr⟩ : ∃ r, w3.heap.size = r := ⟨_, rfl⟩
      rw [hr] at HR1 hsr ⊢
      have hwr : w.heap.size ≤ r := by rw [← hr]; exact HB.out.size
      have hdr : Hid (∀ b, D b → b < r) := Lib.hid fun b hb => by rw [← hr]; exact HA3.out.low hb
      have hmr : mb < r := hdr.out mb ((HDD.out mb).2 (.inl HIn.out.mbM))
      clear hrg hgr hsz hb4 hr cg
      go_loopg [12, 13, 14, 15] cnt (fun c u12 u13 u14 u15 wr => ∃ (left : GKey → Bool) (l1 : List GObject), Hid (RangeK keyC wr mb r nn f left c) ∧ Hid (OwnAt (ObjX (fun b => r < b ∧ b < wr.heap.size ∧ u12.ownBlock ≠ some b) wr) 10 wr (r + 1) 30 u12 l1) ∧ Hid (Gathered (S.log.take tt) kind space left l1) ∧ Hid (Below w.heap.size w wr) ∧ Hid (StoreAt D wr g S))
      case atStart =>
        exact ⟨_, [], HR1, Lib.hid (OwnAt.nil _), Lib.hid (.start fun k o hc => by
          cases hf : f k with
          | some v => rfl
          | none =>
            have h9 := HIn.out.no k hf
            have h8 : hits (S.log.take tt) k = [] := List.eq_nil_iff_forall_not_mem.2 fun e he => by
              unfold hits at he h9
              obtain ⟨h1, h2⟩ := List.mem_filter.1 he
              have := (List.mem_filter (p := fun e : GEvent => decide (e.object.okey = k))).2 ⟨List.mem_of_mem_take h1, h2⟩
              rw [h9] at this; cases this
            unfold cur at hc
            rw [h8] at hc; cases hc), HB4, HA4⟩
      case round =>
        obtain ⟨left, l1, HR2, HO, HG, HBr, HAr⟩ := hrel
        clear HR1 HB4 HA4
        go_wp2_with (at_next; refine wpList_next_rangeK _ (by rfl) _ (by rfl) mb r nn f left gk (by rfl) HR2.out ?_ ?_)
        · intro hl0
          have HGf : Hid (Gathered (S.log.take tt) kind space (fun _ => false) l1) := Lib.hid (by
            have : left = fun _ => false := funext hl0
            rw [← this]; exact HG.out)
          have hlen : l1.length ≤ 4194304 := by
            have h1 := live_keys (HS.out.good.fit tt (by rw [← Htt.out]; exact timeT_le S rev)) (l1.map (·.okey)) HGf.out.one fun k hk => by
              obtain ⟨o, ho, rfl⟩ := List.mem_map.1 hk
              rw [((HGf.out.mem o).1 ho).2.1]; rfl
            have h2 := live_le (S.log.take tt)
            rw [List.length_take] at h2
            rw [List.length_map] at h1
            have := HS.out.rev
            unfold St.rev at this
            omega
          have hrw : r + 1 ≤ wr.heap.size := by have := HR2.out.lt; omega
          have HSo := Lib.hid (objSort_any u12 l1 (r + 1) _ wr wr HO.out hrw (by omega))
          have hrow := HO.out.row.len
          have HBs := HBr
          clear hl0 HG HO HR2 hlen hrw HAr
          obtain ⟨a3, c3, e3, -, -⟩ := hrow
          obtain ⟨n3, hn3⟩ : ∃ n, l1.length = n := ⟨_, rfl⟩
          rw [hn3] at e3
          subst e3
          clear hn3
          go_wp2_with fail
          refine HSo.out.mono ?_
          rintro E w6 ⟨rfl, L, hp, hri, ho, hb6, ho6⟩
          have HLs : Hid (ListTold S kind space rev L) := Lib.hid ⟨fun h9 => absurd (by rw [Hle.out, Hl.out]) h9, fun _ => by rw [Htt.out]; exact HGf.out.done hp hri⟩
          have hwB := HBs.out.size
          have HB6 : Hid (Below w.heap.size w w6) := Lib.hid (HBs.out.trans (hb6.mono (by omega)))
          have HX : Hid (OwnX ObjX 10 (fun b => w.heap.size ≤ b ∧ b < w6.heap.size) w6 30 (.slice a3 n3 c3) L) := Lib.hid ⟨(ho.imp' fun cs x _ hx => famObj.mono _ _ _ _ _ _ (fun b hb => ⟨by have := hb.1; omega, Nat.lt_of_lt_of_le hb.2.1 ho6.size⟩) (famObj.agree _ _ _ _ _ _ (ho6.agree fun b hb => ⟨hb.2.1, hb.2.2⟩) hx)).mono (Nat.zero_le _), fun b hb => ⟨by have := (ho.at hb).1; omega, (ho.at hb).2.1⟩⟩
          clear hp hri ho hb6 ho6 HSo
          go_wp2_with fail
          go_ret2
          exact ⟨HB6.out, _, _, L, by rw [Hl.out]; rfl, HLs.out, HX.out, fun b hb => hb⟩
        · intro s v w5 cnt2 hs5 hlk hv hrg2 hlt hgr2 hsz2 hen
          have hrl := HR2.out.lt
          have HR5 := Lib.hid hrg2
          have HB5 : Hid (Below w.heap.size w w5) := Lib.hid (HBr.out.grown hgr2 HBr.out.size (fun j hj => by cases hj; exact hwr))
          have hne : ∀ b, b < wr.heap.size → b ≠ r → w5.heap[b]? = wr.heap[b]? := fun b hb hn => hgr2.block b hb fun e => hn (by cases e; rfl)
          have HA5 : Hid (StoreAt D w5 g S) := Lib.hid (HAr.out.agree (fun b hb => hne b (HAr.out.low hb) (by have := hdr.out b hb; omega)) (by omega))
          have HO5 : Hid (OwnAt (ObjX (fun b => r < b ∧ b < w5.heap.size ∧ u12.ownBlock ≠ some b) w5) 10 w5 (r + 1) 30 u12 l1) := Lib.hid ((HO.out.stay (fun _ _ _ _ h => h) fun b hb => hne b (HO.out.at hb).2.1 (by have := (HO.out.at hb).1; omega)).imp' fun cs x _ hx => famObj.mono _ _ _ _ _ _ (fun b hb => ⟨hb.1, by rw [hsz2]; exact hb.2.1, hb.2.2⟩) (famObj.agree _ _ _ _ _ _ (fun b hb => hne b hb.2.1 (by have := hb.1; omega)) hx))
          have Hlk := Lib.hid hlk
          have Hs := Lib.hid hs5
          have hs5' := hsz2
          rw [show keyC.val s = .agg #[.string s.kind, .string s.space, .string s.name] from rfl] at hen ⊢
          clear hrg2 hgr2 hsz2 hne hlk hs5 HR2 HO HBr HAr
          go_upto_region 13 with fail
          obtain ⟨w6, hw6⟩ : ∃ w6, w6 = w5.alloc (.cells #[.string s.kind, .string s.space, .string s.name] 24) := ⟨_, rfl⟩
          obtain ⟨gk', hgk⟩ : ∃ x, x = w5.heap.size := ⟨_, rfl⟩
          have KB : Hid (w6.heap[gk']? = some (.cells #[.string s.kind, .string s.space, .string s.name] 24 (0, 0))) := Lib.hid (by rw [hw6, hgk]; exact heap_alloc_new w5 _)
          have hb56 : Below w5.heap.size w5 w6 := by rw [hw6]; exact (Below.refl _ w5).alloc (Nat.le_refl _) _
          have hs6 : w6.heap.size = w5.heap.size + 1 := by rw [hw6, World.size_alloc]
          rw [hs5'] at hgk
          rw [← hw6]
          rw [← hgk]
          have hs6' := hs6
          have hgw' : w.heap.size ≤ gk' := by omega
          have Hb56 := Lib.hid hb56
          clear hw6 hgk hb56 hen
          have ck := fun i => cell_block KB.out i
          have HB6 := Lib.hid (HB5.out.trans (Hb56.out.mono HB5.out.size))
          have HA6 := Lib.hid (HA5.out.belowW Hb56.out)
          have HR6 := Lib.hid (HR5.out.belowW Hb56.out)
          have HO6 : Hid (OwnAt (ObjX (fun b => r < b ∧ b < w6.heap.size ∧ u12.ownBlock ≠ some b) w6) 10 w6 (r + 1) 30 u12 l1) := Lib.hid ((HO5.out.stay (fun _ _ _ _ h => h) fun b hb => Hb56.out.block b (HO5.out.at hb).2.1).imp' fun cs x _ hx => famObj.mono _ _ _ _ _ _ (fun b hb => ⟨hb.1, by rw [hs6]; have := hb.2.1; omega, hb.2.2⟩) (famObj.agree _ _ _ _ _ _ (fun b hb => Hb56.out.block b hb.2.1) hx))
          clear HB5 HA5 HR5 HO5 Hb56
          cases kb : (s.kind.toList == kind.toList) with
          | false =>
            have HNF : Hid (¬ fitsK kind space s) := Lib.hid fun h9 => by rw [h9.1, beq_self_eq_true] at kb; cases kb
            have HL6 := Lib.hid (HG.out.pass (k := s) (.inl HNF.out))
            clear HG HNF
            go_wp2_with fail
            go_roundg cnt2
            case measure => exact hlt
            case rel => exact ⟨_, l1, HR6, HO6, HL6, HB6, HA6⟩
          | true =>
            cases eb : space.toList.isEmpty with
            | true =>
              have HNF : Hid (fitsK kind space s) := Lib.hid ⟨toList_inj (eq_of_beq kb), .inl (by have h9 : space.toList = [] := List.isEmpty_iff.1 eb; exact toList_inj (h9.trans (by rw [Lib.toList_data]; rfl)))⟩
              have HAt := Lib.hid (at_any HA6.out HS.out s Hs.out tt)
              have HOL : Hid (∀ b, u12.ownBlock = some b → b < w6.heap.size) := Lib.hid fun b hb => (HO6.out.at hb).2.1
              have Hlen : Hid (l1.length ≤ 4194304) := Lib.hid (by
                have h1 := live_keys (HS.out.good.fit tt (by rw [← Htt.out]; exact timeT_le S rev)) (l1.map (·.okey)) HG.out.one fun k hk => by
                  obtain ⟨o, ho, rfl⟩ := List.mem_map.1 hk
                  rw [((HG.out.mem o).1 ho).2.1]; rfl
                have h2 := live_le (S.log.take tt)
                rw [List.length_take] at h2
                rw [List.length_map] at h1
                have := HS.out.rev
                unfold St.rev at this
                omega)
              go_wp2_with fail
              refine HAt.out.mono ?_
              rintro E w7 ⟨hb7, hat⟩
              clear HAt ck
              have hz7 := (hb7).size
              have HB7 := Lib.hid (HB6.out.trans ((hb7).mono HB6.out.size))
              have HA7 := Lib.hid (HA6.out.belowW (hb7))
              have HR7 := Lib.hid (HR6.out.belowW (hb7))
              have HO7 : Hid (OwnAt (ObjX (fun b => r < b ∧ b < w7.heap.size ∧ u12.ownBlock ≠ some b) w7) 10 w7 (r + 1) 30 u12 l1) := Lib.hid ((HO6.out.stay (fun _ _ _ _ h => h) fun b hb => (hb7).block b (HO6.out.at hb).2.1).imp' fun cs x _ hx => famObj.mono _ _ _ _ _ _ (fun b hb => ⟨hb.1, Nat.lt_of_lt_of_le hb.2.1 hz7, hb.2.2⟩) (famObj.agree _ _ _ _ _ _ (fun b hb => (hb7).block b hb.2.1) hx))
              clear HB6 HA6 HR6 HO6
              rcases hat with ⟨hc, rfl⟩ | ⟨o, D3, u1, u2, u3, hc, rfl, ho, hD⟩
              · have HL8 := Lib.hid (HG.out.pass (k := s) (.inr hc))
                rw [show noW = .agg noA from rfl]
                clear HG HNF hc hb7
                have H7 := Lib.hid (heap_alloc_new w7 (.cells noA 30))
                have hb8 := Lib.hid ((Below.refl w7.heap.size w7).alloc (Nat.le_refl _) (.cells noA 30))
                go_wp2_with (refine wpList_store_box (by rfl) _ _ _ (by rfl) w7.heap.size noA (by rfl) (by rfl) _ _ (by exact H7.out) (by exact Tryz.sizeObj) (by rfl) (by simp [Value.oneCell', noA]) ?_)
                intro w8 b8 t8
                have hbb : Below w7.heap.size w7 w8 := t8.below hb8.out (Nat.le_refl _)
                have hs8 : w8.heap.size = w7.heap.size + 1 := t8.size.trans (World.size_alloc _ _)
                have hz8 := (hbb).size
                have HB8 := Lib.hid (HB7.out.trans ((hbb).mono HB7.out.size))
                have HA8 := Lib.hid (HA7.out.belowW (hbb))
                have HR8 := Lib.hid (HR7.out.belowW (hbb))
                have HO8 : Hid (OwnAt (ObjX (fun b => r < b ∧ b < w8.heap.size ∧ u12.ownBlock ≠ some b) w8) 10 w8 (r + 1) 30 u12 l1) := Lib.hid ((HO7.out.stay (fun _ _ _ _ h => h) fun b hb => (hbb).block b (HO7.out.at hb).2.1).imp' fun cs x _ hx => famObj.mono _ _ _ _ _ _ (fun b hb => ⟨hb.1, Nat.lt_of_lt_of_le hb.2.1 hz8, hb.2.2⟩) (famObj.agree _ _ _ _ _ _ (fun b hb => (hbb).block b hb.2.1) hx))
                clear HB7 HA7 HR7 HO7
                clear b8 t8 hbb H7 hb8
                go_wp2_with fail
                go_roundg cnt2
                case measure => exact hlt
                case rel => exact ⟨_, l1, HR8, HO8, HL8, HB8, HA8⟩
              · have HL8 := Lib.hid (HG.out.more HNF.out hc Hlk.out)
                have hD9 : Hid (∀ b, D3 b → w6.heap.size ≤ b ∧ b < w7.heap.size) := Lib.hid hD
                have HOo := Lib.hid ho
                clear HG HNF hc hb7 ho hD
                obtain ⟨a1, c1, rfl, -, -⟩ := HOo.out.rowL.len
                obtain ⟨a2, c2, rfl, -, -⟩ := HOo.out.rowO.row.len
                obtain ⟨a3, c3, rfl, -, -⟩ := HOo.out.rowH.row.len
                obtain ⟨n1, Hn1⟩ : ∃ n, Hid (o.labels.length = n) := ⟨_, Lib.hid rfl⟩
                obtain ⟨n2, Hn2⟩ : ∃ n, Hid (o.owners.length = n) := ⟨_, Lib.hid rfl⟩
                obtain ⟨n3, Hn3⟩ : ∃ n, Hid (o.holds.length = n) := ⟨_, Lib.hid rfl⟩
                rw [Hn1.out, Hn2.out, Hn3.out] at HOo ⊢
                have H7 := Lib.hid (heap_alloc_new w7 (.cells noA 30))
                have hb8 := Lib.hid ((Below.refl w7.heap.size w7).alloc (Nat.le_refl _) (.cells noA 30))
                go_wp2_with (refine wpList_store_box (by rfl) _ _ _ (by rfl) w7.heap.size #[.string o.okey.kind, .string o.okey.space, .string o.okey.name, .slice a1 n1 c1, .slice a2 n2 c2, .slice a3 n3 c3, .bool o.ending, .string o.uid, .int .i64 o.rev, .string o.doc] (by rfl) (by rfl) _ _ (by exact H7.out) (by exact Tryz.sizeObj) (by rfl) (by simp [Value.oneCell']) ?_)
                intro w8 b8 t8
                have hbb : Below w7.heap.size w7 w8 := t8.below hb8.out (Nat.le_refl _)
                have hs8 : w8.heap.size = w7.heap.size + 1 := t8.size.trans (World.size_alloc _ _)
                have hz8 := (hbb).size
                have HB8 := Lib.hid (HB7.out.trans ((hbb).mono HB7.out.size))
                have HA8 := Lib.hid (HA7.out.belowW (hbb))
                have HR8 := Lib.hid (HR7.out.belowW (hbb))
                have HO8 : Hid (OwnAt (ObjX (fun b => r < b ∧ b < w8.heap.size ∧ u12.ownBlock ≠ some b) w8) 10 w8 (r + 1) 30 u12 l1) := Lib.hid ((HO7.out.stay (fun _ _ _ _ h => h) fun b hb => (hbb).block b (HO7.out.at hb).2.1).imp' fun cs x _ hx => famObj.mono _ _ _ _ _ _ (fun b hb => ⟨hb.1, Nat.lt_of_lt_of_le hb.2.1 hz8, hb.2.2⟩) (famObj.agree _ _ _ _ _ _ (fun b hb => (hbb).block b hb.2.1) hx))
                clear HB7 HA7 HR7 HO7
                have HOo8 := Lib.hid (HOo.out.agree fun b hb => hbb.block b (hD9.out b hb).2)
                obtain ⟨go, hgo⟩ : ∃ go, w7.heap.size = go := ⟨_, rfl⟩
                rw [hgo] at b8 ⊢
                have BO := Lib.hid b8
                have hgl : go < w8.heap.size := by omega
                clear b8 t8 hbb H7 hb8 HOo hgo
                have co := fun i => cell_block BO.out i
                obtain ⟨gl, hgz⟩ : ∃ gl, w8.heap.size = gl := ⟨_, rfl⟩
                obtain ⟨w9, hw9⟩ : ∃ w9, w9 = w8.alloc (.cells #[.string o.okey.kind, .string o.okey.space, .string o.okey.name, .slice a1 n1 c1, .slice a2 n2 c2, .slice a3 n3 c3, .bool o.ending, .string o.uid, .int .i64 o.rev, .string o.doc] 30) := ⟨_, rfl⟩
                have hb9 : Below w8.heap.size w8 w9 := by rw [hw9]; exact (Below.refl _ w8).alloc (Nat.le_refl _) _
                have hs9 : w9.heap.size = w8.heap.size + 1 := by rw [hw9, World.size_alloc]
                have HOo9 : Hid (ObjIn (fun b => r < b ∧ b < w9.heap.size ∧ u12.ownBlock ≠ some b) w9 (.slice a1 n1 c1) (.slice a2 n2 c2) (.slice a3 n3 c3) o) := Lib.hid ((HOo8.out.agree fun b hb => hb9.block b (by have := (hD9.out b hb).2; omega)).mono fun b hb => ⟨by have := (hD9.out b hb).1; have := HR8.out.lt; omega, by have := (hD9.out b hb).2; omega, fun e => by have := (HOL.out b e); have := (hD9.out b hb).1; omega⟩)
                have hz9 := (hb9).size
                have HB9 := Lib.hid (HB8.out.trans ((hb9).mono HB8.out.size))
                have HA9 := Lib.hid (HA8.out.belowW (hb9))
                have HR9 := Lib.hid (HR8.out.belowW (hb9))
                have HO9 : Hid (OwnAt (ObjX (fun b => r < b ∧ b < w9.heap.size ∧ u12.ownBlock ≠ some b) w9) 10 w9 (r + 1) 30 u12 l1) := Lib.hid ((HO8.out.stay (fun _ _ _ _ h => h) fun b hb => (hb9).block b (HO8.out.at hb).2.1).imp' fun cs x _ hx => famObj.mono _ _ _ _ _ _ (fun b hb => ⟨hb.1, Nat.lt_of_lt_of_le hb.2.1 hz9, hb.2.2⟩) (famObj.agree _ _ _ _ _ _ (fun b hb => (hb9).block b hb.2.1) hx))
                clear HB8 HA8 HR8 HO8
                have HRow : Hid (RowAt (ObjX (fun b => r < b ∧ b < w9.heap.size ∧ u12.ownBlock ≠ some b) w9) 10 w9 (.slice (some ⟨gl, 0, none⟩) 1 1) [o]) := Lib.hid (RowAt.one (R := ObjX (fun b => r < b ∧ b < w9.heap.size ∧ u12.ownBlock ≠ some b) w9) (k := 10) (cs := #[.string o.okey.kind, .string o.okey.space, .string o.okey.name, .slice a1 n1 c1, .slice a2 n2 c2, .slice a3 n3 c3, .bool o.ending, .string o.uid, .int .i64 o.rev, .string o.doc]) (x := o) (by rw [hw9, ← hgz]; exact heap_alloc_new w8 _) rfl ⟨_, _, _, rfl, HOo9.out⟩)
                have hbase : r + 1 ≤ w9.heap.size := by omega
                obtain ⟨i0, hi0, hy0, hy1, hy2⟩ := info_parts Tryz.infoObjL
                have hl1 := Hlen.out
                have hsl : w9.heap.size = gl + 1 := by omega
                have hgl9 : go < gl := by omega
                clear hs8 hs9 hb9
                go_wp2_with (at_builtin; rw [← hw9]; refine wpList_append_ownAt (R := ObjX (fun b => r < b ∧ b < w9.heap.size ∧ u12.ownBlock ≠ some b) w9) (k := 10) (e := 30) (B := r + 1) (l := l1) (m := [o]) _ (by rfl) _ _ _ (by rfl) i0 _ 168 Tryz.underlying45 hi0 hy0 hy1 hy2 rfl (by omega) (famObj.flat _ _) (famObj.one _ _) _ (by rfl) HO9.out _ (by rfl) HRow.out (by rw [List.length_singleton]; unfold maxLen; omega) (by rw [List.length_singleton]; omega) hbase ?_)
                intro v' w10 q1 q2 q3 q4
                rw [← hw9] at q1 q2
                rw [show gl + 1 = w9.heap.size from hsl.symm] at q4
                have hwl : w.heap.size ≤ w9.heap.size := by have := HB9.out.size; omega
                have HB10 := Lib.hid (HB9.out.grown q2 hwl fun b hb => by have := q3 b hb; omega)
                have HA10 : Hid (StoreAt D w10 g S) := Lib.hid (HA9.out.agree (fun b hb => q2.block b (HA9.out.low hb) fun e9 => by have := q3 b e9.symm; have := hdr.out b hb; omega) q2.size)
                have HR10 := Lib.hid (HR9.out.kept q2 (fun e9 => by have := q3 mb e9.symm; omega) (fun e9 => by have := q3 r e9.symm; omega))
                have HO10 : Hid (OwnAt (ObjX (fun b => r < b ∧ b < w10.heap.size ∧ v'.ownBlock ≠ some b) w10) 10 w10 (r + 1) 30 v' (l1 ++ [o])) := Lib.hid (OutX.appended (X := ObjX) (B := r + 1) (w := w9) (v := u12) famObj (by rw [← hsl] at q1; exact q1) q2 q4)
                clear q1 q2 q3 q4 HO9 HRow HB9 HA9 HR9 hw9 hgz
                go_wp2_with fail
                go_roundg cnt2
                case measure => exact hlt
                case rel => exact ⟨_, l1 ++ [o], HR10, HO10, HL8, HB10, HA10⟩
            | false =>
              cases sb : (s.space.toList == space.toList) with
              | true =>
                have HNF : Hid (fitsK kind space s) := Lib.hid ⟨toList_inj (eq_of_beq kb), .inr (toList_inj (eq_of_beq sb))⟩
                have HAt := Lib.hid (at_any HA6.out HS.out s Hs.out tt)
                have HOL : Hid (∀ b, u12.ownBlock = some b → b < w6.heap.size) := Lib.hid fun b hb => (HO6.out.at hb).2.1
                have Hlen : Hid (l1.length ≤ 4194304) := Lib.hid (by
                  have h1 := live_keys (HS.out.good.fit tt (by rw [← Htt.out]; exact timeT_le S rev)) (l1.map (·.okey)) HG.out.one fun k hk => by
                    obtain ⟨o, ho, rfl⟩ := List.mem_map.1 hk
                    rw [((HG.out.mem o).1 ho).2.1]; rfl
                  have h2 := live_le (S.log.take tt)
                  rw [List.length_take] at h2
                  rw [List.length_map] at h1
                  have := HS.out.rev
                  unfold St.rev at this
                  omega)
                go_wp2_with fail
                refine HAt.out.mono ?_
                rintro E w7 ⟨hb7, hat⟩
                clear HAt ck
                have hz7 := (hb7).size
                have HB7 := Lib.hid (HB6.out.trans ((hb7).mono HB6.out.size))
                have HA7 := Lib.hid (HA6.out.belowW (hb7))
                have HR7 := Lib.hid (HR6.out.belowW (hb7))
                have HO7 : Hid (OwnAt (ObjX (fun b => r < b ∧ b < w7.heap.size ∧ u12.ownBlock ≠ some b) w7) 10 w7 (r + 1) 30 u12 l1) := Lib.hid ((HO6.out.stay (fun _ _ _ _ h => h) fun b hb => (hb7).block b (HO6.out.at hb).2.1).imp' fun cs x _ hx => famObj.mono _ _ _ _ _ _ (fun b hb => ⟨hb.1, Nat.lt_of_lt_of_le hb.2.1 hz7, hb.2.2⟩) (famObj.agree _ _ _ _ _ _ (fun b hb => (hb7).block b hb.2.1) hx))
                clear HB6 HA6 HR6 HO6
                rcases hat with ⟨hc, rfl⟩ | ⟨o, D3, u1, u2, u3, hc, rfl, ho, hD⟩
                · have HL8 := Lib.hid (HG.out.pass (k := s) (.inr hc))
                  rw [show noW = .agg noA from rfl]
                  clear HG HNF hc hb7
                  have H7 := Lib.hid (heap_alloc_new w7 (.cells noA 30))
                  have hb8 := Lib.hid ((Below.refl w7.heap.size w7).alloc (Nat.le_refl _) (.cells noA 30))
                  go_wp2_with (refine wpList_store_box (by rfl) _ _ _ (by rfl) w7.heap.size noA (by rfl) (by rfl) _ _ (by exact H7.out) (by exact Tryz.sizeObj) (by rfl) (by simp [Value.oneCell', noA]) ?_)
                  intro w8 b8 t8
                  have hbb : Below w7.heap.size w7 w8 := t8.below hb8.out (Nat.le_refl _)
                  have hs8 : w8.heap.size = w7.heap.size + 1 := t8.size.trans (World.size_alloc _ _)
                  have hz8 := (hbb).size
                  have HB8 := Lib.hid (HB7.out.trans ((hbb).mono HB7.out.size))
                  have HA8 := Lib.hid (HA7.out.belowW (hbb))
                  have HR8 := Lib.hid (HR7.out.belowW (hbb))
                  have HO8 : Hid (OwnAt (ObjX (fun b => r < b ∧ b < w8.heap.size ∧ u12.ownBlock ≠ some b) w8) 10 w8 (r + 1) 30 u12 l1) := Lib.hid ((HO7.out.stay (fun _ _ _ _ h => h) fun b hb => (hbb).block b (HO7.out.at hb).2.1).imp' fun cs x _ hx => famObj.mono _ _ _ _ _ _ (fun b hb => ⟨hb.1, Nat.lt_of_lt_of_le hb.2.1 hz8, hb.2.2⟩) (famObj.agree _ _ _ _ _ _ (fun b hb => (hbb).block b hb.2.1) hx))
                  clear HB7 HA7 HR7 HO7
                  clear b8 t8 hbb H7 hb8
                  go_wp2_with fail
                  go_roundg cnt2
                  case measure => exact hlt
                  case rel => exact ⟨_, l1, HR8, HO8, HL8, HB8, HA8⟩
                · have HL8 := Lib.hid (HG.out.more HNF.out hc Hlk.out)
                  have hD9 : Hid (∀ b, D3 b → w6.heap.size ≤ b ∧ b < w7.heap.size) := Lib.hid hD
                  have HOo := Lib.hid ho
                  clear HG HNF hc hb7 ho hD
                  obtain ⟨a1, c1, rfl, -, -⟩ := HOo.out.rowL.len
                  obtain ⟨a2, c2, rfl, -, -⟩ := HOo.out.rowO.row.len
                  obtain ⟨a3, c3, rfl, -, -⟩ := HOo.out.rowH.row.len
                  obtain ⟨n1, Hn1⟩ : ∃ n, Hid (o.labels.length = n) := ⟨_, Lib.hid rfl⟩
                  obtain ⟨n2, Hn2⟩ : ∃ n, Hid (o.owners.length = n) := ⟨_, Lib.hid rfl⟩
                  obtain ⟨n3, Hn3⟩ : ∃ n, Hid (o.holds.length = n) := ⟨_, Lib.hid rfl⟩
                  rw [Hn1.out, Hn2.out, Hn3.out] at HOo ⊢
                  have H7 := Lib.hid (heap_alloc_new w7 (.cells noA 30))
                  have hb8 := Lib.hid ((Below.refl w7.heap.size w7).alloc (Nat.le_refl _) (.cells noA 30))
                  go_wp2_with (refine wpList_store_box (by rfl) _ _ _ (by rfl) w7.heap.size #[.string o.okey.kind, .string o.okey.space, .string o.okey.name, .slice a1 n1 c1, .slice a2 n2 c2, .slice a3 n3 c3, .bool o.ending, .string o.uid, .int .i64 o.rev, .string o.doc] (by rfl) (by rfl) _ _ (by exact H7.out) (by exact Tryz.sizeObj) (by rfl) (by simp [Value.oneCell']) ?_)
                  intro w8 b8 t8
                  have hbb : Below w7.heap.size w7 w8 := t8.below hb8.out (Nat.le_refl _)
                  have hs8 : w8.heap.size = w7.heap.size + 1 := t8.size.trans (World.size_alloc _ _)
                  have hz8 := (hbb).size
                  have HB8 := Lib.hid (HB7.out.trans ((hbb).mono HB7.out.size))
                  have HA8 := Lib.hid (HA7.out.belowW (hbb))
                  have HR8 := Lib.hid (HR7.out.belowW (hbb))
                  have HO8 : Hid (OwnAt (ObjX (fun b => r < b ∧ b < w8.heap.size ∧ u12.ownBlock ≠ some b) w8) 10 w8 (r + 1) 30 u12 l1) := Lib.hid ((HO7.out.stay (fun _ _ _ _ h => h) fun b hb => (hbb).block b (HO7.out.at hb).2.1).imp' fun cs x _ hx => famObj.mono _ _ _ _ _ _ (fun b hb => ⟨hb.1, Nat.lt_of_lt_of_le hb.2.1 hz8, hb.2.2⟩) (famObj.agree _ _ _ _ _ _ (fun b hb => (hbb).block b hb.2.1) hx))
                  clear HB7 HA7 HR7 HO7
                  have HOo8 := Lib.hid (HOo.out.agree fun b hb => hbb.block b (hD9.out b hb).2)
                  obtain ⟨go, hgo⟩ : ∃ go, w7.heap.size = go := ⟨_, rfl⟩
                  rw [hgo] at b8 ⊢
                  have BO := Lib.hid b8
                  have hgl : go < w8.heap.size := by omega
                  clear b8 t8 hbb H7 hb8 HOo hgo
                  have co := fun i => cell_block BO.out i
                  obtain ⟨gl, hgz⟩ : ∃ gl, w8.heap.size = gl := ⟨_, rfl⟩
                  obtain ⟨w9, hw9⟩ : ∃ w9, w9 = w8.alloc (.cells #[.string o.okey.kind, .string o.okey.space, .string o.okey.name, .slice a1 n1 c1, .slice a2 n2 c2, .slice a3 n3 c3, .bool o.ending, .string o.uid, .int .i64 o.rev, .string o.doc] 30) := ⟨_, rfl⟩
                  have hb9 : Below w8.heap.size w8 w9 := by rw [hw9]; exact (Below.refl _ w8).alloc (Nat.le_refl _) _
                  have hs9 : w9.heap.size = w8.heap.size + 1 := by rw [hw9, World.size_alloc]
                  have HOo9 : Hid (ObjIn (fun b => r < b ∧ b < w9.heap.size ∧ u12.ownBlock ≠ some b) w9 (.slice a1 n1 c1) (.slice a2 n2 c2) (.slice a3 n3 c3) o) := Lib.hid ((HOo8.out.agree fun b hb => hb9.block b (by have := (hD9.out b hb).2; omega)).mono fun b hb => ⟨by have := (hD9.out b hb).1; have := HR8.out.lt; omega, by have := (hD9.out b hb).2; omega, fun e => by have := (HOL.out b e); have := (hD9.out b hb).1; omega⟩)
                  have hz9 := (hb9).size
                  have HB9 := Lib.hid (HB8.out.trans ((hb9).mono HB8.out.size))
                  have HA9 := Lib.hid (HA8.out.belowW (hb9))
                  have HR9 := Lib.hid (HR8.out.belowW (hb9))
                  have HO9 : Hid (OwnAt (ObjX (fun b => r < b ∧ b < w9.heap.size ∧ u12.ownBlock ≠ some b) w9) 10 w9 (r + 1) 30 u12 l1) := Lib.hid ((HO8.out.stay (fun _ _ _ _ h => h) fun b hb => (hb9).block b (HO8.out.at hb).2.1).imp' fun cs x _ hx => famObj.mono _ _ _ _ _ _ (fun b hb => ⟨hb.1, Nat.lt_of_lt_of_le hb.2.1 hz9, hb.2.2⟩) (famObj.agree _ _ _ _ _ _ (fun b hb => (hb9).block b hb.2.1) hx))
                  clear HB8 HA8 HR8 HO8
                  have HRow : Hid (RowAt (ObjX (fun b => r < b ∧ b < w9.heap.size ∧ u12.ownBlock ≠ some b) w9) 10 w9 (.slice (some ⟨gl, 0, none⟩) 1 1) [o]) := Lib.hid (RowAt.one (R := ObjX (fun b => r < b ∧ b < w9.heap.size ∧ u12.ownBlock ≠ some b) w9) (k := 10) (cs := #[.string o.okey.kind, .string o.okey.space, .string o.okey.name, .slice a1 n1 c1, .slice a2 n2 c2, .slice a3 n3 c3, .bool o.ending, .string o.uid, .int .i64 o.rev, .string o.doc]) (x := o) (by rw [hw9, ← hgz]; exact heap_alloc_new w8 _) rfl ⟨_, _, _, rfl, HOo9.out⟩)
                  have hbase : r + 1 ≤ w9.heap.size := by omega
                  obtain ⟨i0, hi0, hy0, hy1, hy2⟩ := info_parts Tryz.infoObjL
                  have hl1 := Hlen.out
                  have hsl : w9.heap.size = gl + 1 := by omega
                  have hgl9 : go < gl := by omega
                  clear hs8 hs9 hb9
                  go_wp2_with (at_builtin; rw [← hw9]; refine wpList_append_ownAt (R := ObjX (fun b => r < b ∧ b < w9.heap.size ∧ u12.ownBlock ≠ some b) w9) (k := 10) (e := 30) (B := r + 1) (l := l1) (m := [o]) _ (by rfl) _ _ _ (by rfl) i0 _ 168 Tryz.underlying45 hi0 hy0 hy1 hy2 rfl (by omega) (famObj.flat _ _) (famObj.one _ _) _ (by rfl) HO9.out _ (by rfl) HRow.out (by rw [List.length_singleton]; unfold maxLen; omega) (by rw [List.length_singleton]; omega) hbase ?_)
                  intro v' w10 q1 q2 q3 q4
                  rw [← hw9] at q1 q2
                  rw [show gl + 1 = w9.heap.size from hsl.symm] at q4
                  have hwl : w.heap.size ≤ w9.heap.size := by have := HB9.out.size; omega
                  have HB10 := Lib.hid (HB9.out.grown q2 hwl fun b hb => by have := q3 b hb; omega)
                  have HA10 : Hid (StoreAt D w10 g S) := Lib.hid (HA9.out.agree (fun b hb => q2.block b (HA9.out.low hb) fun e9 => by have := q3 b e9.symm; have := hdr.out b hb; omega) q2.size)
                  have HR10 := Lib.hid (HR9.out.kept q2 (fun e9 => by have := q3 mb e9.symm; omega) (fun e9 => by have := q3 r e9.symm; omega))
                  have HO10 : Hid (OwnAt (ObjX (fun b => r < b ∧ b < w10.heap.size ∧ v'.ownBlock ≠ some b) w10) 10 w10 (r + 1) 30 v' (l1 ++ [o])) := Lib.hid (OutX.appended (X := ObjX) (B := r + 1) (w := w9) (v := u12) famObj (by rw [← hsl] at q1; exact q1) q2 q4)
                  clear q1 q2 q3 q4 HO9 HRow HB9 HA9 HR9 hw9 hgz
                  go_wp2_with fail
                  go_roundg cnt2
                  case measure => exact hlt
                  case rel => exact ⟨_, l1 ++ [o], HR10, HO10, HL8, HB10, HA10⟩
              | false =>
                have HNF : Hid (¬ fitsK kind space s) := Lib.hid fun h9 => by
                  rcases h9.2 with h8 | h8
                  · rw [h8, Lib.toList_data] at eb; cases eb
                  · rw [h8, beq_self_eq_true] at sb; cases sb
                have HL6 := Lib.hid (HG.out.pass (k := s) (.inl HNF.out))
                clear HG HNF
                go_wp2_with fail
                go_roundg cnt2
                case measure => exact hlt
                case rel => exact ⟨_, l1, HR6, HO6, HL6, HB6, HA6⟩
    · have q0 : (te != 0) = true := bne_iff_ne.2 hte
      have Hlt : Hid (ListTold S kind space rev []) := Lib.hid ⟨fun _ => rfl, fun h9 => absurd (by rw [← Hl.out, ← Hle.out]; exact h9) hte⟩
      clear hte
      go_wp2_with fail
      go_ret2
      exact ⟨HB.out, fun _ => False, nilS, [], by rw [Hl.out]; rfl, Hlt.out, OwnX.nil, fun b hb => hb.elim⟩
  · have q0 : (R == 0) = false := by rw [beq_eq_false_iff_ne]; exact hR
    have q1 : (R != 0) = true := bne_iff_ne.2 hR
    have Hl : Hid (le = R) := Lib.hid (by rw [← Hle.out]; unfold listE; rw [HR.out, if_pos hR])
    have Hlt : Hid (ListTold S kind space rev []) := Lib.hid ⟨fun _ => rfl, fun h9 => absurd (by rw [← Hl.out, ← Hle.out]; exact h9) hR⟩
    clear hR
    go_wp2_with fail
    go_ret2
    exact ⟨HB.out, fun _ => False, nilS, [], by rw [Hl.out]; rfl, Hlt.out, OwnX.nil, fun b hb => hb.elim⟩
end Sto
end Go.Proofs.YtnnceaapodgfbaaGreatDoor
namespace Go.Proofs.YtnnceaapodgfbaaGreatDoor
namespace Sto
open Go.RowKit
def FirstAt {α : Type} (l : List α) (p : α → Bool) (w : World) (e : Ending) (w' : World) : Prop :=
  ∃ n : Int, e = .returned (.int .i64 n) ∧ ((n = -1 ∧ l.find? p = none) ∨ ∃ (i : Nat) (x : α), n = (i : Int) ∧ l[i]? = some x ∧ l.find? p = some x ∧ ∀ y ∈ l.take i, p y = false) ∧ Below w.heap.size w w'
theorem find_at {α : Type} {l : List α} {p : α → Bool} {i : Nat} {x : α} (h : l[i]? = some x) (hp : p x = true) (hn : ∀ y ∈ l.take i, p y = false) : l.find? p = some x := by
  have hi := (List.getElem?_eq_some_iff.1 h).1
  have he := (List.getElem?_eq_some_iff.1 h).2
  have h1 : l = l.take i ++ x :: l.drop (i + 1) := by rw [← he, ← List.drop_eq_getElem_cons hi, List.take_append_drop]
  rw [h1, List.find?_append, List.find?_eq_none.2 (fun y hy => by rw [hn y hy]; simp)]
  simp [hp]
set_option maxRecDepth 100000 in
set_option maxHeartbeats 1600000 in
theorem idxObj_any {f : FuncId} {cap : Value} {Cap : World → Prop} {p : GObject → Bool} {E : Dom} (enter : ∀ (a : Array Value) (w : World), (callFunc f a).run Tryz.prog w = .ok (.enter f a) w)
    (keepC : ∀ w w' : World, Cap w → Below w.heap.size w w' → Cap w') (clo : (∀ (x : GObject) (a7 : Option Addr) (n7 c7 : Nat) (a8 : Option Addr) (n8 c8 : Nat) (a9 : Option Addr) (n9 c9 : Nat) (w : World), Cap w → Calls Tryz.prog f #[.agg #[.string x.okey.kind, .string x.okey.space, .string x.okey.name, .slice a7 n7 c7, .slice a8 n8 c8, .slice a9 n9 c9, .bool x.ending, .string x.uid, .int .i64 x.rev, .string x.doc], cap] w fun e w' => e = .returned (.bool (p x)) ∧ Below w.heap.size w w'))
    (v : Value) (l : List GObject) (w : World) (h : RowAt (ObjX E w) 10 w v l) (hl : l.length ≤ 1073741824) (hc : Cap w) : Calls Tryz.prog 107 #[v, .func (.func f) #[] #[cap]] w (FirstAt l p w) := by
  obtain ⟨a1, c1, rfl, _, _⟩ := h.len
  have H := Lib.hid h
  have Hc := Lib.hid hc
  have HC := Lib.hid clo
  have HK := Lib.hid keepC
  have ep := enter
  clear h hc clo keepC enter
  go_enter Tryz.func107, Tryz.ntmps107
  go_wp2_with fail
  go_loopg [8] l.length (fun g u8 wr => ∃ i : Nat, i + g = l.length ∧ u8 = .int .i64 (i : Int) ∧ Hid (∀ x ∈ l.take i, p x = false) ∧ Hid (Cap wr) ∧ Below w.heap.size w wr)
  case atStart => exact ⟨0, by omega, rfl, Lib.hid (fun x hx => by simp at hx), Hc, Below.refl _ _⟩
  case round =>
    obtain ⟨i, hig, rfl, Hall, Hcr, hbel⟩ := hrel
    cases gk with
    | zero =>
      obtain rfl : i = l.length := by omega
      have Hany : Hid (l.find? p = none) := Lib.hid (List.find?_eq_none.2 fun x hx => by rw [Hall.out x (by rw [List.take_length]; exact hx)]; simp)
      have Hbel := Lib.hid hbel
      clear hbel
      go_wp2_with fail
      go_ret
      exact ⟨-1, rfl, .inl ⟨rfl, Hany.out⟩, Hbel.out⟩
    | succ g =>
      have hil : i < l.length := by omega
      obtain ⟨x, hxi⟩ : ∃ x, l[i]? = some x := ⟨l[i]'(by omega), List.getElem?_eq_getElem _⟩
      obtain ⟨b, o, c', hv, _, _, hbs, hcell⟩ := H.out.form (by omega) (by omega)
      injection hv with u1 u2 u3
      subst u1
      clear u2 u3
      obtain ⟨ds, _, hcc, v1, v2, v3, rfl, hobj⟩ := hcell i x hxi
      obtain ⟨a7, c7, rfl, -, -⟩ := hobj.rowL.len
      obtain ⟨a8, c8, rfl, -, -⟩ := hobj.rowO.row.len
      obtain ⟨a9, c9, rfl, -, -⟩ := hobj.rowH.row.len
      obtain ⟨n7, Hn7⟩ : ∃ n, Hid (x.labels.length = n) := ⟨_, Lib.hid rfl⟩
      obtain ⟨n8, Hn8⟩ : ∃ n, Hid (x.owners.length = n) := ⟨_, Lib.hid rfl⟩
      obtain ⟨n9, Hn9⟩ : ∃ n, Hid (x.holds.length = n) := ⟨_, Lib.hid rfl⟩
      unfold objCs at hcc
      rw [Hn7.out, Hn8.out, Hn9.out] at hcc hobj
      have e0 := (hbel.cell (p := ⟨b, _, none⟩) hbs).trans (hcc 0 _ rfl)
      have e1 := (hbel.cell (p := ⟨b, _, none⟩) hbs).trans (hcc 1 _ rfl)
      have e2 := (hbel.cell (p := ⟨b, _, none⟩) hbs).trans (hcc 2 _ rfl)
      have e3 := (hbel.cell (p := ⟨b, _, none⟩) hbs).trans (hcc 3 _ rfl)
      have e4 := (hbel.cell (p := ⟨b, _, none⟩) hbs).trans (hcc 4 _ rfl)
      have e5 := (hbel.cell (p := ⟨b, _, none⟩) hbs).trans (hcc 5 _ rfl)
      have e6 := (hbel.cell (p := ⟨b, _, none⟩) hbs).trans (hcc 6 _ rfl)
      have e7 := (hbel.cell (p := ⟨b, _, none⟩) hbs).trans (hcc 7 _ rfl)
      have e8 := (hbel.cell (p := ⟨b, _, none⟩) hbs).trans (hcc 8 _ rfl)
      have e9 := (hbel.cell (p := ⟨b, _, none⟩) hbs).trans (hcc 9 _ rfl)
      rw [Nat.add_zero] at e0
      have q1 : (0 : Int) ≤ (i : Int) := by omega
      have q2 : (i : Int) < (l.length : Int) := by omega
      have Hbel := Lib.hid hbel
      have hs0 := hbel.size
      have Hxi := Lib.hid hxi
      clear hcc hcell hbel hxi hobj hbs
      obtain ⟨pb, Hpb⟩ : ∃ pb, Hid (p x = pb) := ⟨_, Lib.hid rfl⟩
      go_wp2_with fail
      refine (HC.out x a7 n7 c7 a8 n8 c8 a9 n9 c9 wr Hcr.out).mono ?_
      rintro E1 w1 ⟨rfl, hb1⟩
      rw [Hpb.out]
      have Hb1 := Lib.hid (Hbel.out.trans (hb1.mono hs0))
      have Hc1 := Lib.hid (HK.out _ _ Hcr.out hb1)
      clear hb1 e0 e1 e2 e3 e4 e5 e6 e7 e8 e9
      cases pb with
      | true =>
        have Hany : Hid (l.find? p = some x) := Lib.hid (find_at Hxi.out Hpb.out Hall.out)
        go_wp2_with fail
        go_ret
        exact ⟨_, rfl, .inr ⟨i, x, rfl, Hxi.out, Hany.out, Hall.out⟩, Hb1.out⟩
      | false =>
        have Hall2 : Hid (∀ x ∈ l.take (i + 1), p x = false) := Lib.hid fun y hy => by
          rw [List.take_add_one, Hxi.out] at hy
          rcases List.mem_append.1 hy with h | h
          · exact Hall.out y h
          · have h9 : y = x := by simpa using h
            rw [h9]; exact Hpb.out
        go_wp2_with fail
        go_roundg g
        case measure => omega
        case rel => exact ⟨i + 1, by omega, by go_num, Hall2, Hc1, Hb1.out⟩
theorem row_here {E : Dom} {w0 w : World} {v : Value} {l : List GObject} {B : Nat} (h : OwnAt (ObjX E w0) 10 w B 30 v l) (ha : Agree E w0 w) : RowAt (ObjX E w) 10 w v l := (h.imp' fun _ _ _ hx => famObj.agree _ _ _ _ _ _ ha hx).row
set_option maxRecDepth 100000 in
set_option maxHeartbeats 3200000 in
theorem deleteObj_any {f : FuncId} {cap : Value} {Cap : World → Prop} {p : GObject → Bool} {E : Dom} (w0 : World) (B : Nat) (enter : ∀ (a : Array Value) (w : World), (callFunc f a).run Tryz.prog w = .ok (.enter f a) w)
    (keepC : ∀ w w' : World, Cap w → Below B w w' → Cap w') (clo : (∀ (x : GObject) (a7 : Option Addr) (n7 c7 : Nat) (a8 : Option Addr) (n8 c8 : Nat) (a9 : Option Addr) (n9 c9 : Nat) (w : World), Cap w → Calls Tryz.prog f #[.agg #[.string x.okey.kind, .string x.okey.space, .string x.okey.name, .slice a7 n7 c7, .slice a8 n8 c8, .slice a9 n9 c9, .bool x.ending, .string x.uid, .int .i64 x.rev, .string x.doc], cap] w fun e w' => e = .returned (.bool (p x)) ∧ Below w.heap.size w w'))
    (v : Value) (l : List GObject) (w : World) (h : OwnAt (ObjX E w0) 10 w B 30 v l) (hag : Agree E w0 w) (hB : B ≤ w.heap.size) (hl : l.length ≤ 4194304) (hc : Cap w) :
    Calls Tryz.prog 72 #[v, .func (.func f) #[] #[cap]] w fun e w' => ∃ v', e = .returned v' ∧ OwnAt (ObjX E w0) 10 w' B 30 v' (l.filter fun r => !p r) ∧ (v'.ownBlock = v.ownBlock ∨ v'.ownBlock = none) ∧ Only (fun b => v.ownBlock = some b) w w' := by
  have hidx := idxObj_any (p := p) (Cap := fun w => Cap w ∧ B ≤ w.heap.size) enter (fun w w' hc hb => ⟨keepC w w' hc.1 (hb.mono hc.2), by have := hb.size; have := hc.2; omega⟩) (fun x a7 n7 c7 a8 n8 c8 a9 n9 c9 w hc => clo x a7 n7 c7 a8 n8 c8 a9 n9 c9 w hc.1) v l w (row_here h hag) (by omega) ⟨hc, hB⟩
  have Hidx := Lib.hid hidx
  have H := Lib.hid h
  have HC := Lib.hid clo
  have HK := Lib.hid keepC
  have Hc := Lib.hid hc
  have ep := enter
  have hfl : Flat (ObjX E w0) := famObj.flat _ _
  have HF := Lib.hid hfl
  rcases h.form with ⟨rfl, rfl⟩ | ⟨g, c, rfl, hgB, hgw, hlc, hcm⟩
  · clear h clo keepC hc enter hidx hag hfl
    go_enter Tryz.func72, Tryz.ntmps72
    go_wp2_with fail
    refine Hidx.out.mono ?_
    rintro E1 w1 ⟨n, rfl, hn, hb1⟩
    rcases hn with ⟨rfl, _⟩ | ⟨i, x, rfl, hx, _⟩
    · have Hb1 := Lib.hid hb1
      clear hb1
      go_wp2_with fail
      go_ret
      exact ⟨_, rfl, OwnAt.nil _, .inr rfl, Only.of Hb1.out⟩
    · simp at hx
  · clear h clo keepC hc enter hidx hag hfl
    go_enter Tryz.func72, Tryz.ntmps72
    go_wp2_with fail
    refine Hidx.out.mono ?_
    rintro E1 w1 ⟨n, rfl, hn, hb1⟩
    have Hown := Lib.hid (H.out.below HF.out.stays hb1)
    have Hb1 : Hid (Only (fun b => (Value.slice (some ⟨g, 0, none⟩) l.length c).ownBlock = some b) w w1) := Lib.hid (Only.of hb1)
    have Hc1 := Lib.hid (HK.out w w1 Hc.out (hb1.mono hB))
    have hs1 := hb1.size
    clear hb1
    rcases hn with ⟨rfl, hnone⟩ | ⟨i0, x0, rfl, hx0, hf0, hpre⟩
    · have hfil : l.filter (fun r => !p r) = l := List.filter_eq_self.2 fun r hr => by
        have := List.find?_eq_none.1 hnone r hr
        simpa using this
      go_wp2_with fail
      go_ret
      exact ⟨_, rfl, by rw [hfil]; exact Hown.out, .inl rfl, Hb1.out⟩
    · have hi0 : i0 < l.length := (List.getElem?_eq_some_iff.1 hx0).1
      have hpx0 : p x0 = true := by have := List.find?_some hf0; exact this
      have hfil0 : (l.take (i0 + 1)).filter (fun r => !p r) = l.take i0 := by
        rw [List.take_add_one, hx0, List.filter_append, List.filter_eq_self.2 fun r hr => by rw [hpre r hr]; rfl]
        simp [hpx0]
      have q0 : ((i0 : Int) == -1) = false := by rw [beq_eq_false_iff_ne]; omega
      have Hfil0 := Lib.hid hfil0
      clear hx0 hf0 hpre hpx0 hfil0
      go_wp2_with fail
      go_loopg [5, 6] l.length (fun gq u5 u6 wr => ∃ (i j : Nat) (S : List GObject), j + gq = l.length + (i0 + 1) ∧ j ≤ l.length ∧ i < j ∧ u5 = .int .i64 (i : Int) ∧ u6 = .int .i64 (j : Int) ∧ Hid (OwnAt (ObjX E w0) 10 wr B 30 (.slice (some ⟨g, 0, none⟩) l.length c) S) ∧ S.length = l.length ∧ Hid (S.take i = (l.take j).filter fun r => !p r) ∧ Hid (S.drop j = l.drop j) ∧ Hid (Only (fun b => (Value.slice (some ⟨g, 0, none⟩) l.length c).ownBlock = some b) w wr) ∧ Hid (Cap wr))
      case atStart => exact ⟨i0, i0 + 1, l, by omega, by omega, by omega, rfl, by go_num, Hown, rfl, Lib.hid Hfil0.out.symm, Lib.hid rfl, Hb1, Hc1⟩
      case round =>
        obtain ⟨i, j, S, hjg, hjl, hij, rfl, rfl, HS, hSl, Hf, Hd, Hbel, Hcr⟩ := hrel
        have hsr := Hbel.out.size
        by_cases hend : j < l.length
        · have hSj : j < S.length := by omega
          obtain ⟨x, hxi⟩ : ∃ x, l[j]? = some x := ⟨l[j], List.getElem?_eq_getElem hend⟩
          have hxS : S[j]? = some x := by
            have h1 := congrArg (fun m => m[0]?) Hd.out
            simp only [List.getElem?_drop, Nat.add_zero] at h1
            rw [h1, hxi]
          obtain ⟨b, o, c', hv, _, _, hbs, hcell⟩ := HS.out.row.form (by omega) (by omega)
          injection hv with u1 u2 u3
          injection u1 with u1
          injection u1 with u1 u4
          subst u1; subst u4
          clear u2 u3
          obtain ⟨ds, _, hcc, v1, v2, v3, rfl, hobj⟩ := hcell j x hxS
          obtain ⟨a7, c7, rfl, -, -⟩ := hobj.rowL.len
          obtain ⟨a8, c8, rfl, -, -⟩ := hobj.rowO.row.len
          obtain ⟨a9, c9, rfl, -, -⟩ := hobj.rowH.row.len
          obtain ⟨n7, Hn7⟩ : ∃ n, Hid (x.labels.length = n) := ⟨_, Lib.hid rfl⟩
          obtain ⟨n8, Hn8⟩ : ∃ n, Hid (x.owners.length = n) := ⟨_, Lib.hid rfl⟩
          obtain ⟨n9, Hn9⟩ : ∃ n, Hid (x.holds.length = n) := ⟨_, Lib.hid rfl⟩
          unfold objCs at hcc
          rw [Hn7.out, Hn8.out, Hn9.out] at hcc hobj
          have e0 := hcc 0 _ rfl
          have e1 := hcc 1 _ rfl
          have e2 := hcc 2 _ rfl
          have e3 := hcc 3 _ rfl
          have e4 := hcc 4 _ rfl
          have e5 := hcc 5 _ rfl
          have e6 := hcc 6 _ rfl
          have e7 := hcc 7 _ rfl
          have e8 := hcc 8 _ rfl
          have e9 := hcc 9 _ rfl
          simp only [Nat.zero_add, Nat.add_zero] at e0 e1 e2 e3 e4 e5 e6 e7 e8 e9
          have q1 : (0 : Int) ≤ (j : Int) := by omega
          have q2 : (j : Int) < (l.length : Int) := by omega
          have q3 : (0 : Int) ≤ (i : Int) := by omega
          have q4 : (i : Int) < (l.length : Int) := by omega
          have HRw : Hid (ObjX E w0 w0 [.string x.okey.kind, .string x.okey.space, .string x.okey.name, .slice a7 n7 c7, .slice a8 n8 c8, .slice a9 n9 c9, .bool x.ending, .string x.uid, .int .i64 x.rev, .string x.doc] x) := Lib.hid ⟨_, _, _, by rw [← Hn7.out, ← Hn8.out, ← Hn9.out]; rfl, by rw [Hn7.out, Hn8.out, Hn9.out]; exact hobj⟩
          have Hxi := Lib.hid hxi
          clear hcc hcell hxi hxS hobj
          go_upto_region 8 with fail
          obtain ⟨W, hW⟩ : ∃ W, W = wr.alloc (.cells #[.string x.okey.kind, .string x.okey.space, .string x.okey.name, .slice a7 n7 c7, .slice a8 n8 c8, .slice a9 n9 c9, .bool x.ending, .string x.uid, .int .i64 x.rev, .string x.doc] 30) := ⟨_, rfl⟩
          obtain ⟨gb, hgb⟩ : ∃ gb, gb = wr.heap.size := ⟨_, rfl⟩
          rw [← hW, ← hgb]
          have c0 : W.heap[gb]? = some (.cells #[.string x.okey.kind, .string x.okey.space, .string x.okey.name, .slice a7 n7 c7, .slice a8 n8 c8, .slice a9 n9 c9, .bool x.ending, .string x.uid, .int .i64 x.rev, .string x.doc] 30 (0, 0)) := by rw [hW, hgb]; exact heap_alloc_new wr _
          have hb5 : Below wr.heap.size wr W := by rw [hW]; exact (Below.refl _ _).alloc (Nat.le_refl _) _
          have hBr : B ≤ wr.heap.size := by omega
          have HW := Lib.hid (Hbel.out.then hb5)
          have HSW := Lib.hid (HS.out.below HF.out.stays hb5)
          have HcW := Lib.hid (HK.out _ _ Hcr.out (hb5.mono hBr))
          have Hc0 := Lib.hid c0
          have cc := fun i => cell_block c0 i
          have hWs := hb5.size
          clear hW hgb hb5 c0 e0 e1 e2 e3 e4 e5 e6 e7 e8 e9
          go_wp2_with fail
          refine (HC.out x a7 n7 c7 a8 n8 c8 a9 n9 c9 W HcW.out).mono ?_
          rintro E1 w3 ⟨rfl, hb3⟩
          have HS3 := Lib.hid (HSW.out.below HF.out.stays hb3)
          have Hb3 := Lib.hid (HW.out.then hb3)
          have Hc3 := Lib.hid (HK.out _ _ HcW.out (hb3.mono (by omega)))
          have d3 := below_block hb3 Hc0.out
          have hs3 := hb3.size
          clear hb3 cc
          have cc := fun i => cell_block d3 i
          obtain ⟨pb, Hpb⟩ : ∃ pb, Hid (p x = pb) := ⟨_, Lib.hid rfl⟩
          rw [Hpb.out]
          cases pb with
          | true =>
            have Hf2 : Hid (S.take i = (l.take (j + 1)).filter fun r => !p r) := Lib.hid (by
              rw [List.take_add_one, Hxi.out, List.filter_append, ← Hf.out]
              simp [Hpb.out])
            have Hd2 : Hid (S.drop (j + 1) = l.drop (j + 1)) := Lib.hid (by rw [← List.drop_drop, ← List.drop_drop, Hd.out])
            go_wp2_with fail
            go_roundg (gk - 1)
            case measure => omega
            case rel => exact ⟨i, j + 1, S, by omega, by omega, by omega, rfl, by go_num, HS3, hSl, Hf2, Hd2, Hb3, Hc3⟩
          | false =>
            go_upto_region 9 with fail
            obtain ⟨hnew, htouch⟩ := HS3.out.storeElem HF.out (i := i) (by omega) (cs := ([.string x.okey.kind, .string x.okey.space, .string x.okey.name, .slice a7 n7 c7, .slice a8 n8 c8, .slice a9 n9 c9, .bool x.ending, .string x.uid, .int .i64 x.rev, .string x.doc] : List Value)) rfl (x := x) (HF.out _ _ _ _ HRw.out)
            have Hnew := Lib.hid hnew
            have Htouch := Lib.hid htouch
            have hthere := HS3.out.there (o := i * 10) (m := 10) (by omega)
            clear hnew htouch
            have Hf2 : Hid ((S.set i x).take (i + 1) = (l.take (j + 1)).filter fun r => !p r) := Lib.hid (by
              rw [List.take_add_one, List.getElem?_set, if_pos rfl, if_pos (by omega), List.take_set_of_le (Nat.le_refl i), List.take_add_one, Hxi.out, List.filter_append, ← Hf.out]
              simp [Hpb.out])
            have Hd2 : Hid ((S.set i x).drop (j + 1) = l.drop (j + 1)) := Lib.hid (by rw [List.drop_set_of_lt (by omega), ← List.drop_drop, ← List.drop_drop, Hd.out])
            iterate 13 go_step
            refine wpList_store_mid (by rfl) _ _ _ (by rfl) g (i * 10) #[.string x.okey.kind, .string x.okey.space, .string x.okey.name, .slice a7 n7 c7, .slice a8 n8 c8, .slice a9 n9 c9, .bool x.ending, .string x.uid, .int .i64 x.rev, .string x.doc] (by rfl) (by rfl) hthere Tryz.sizeObj (by simp [Value.oneCell']) ?_
            obtain ⟨w4, Hw4⟩ : ∃ w4, Hid (w3.setCells g (i * 10) ([.string x.okey.kind, .string x.okey.space, .string x.okey.name, .slice a7 n7 c7, .slice a8 n8 c8, .slice a9 n9 c9, .bool x.ending, .string x.uid, .int .i64 x.rev, .string x.doc] : List Value) = w4) := ⟨_, Lib.hid rfl⟩
            have hnew4 := Hnew.out
            have ht4 := Htouch.out
            rw [Hw4.out] at hnew4 ht4
            have Hnew4 := Lib.hid hnew4
            have Hb4 := Lib.hid (Hb3.out.trans (Only.touch (D := fun b => (Value.slice (some ⟨g, 0, none⟩) l.length c).ownBlock = some b) ht4 rfl) fun b hb _ => hb)
            have Hc4 := Lib.hid (HK.out _ _ Hc3.out (ht4.below (Below.refl _ _) hgB))
            have hw4 : w3.setCells g (i * 10) (#[.string x.okey.kind, .string x.okey.space, .string x.okey.name, .slice a7 n7 c7, .slice a8 n8 c8, .slice a9 n9 c9, .bool x.ending, .string x.uid, .int .i64 x.rev, .string x.doc] : Array Value).toList = w4 := Hw4.out
            rw [hw4]
            clear hw4 hnew4 ht4 cc hthere
            go_wp2_with fail
            go_roundg (gk - 1)
            case measure => omega
            case rel => exact ⟨i + 1, j + 1, S.set i x, by omega, by omega, by omega, by go_num, by go_num, Hnew4, by rw [List.length_set]; exact hSl, Hf2, Hd2, Hb4, Hc4⟩
        · have hjn : j = l.length := by omega
          have hfin : S.take i = l.filter fun r => !p r := by
            rw [Hf.out, List.take_of_length_le (by omega)]
          have q2 : ¬ (j : Int) < (l.length : Int) := by omega
          have q3 : (0 : Int) ≤ (i : Int) := by omega
          have q4 : (i : Int) ≤ (l.length : Int) := by omega
          have q5 : (i : Int) ≤ (c : Int) := by omega
          have Hfin := Lib.hid hfin
          have hlt : i < l.length := by omega
          obtain ⟨m, hm⟩ : ∃ m, l.length - i = m := ⟨_, rfl⟩
          go_upto_region 11 with fail
          iterate 10 go_step
          have hzs : (Builtin.zeroCells (Value.agg #[.string ByteArray.empty, .string ByteArray.empty, .string ByteArray.empty, .slice none 0 0, .slice none 0 0, .slice none 0 0, .bool false, .string ByteArray.empty, .int .i64 0, .string ByteArray.empty]).cells m).size = m * 10 := zeroCells_size _ _
          obtain ⟨hend1, htouch⟩ := HS.out.behind HF.out (i := i) (vs := (Builtin.zeroCells (Value.agg #[.string ByteArray.empty, .string ByteArray.empty, .string ByteArray.empty, .slice none 0 0, .slice none 0 0, .slice none 0 0, .bool false, .string ByteArray.empty, .int .i64 0, .string ByteArray.empty]).cells m).toList) (by omega) (by rw [Array.length_toList, hzs]; omega)
          have hthere := HS.out.there (o := i * 10) (m := m * 10) (by omega)
          rw [← hzs] at hthere
          have Hend1 := Lib.hid hend1
          have Hthere := Lib.hid hthere
          have Htouch := Lib.hid htouch
          clear hend1 htouch hthere
          refine wpList_clear_rows wr (by rfl) _ _ 30 (by rfl) (.agg #[.string ByteArray.empty, .string ByteArray.empty, .string ByteArray.empty, .slice none 0 0, .slice none 0 0, .slice none 0 0, .bool false, .string ByteArray.empty, .int .i64 0, .string ByteArray.empty]) Tryz.underlying45 Tryz.zeroValue30 (by simp [Value.cells, Value.oneCell']) g (i * 10) m (c - i) (by omega) (by rfl) Hthere.out ?_
          obtain ⟨w4, Hw4⟩ : ∃ w4, Hid (wr.setCells g (i * 10) (Builtin.zeroCells (Value.agg #[.string ByteArray.empty, .string ByteArray.empty, .string ByteArray.empty, .slice none 0 0, .slice none 0 0, .slice none 0 0, .bool false, .string ByteArray.empty, .int .i64 0, .string ByteArray.empty]).cells m).toList = w4) := ⟨_, Lib.hid rfl⟩
          rw [Hw4.out]
          have h1 := Hend1.out
          have h2 := Htouch.out
          rw [Hw4.out] at h1 h2
          rw [Hfin.out] at h1
          have H1 := Lib.hid h1
          have H2 := Lib.hid (Hbel.out.trans (Only.touch (D := fun b => (Value.slice (some ⟨g, 0, none⟩) l.length c).ownBlock = some b) h2 rfl) fun b hb _ => hb)
          clear h1 h2 hm hzs
          go_wp2_with fail
          go_ret
          exact ⟨_, rfl, H1.out, .inl rfl, H2.out⟩
set_option maxRecDepth 100000 in
theorem cloneObjs_any {R : Rd GObject} (hf : Flat R) (h1 : OneR R) (v : Value) (l : List GObject) (w : World) (h : RowAt R 10 w v l) (hl : l.length ≤ 4194304) :
    Calls Tryz.prog 103 #[v] w fun e w' => ∃ v', e = .returned v' ∧ OwnAt R 10 w' w.heap.size 30 v' l ∧ Below w.heap.size w w' := by
  obtain ⟨i0, hi0, hz0, hz1, hz2⟩ := info_parts Tryz.infoObjL
  have hrow := h
  have hn := fun (w : World) (a : Option Addr) (n c : Nat) => Lib.run_eql_slice_nil (P := Tryz.prog) w 45 30 a n c 0 0 Tryz.underlying45
  rcases h with ⟨rfl, rfl⟩ | ⟨a, c, rfl, _, _, _⟩
  · go_enter Tryz.func103, Tryz.ntmps103
    go_wp2_with fail
    go_ret
    exact ⟨_, rfl, OwnAt.nil _, Below.refl _ _⟩
  · have Hrow := Lib.hid hrow
    have Hf := Lib.hid hf
    have H1 := Lib.hid h1
    clear hrow hf h1
    go_enter Tryz.func103, Tryz.ntmps103
    go_wp2_with (at_builtin; refine wpList_append_ownAt (R := R) (k := 10) (e := 30) (B := w.heap.size) (l := []) (m := l) _ (by rfl) _ _ _ (by rfl) i0 _ 168 Tryz.underlying45 hi0 hz0 hz1 hz2 rfl (by omega) Hf.out H1.out _ (by rfl) (own_empty w 10 _ (Nat.le_refl _)) _ (by rfl) (Hrow.out.below Hf.out.stays ((Below.refl _ _).alloc (Nat.le_refl _) _)) (by unfold maxLen; simp; omega) (by simp; omega) (by simp) ?_)
    intro v' w' hv' hg hr _
    have hb : Below w.heap.size w w' := below_of_grown ((Below.refl _ _).alloc (Nat.le_refl _) _) (by simp) hg hr
    go_wp2_with fail
    go_ret
    exact ⟨_, rfl, by simpa using hv', hb⟩
end Sto
end Go.Proofs.YtnnceaapodgfbaaGreatDoor
namespace Go.Proofs.YtnnceaapodgfbaaGreatDoor
namespace Sto
open Go.RowKit
open JP (Bs)
structure OnceIs (S : St) (k : GKey) (doc other : ByteArray) : Prop where
  no : getE S k 0 ≠ 0 → (remove S k 0).2.2 = getE S k 0
  yes : getE S k 0 = 0 → ∀ o Ua Ub, o = getO S k 0 → Ua = update S { o with doc := doc } → Ub = update Ua.1 { o with doc := other } →
    getE Ub.1 k 0 = 0 ∧ (Ua.2.2 = 0 → (Ub.2.2 = 12 ∨ objE { o with doc := other } = Ub.2.2) ∧ Ub.2.2 ≠ 0 ∧ Ub.1.rev = S.rev + 1 ∧ getO Ub.1 k 0 = Ua.2.1 ∧ Ua.2.1.rev = (S.rev : Int) + 1) ∧
    (Ua.2.2 ≠ 0 → Ub.2.2 = 0 → Ub.1.rev = S.rev + 1 ∧ getO Ub.1 k 0 = Ub.2.1) ∧ (Ua.2.2 ≠ 0 → Ub.2.2 ≠ 0 → Ub.1.rev = S.rev ∧ (getO Ub.1 k 0).rev = o.rev)
end Sto
end Go.Proofs.YtnnceaapodgfbaaGreatDoor
namespace Go.Proofs.YtnnceaapodgfbaaGreatDoor
open Go.RowKit
def restOf (a b : Int) : Int := if a.tmod b < 0 then a.tmod b + b else a.tmod b
theorem restOf_in {a b : Int} (hb : 0 < b) : 0 ≤ restOf a b ∧ restOf a b < b := by
  have h1 := Int.tmod_lt_of_pos a hb
  have h2 : -b < a.tmod b := by
    have := Int.lt_tmod_of_pos a hb
    omega
  unfold restOf
  split <;> omega
theorem rest_any (a b : Int) (w : World) (hb : 0 < b) (hb2 : b ≤ 1073741824) : Calls Tryz.prog 29 #[.int .i64 a, .int .i64 b] w fun e w' => e = .returned (.int .i64 (restOf a b)) ∧ w = w' := by
  have h1 := Int.tmod_lt_of_pos a hb
  have h2 : -b < a.tmod b := by
    have := Int.lt_tmod_of_pos a hb
    omega
  have hb0 : (b == 0) = false := by rw [beq_eq_false_iff_ne]; omega
  by_cases h : a.tmod b < 0
  · have hr : restOf a b = a.tmod b + b := by unfold restOf; rw [if_pos h]
    have Hr := Lib.hid hr
    have q1 : IntKind.i64.wrap (a.tmod b) = a.tmod b := IntWalk.i64_in _ (by omega)
    have q2 : IntKind.i64.wrap (a.tmod b + b) = a.tmod b + b := IntWalk.i64_in _ (by omega)
    clear hr
    go_enter Tryz.func29, Tryz.ntmps29
    go_wp2_with fail
    go_ret
    exact ⟨congrArg (fun x => Ending.returned (Value.int .i64 x)) Hr.out.symm, rfl⟩
  · have hr : restOf a b = a.tmod b := by unfold restOf; rw [if_neg h]
    have Hr := Lib.hid hr
    have q1 : IntKind.i64.wrap (a.tmod b) = a.tmod b := IntWalk.i64_in _ (by omega)
    clear hr
    go_enter Tryz.func29, Tryz.ntmps29
    go_wp2_with fail
    go_ret
    exact ⟨congrArg (fun x => Ending.returned (Value.int .i64 x)) Hr.out.symm, rfl⟩
end Go.Proofs.YtnnceaapodgfbaaGreatDoor
namespace Go.Proofs.YtnnceaapodgfbaaGreatDoor
namespace Sto
open Go.RowKit
theorem restOf_mod {a b : Int} (hb : 0 < b) : restOf a b = a % b := by
  unfold restOf
  rw [Int.tmod_eq_emod]
  have h1 := Int.emod_nonneg a (by omega : b ≠ 0)
  have h2 := Int.emod_lt_of_pos a hb
  have h3 : (b.natAbs : Int) = b := by omega
  (repeat' split) <;> omega
theorem step_any (a b : Int) (w : World) (hb : 0 < b) (hb2 : b ≤ 1073741824) : Calls Tryz.prog 21 #[.int .i64 a, .int .i64 b] w fun e w' => e = .returned (.int .i64 (modI a b)) ∧ w = w' := by
  have H := Lib.hid (rest_any a b w hb hb2)
  rw [restOf_mod hb] at H
  have h1 := Int.emod_nonneg a (by omega : b ≠ 0)
  have h2 := Int.emod_lt_of_pos a hb
  have q1 : IntKind.i64.wrap (a % b) = a % b := IntWalk.i64_in _ (by omega)
  clear h1 h2
  go_enter Tryz.func21, Tryz.ntmps21
  go_wp2_with fail
  refine H.out.mono ?_
  rintro E w1 ⟨rfl, rfl⟩
  go_wp2_with fail
  go_ret
  exact ⟨rfl, rfl⟩
theorem did_box {D D' E : Dom} {w w2 w3 w4 : World} {g go : Nat} {T : Told} {u1 u2 u3 : Value} (hb : Below w.heap.size w w2) (hD : ∀ b, D b → b < w.heap.size) (hgo : w.heap.size ≤ go ∧ go < w2.heap.size) (h1 : StoreAt D' w3 g T.1) (h2 : ObjIn E w3 u1 u2 u3 T.2.1) (h3 : ∀ b, E b → w2.heap.size ≤ b ∧ b < w3.heap.size ∧ ¬ D' b) (h4 : ∀ b, D' b → D b ∨ w2.heap.size ≤ b) (h5 : Only D w2 w3) (ht : Touch go w3 w4) :
    Did D w g T (.returned (.tuple #[objW T.2.1 u1 u2 u3, .int .i64 T.2.2])) w4 := by
  have s1 := hb.size
  have s2 := ht.size
  have n1 : ∀ b, D' b → b ≠ go := fun b hb9 e => by
    rcases h4 b hb9 with h | h
    · have := hD b h; omega
    · omega
  refine ⟨D', E, u1, u2, u3, rfl, h1.agree (fun b hb9 => ht.other b (n1 b hb9)) (by omega), h2.agree fun b hb9 => ht.other b fun e => by have := (h3 b hb9).1; omega, fun b hb9 => ?_, fun b hb9 => ?_, ?_⟩
  · obtain ⟨e1, e2, e3⟩ := h3 b hb9
    exact ⟨by omega, by omega, e3⟩
  · rcases h4 b hb9 with h | h
    · exact .inl h
    · exact .inr (by omega)
  · have x1 : Only D w w3 := Only.after hb h5
    exact x1.trans (Only.touch (D := fun b => b = go) ht rfl) fun b hb hl => by omega
def stepW (x : GStoreStep) (v1 v2 v3 : Value) : Value := .agg (.int .i64 x.kind :: .int .i64 x.rev :: objCs x.o v1 v2 v3).toArray
set_option maxRecDepth 100000 in
set_option maxHeartbeats 3200000 in
theorem do_any {D : Dom} {w0 w : World} {g : Nat} {S : St} (h : StoreAt D w g S) (hH : Home w0 D w) (hS : OkSt S) (hrv : S.rev ≤ 4194303) (x : GStoreStep) (v1 v2 v3 : Value) (hl : RowAt LabelR 2 w v1 x.o.labels) (ho : StrAt w v2 x.o.owners) (hh : StrAt w v3 x.o.holds) (hok : OkObj x.o) :
    Calls Tryz.prog 20 #[.pointer (some ⟨g, 0, none⟩), stepW x v1 v2 v3] w (Did D w g (doS S x)) := by
  obtain ⟨a1, c1, rfl, -, -⟩ := hl.len
  obtain ⟨a2, c2, rfl, -, -⟩ := ho.row.len
  obtain ⟨a3, c3, rfl, -, -⟩ := hh.row.len
  obtain ⟨n1, Hn1⟩ : ∃ n, Hid (x.o.labels.length = n) := ⟨_, Lib.hid rfl⟩
  obtain ⟨n2, Hn2⟩ : ∃ n, Hid (x.o.owners.length = n) := ⟨_, Lib.hid rfl⟩
  obtain ⟨n3, Hn3⟩ : ∃ n, Hid (x.o.holds.length = n) := ⟨_, Lib.hid rfl⟩
  rw [Hn1.out] at hl
  rw [Hn2.out] at ho
  rw [Hn3.out] at hh
  rw [Hn1.out, Hn2.out, Hn3.out]
  obtain ⟨T, HT⟩ : ∃ T, Hid (doS S x = T) := ⟨_, Lib.hid rfl⟩
  rw [HT.out]
  obtain ⟨w1, hw1⟩ : ∃ w1, w1 = (w.alloc (.cells #[.int .i64 x.kind, .int .i64 x.rev, .string x.o.okey.kind, .string x.o.okey.space, .string x.o.okey.name, .slice a1 n1 c1, .slice a2 n2 c2, .slice a3 n3 c3, .bool x.o.ending, .string x.o.uid, .int .i64 x.o.rev, .string x.o.doc] 40)).alloc (.cells noA 30) := ⟨_, rfl⟩
  obtain ⟨gx, hgx⟩ : ∃ gx, gx = w.heap.size := ⟨_, rfl⟩
  obtain ⟨go, hgo⟩ : ∃ go, go = w.heap.size + 1 := ⟨_, rfl⟩
  have XO : Hid (w1.heap[gx]? = some (.cells #[.int .i64 x.kind, .int .i64 x.rev, .string x.o.okey.kind, .string x.o.okey.space, .string x.o.okey.name, .slice a1 n1 c1, .slice a2 n2 c2, .slice a3 n3 c3, .bool x.o.ending, .string x.o.uid, .int .i64 x.o.rev, .string x.o.doc] 40 (0, 0))) := Lib.hid (by rw [hw1, hgx]; exact heap_alloc_old (heap_alloc_new w _))
  have RO : Hid (w1.heap[go]? = some (.cells noA 30 (0, 0))) := Lib.hid (by rw [hw1, hgo]; exact heap_alloc_at (World.size_alloc _ _).symm)
  have hb1 : Below w.heap.size w w1 := by rw [hw1]; exact ((Below.refl _ w).alloc (Nat.le_refl _) _).alloc (by rw [World.size_alloc]; omega) _
  have hgw : w.heap.size ≤ go := by omega
  have hs1 : go < w1.heap.size := by rw [hw1, World.size_alloc, World.size_alloc]; omega
  have HB := Lib.hid hb1
  have HS := Lib.hid hS
  have HA := Lib.hid h
  have HH := Lib.hid (hH.below hb1)
  have HA1 := Lib.hid (h.belowW hb1)
  have HL := Lib.hid (hl.below stays_label hb1)
  have HO := Lib.hid (ho.below hb1)
  have HHh := Lib.hid (hh.below hb1)
  have Hok := Lib.hid hok
  have HSt := fun w => Lib.hid (step_any x.kind 4 w (by decide) (by decide))
  obtain ⟨kd, Hkd⟩ : ∃ kd, Hid (modI x.kind 4 = kd) := ⟨_, Lib.hid rfl⟩
  rw [Hkd.out] at HSt
  clear hb1 h hS hH hl ho hh hok
  rw [show stepW x (.slice a1 n1 c1) (.slice a2 n2 c2) (.slice a3 n3 c3) = .agg #[.int .i64 x.kind, .int .i64 x.rev, .string x.o.okey.kind, .string x.o.okey.space, .string x.o.okey.name, .slice a1 n1 c1, .slice a2 n2 c2, .slice a3 n3 c3, .bool x.o.ending, .string x.o.uid, .int .i64 x.o.rev, .string x.o.doc] from rfl]
  go_enter Tryz.func20, Tryz.ntmps20
  go_upto_region 1 with fail
  have hex : ((w.alloc (.cells #[.int .i64 x.kind, .int .i64 x.rev, .string x.o.okey.kind, .string x.o.okey.space, .string x.o.okey.name, .slice a1 n1 c1, .slice a2 n2 c2, .slice a3 n3 c3, .bool x.o.ending, .string x.o.uid, .int .i64 x.o.rev, .string x.o.doc] 40)).alloc (.cells #[.string { data := #[] }, .string { data := #[] }, .string { data := #[] }, .slice none 0 0, .slice none 0 0, .slice none 0 0, .bool false, .string { data := #[] }, .int .i64 0, .string { data := #[] }] 30)) = w1 := hw1.symm
  rw [hex]
  try rw [← hgo]
  rw [← hgx]
  clear hw1 hex hgx hgo
  have cc := fun i => cell_block XO.out i
  go_wp2_with fail
  refine (HSt _).out.mono ?_
  rintro E w2 ⟨rfl, hw2⟩
  subst hw2
  clear HSt
  by_cases hk0 : kd = 0
  · subst hk0
    have HTE : Hid (T = create S x.o) := Lib.hid (by rw [← HT.out]; unfold doS; rw [Hkd.out, if_pos rfl])
    have HX := Lib.hid (by have h9 := create_any HA1.out HH.out HS.out hrv x.o (.slice a1 n1 c1) (.slice a2 n2 c2) (.slice a3 n3 c3) HL.out HO.out HHh.out Hok.out; rw [show objW x.o (.slice a1 n1 c1) (.slice a2 n2 c2) (.slice a3 n3 c3) = .agg #[.string x.o.okey.kind, .string x.o.okey.space, .string x.o.okey.name, .slice a1 n1 c1, .slice a2 n2 c2, .slice a3 n3 c3, .bool x.o.ending, .string x.o.uid, .int .i64 x.o.rev, .string x.o.doc] from rfl] at h9; exact h9)
    clear HT
    go_wp2_with fail
    refine HX.out.mono ?_
    rintro E w3 ⟨D9, E9, u1, u2, u3, rfl, k1, k2, k3, k4, k5⟩
    have K1 := Lib.hid k1
    have K2 := Lib.hid k2
    have K3 := Lib.hid k3
    have K4 := Lib.hid k4
    have K5 := Lib.hid k5
    have R3 : Hid (w3.heap[go]? = some (.cells noA 30 (0, 0))) := Lib.hid ((k5.block go (by omega) fun hm => by have := HA.out.low hm; omega).trans RO.out)
    clear k1 k2 k3 k4 k5 HX
    rw [← HTE.out] at K1 K2 ⊢
    obtain ⟨TO9, HTO⟩ : ∃ y, Hid (T.2.1 = y) := ⟨_, Lib.hid rfl⟩
    obtain ⟨TE9, HTE9⟩ : ∃ y, Hid (T.2.2 = y) := ⟨_, Lib.hid rfl⟩
    rw [HTO.out, HTE9.out]
    go_wp2_with (refine wpList_store_box (by rfl) _ _ _ (by rfl) go (objCs TO9 u1 u2 u3).toArray (by rfl) (by rfl) _ _ (by exact R3.out) (by exact Tryz.sizeObj) (by rfl) (by rw [← HTO.out]; exact objA_ones K2.out) ?_)
    intro WF bF tF
    have BF := Lib.hid bF
    have TF := Lib.hid tF
    clear bF tF
    go_wp2_with fail
    refine bodyPost_ret (v := .tuple #[objW TO9 u1 u2 u3, .int .i64 TE9]) ?_ rfl ?_
    · exact results_two_obj Tryz.results20 _ _ go _ (by rfl) BF.out rfl
    · rw [← HTO.out, ← HTE9.out]
      exact did_box HB.out (fun b hb => HA.out.low hb) ⟨hgw, hs1⟩ K1.out K2.out K3.out K4.out K5.out TF.out
  · have p0 : (kd == 0) = false := by rw [beq_eq_false_iff_ne]; exact hk0
    by_cases hk1 : kd = 1
    · subst hk1
      clear p0
      have HTE : Hid (T = update S x.o) := Lib.hid (by rw [← HT.out]; unfold doS; rw [Hkd.out, if_neg (by decide), if_pos rfl])
      have HX := Lib.hid (by have h9 := update_any HA1.out HH.out HS.out hrv x.o (.slice a1 n1 c1) (.slice a2 n2 c2) (.slice a3 n3 c3) HL.out HO.out HHh.out Hok.out; rw [show objW x.o (.slice a1 n1 c1) (.slice a2 n2 c2) (.slice a3 n3 c3) = .agg #[.string x.o.okey.kind, .string x.o.okey.space, .string x.o.okey.name, .slice a1 n1 c1, .slice a2 n2 c2, .slice a3 n3 c3, .bool x.o.ending, .string x.o.uid, .int .i64 x.o.rev, .string x.o.doc] from rfl] at h9; exact h9)
      clear HT
      go_wp2_with fail
      refine HX.out.mono ?_
      rintro E w3 ⟨D9, E9, u1, u2, u3, rfl, k1, k2, k3, k4, k5⟩
      have K1 := Lib.hid k1
      have K2 := Lib.hid k2
      have K3 := Lib.hid k3
      have K4 := Lib.hid k4
      have K5 := Lib.hid k5
      have R3 : Hid (w3.heap[go]? = some (.cells noA 30 (0, 0))) := Lib.hid ((k5.block go (by omega) fun hm => by have := HA.out.low hm; omega).trans RO.out)
      clear k1 k2 k3 k4 k5 HX
      rw [← HTE.out] at K1 K2 ⊢
      obtain ⟨TO9, HTO⟩ : ∃ y, Hid (T.2.1 = y) := ⟨_, Lib.hid rfl⟩
      obtain ⟨TE9, HTE9⟩ : ∃ y, Hid (T.2.2 = y) := ⟨_, Lib.hid rfl⟩
      rw [HTO.out, HTE9.out]
      go_wp2_with (refine wpList_store_box (by rfl) _ _ _ (by rfl) go (objCs TO9 u1 u2 u3).toArray (by rfl) (by rfl) _ _ (by exact R3.out) (by exact Tryz.sizeObj) (by rfl) (by rw [← HTO.out]; exact objA_ones K2.out) ?_)
      intro WF bF tF
      have BF := Lib.hid bF
      have TF := Lib.hid tF
      clear bF tF
      go_wp2_with fail
      refine bodyPost_ret (v := .tuple #[objW TO9 u1 u2 u3, .int .i64 TE9]) ?_ rfl ?_
      · exact results_two_obj Tryz.results20 _ _ go _ (by rfl) BF.out rfl
      · rw [← HTO.out, ← HTE9.out]
        exact did_box HB.out (fun b hb => HA.out.low hb) ⟨hgw, hs1⟩ K1.out K2.out K3.out K4.out K5.out TF.out
    · have p1 : (kd == 1) = false := by rw [beq_eq_false_iff_ne]; exact hk1
      by_cases hk2 : kd = 2
      · subst hk2
        clear p0 p1
        have HTE : Hid (T = remove S x.o.okey x.rev) := Lib.hid (by rw [← HT.out]; unfold doS; rw [Hkd.out, if_neg (by decide), if_neg (by decide), if_pos rfl])
        have HX := Lib.hid (remove_any HA1.out HH.out HS.out hrv x.o.okey x.rev ⟨Hok.out.kind, Hok.out.space, Hok.out.name⟩)
        clear HT
        go_wp2_with fail
        refine HX.out.mono ?_
        rintro E w3 ⟨D9, E9, u1, u2, u3, rfl, k1, k2, k3, k4, k5⟩
        have K1 := Lib.hid k1
        have K2 := Lib.hid k2
        have K3 := Lib.hid k3
        have K4 := Lib.hid k4
        have K5 := Lib.hid k5
        have R3 : Hid (w3.heap[go]? = some (.cells noA 30 (0, 0))) := Lib.hid ((k5.block go (by omega) fun hm => by have := HA.out.low hm; omega).trans RO.out)
        clear k1 k2 k3 k4 k5 HX
        rw [← HTE.out] at K1 K2 ⊢
        obtain ⟨TO9, HTO⟩ : ∃ y, Hid (T.2.1 = y) := ⟨_, Lib.hid rfl⟩
        obtain ⟨TE9, HTE9⟩ : ∃ y, Hid (T.2.2 = y) := ⟨_, Lib.hid rfl⟩
        rw [HTO.out, HTE9.out]
        go_wp2_with (refine wpList_store_box (by rfl) _ _ _ (by rfl) go (objCs TO9 u1 u2 u3).toArray (by rfl) (by rfl) _ _ (by exact R3.out) (by exact Tryz.sizeObj) (by rfl) (by rw [← HTO.out]; exact objA_ones K2.out) ?_)
        intro WF bF tF
        have BF := Lib.hid bF
        have TF := Lib.hid tF
        clear bF tF
        go_wp2_with fail
        refine bodyPost_ret (v := .tuple #[objW TO9 u1 u2 u3, .int .i64 TE9]) ?_ rfl ?_
        · exact results_two_obj Tryz.results20 _ _ go _ (by rfl) BF.out rfl
        · rw [← HTO.out, ← HTE9.out]
          exact did_box HB.out (fun b hb => HA.out.low hb) ⟨hgw, hs1⟩ K1.out K2.out K3.out K4.out K5.out TF.out
      · have p2 : (kd == 2) = false := by rw [beq_eq_false_iff_ne]; exact hk2
        obtain ⟨rv, Hrv⟩ : ∃ rv, Hid (modI x.rev 3 = rv) := ⟨_, Lib.hid rfl⟩
        have HTE : Hid (T = (compact S rv, noObj, compactE S rv)) := Lib.hid (by rw [← HT.out, ← Hrv.out]; unfold doS; rw [Hkd.out, if_neg hk0, if_neg hk1, if_neg hk2])
        have HRe := fun w => Lib.hid (rest_any x.rev 3 w (by decide) (by decide))
        rw [restOf_mod (by decide), show x.rev % 3 = rv from Hrv.out] at HRe
        have HC := Lib.hid (compact_any HA1.out rv)
        have hr1 : 0 ≤ rv ∧ rv < 3 := by rw [← Hrv.out]; exact ⟨Int.emod_nonneg _ (by decide), Int.emod_lt_of_pos _ (by decide)⟩
        have q1 : IntKind.i64.wrap rv = rv := IntWalk.i64_in _ (by omega)
        clear HT hk0 hk1 hk2 hr1
        go_wp2_with fail
        refine (HRe _).out.mono ?_
        rintro E w2 ⟨rfl, hw2⟩
        subst hw2
        go_wp2_with fail
        refine HC.out.mono ?_
        rintro E w3 ⟨rfl, k1, k5⟩
        have K1 := Lib.hid k1
        have K5 := Lib.hid k5
        have R3 : Hid (w3.heap[go]? = some (.cells noA 30 (0, 0))) := Lib.hid ((k5.block go (by omega) fun hm => by have := HA.out.low hm; omega).trans RO.out)
        clear k1 k5 HC HRe q1
        go_wp2_with (refine wpList_store_box (by rfl) _ _ _ (by rfl) go noA (by rfl) (by rfl) _ _ (by exact R3.out) (by exact Tryz.sizeObj) (by rfl) (by simp [Value.oneCell', noA]) ?_)
        intro WF bF tF
        have BF := Lib.hid bF
        have TF := Lib.hid tF
        clear bF tF
        go_wp2_with fail
        refine bodyPost_ret (v := .tuple #[.agg noA, .int .i64 (compactE S rv)]) ?_ rfl ?_
        · exact results_two_obj Tryz.results20 _ _ go _ (by rfl) BF.out rfl
        · rw [HTE.out]
          exact did_box (T := (compact S rv, noObj, compactE S rv)) (u1 := nilS) (u2 := nilS) (u3 := nilS) (E := fun _ => False) HB.out (fun b hb => HA.out.low hb) ⟨hgw, hs1⟩ K1.out (objIn_no _) (fun b hb => hb.elim) (fun b hb => .inl hb) K5.out TF.out
end Sto
end Go.Proofs.YtnnceaapodgfbaaGreatDoor
namespace Go.Proofs.YtnnceaapodgfbaaGreatDoor
namespace Sto
open Go.RowKit
theorem uidOf_size (n : Nat) (h : n ≤ 4194304) : (uidOf n).size ≤ 32 := by
  unfold uidOf
  rw [mkB_size, List.length_cons]
  have := Lib.itoa_length_le (n : Int) (by omega) (by omega)
  omega
theorem okObj_put {n : Nat} {kind : Int} {o : GObject} (h : OkObj o) (hn : n ≤ 4194304) : OkObj (putO n kind o) :=
  ⟨h.kind, h.space, h.name, h.labels, h.owners, h.holds, by
    unfold putO
    dsimp only
    split
    · have := uidOf_size n hn; omega
    · exact h.uid, by unfold putO i64; dsimp only; exact decide_eq_true (by have h1 : IntKind.i64.max = 9223372036854775807 := rfl; have h2 : IntKind.i64.min = -9223372036854775808 := rfl; omega), h.doc⟩
theorem okSt0 : OkSt St0 := ⟨fun _ h => (by cases h), by decide, good0⟩
theorem okSt_put {S : St} {kind : Int} {o : GObject} (h : OkSt S) (ho : OkObj o) (hr : S.rev ≤ 4194303) : ∀ e ∈ (put S kind o).log, OkObj e.object := fun e he => by
  unfold put at he
  rcases List.mem_append.1 he with he | he
  · exact h.obj e he
  · rw [List.mem_singleton] at he
    subst he
    exact okObj_put ho (by omega)
theorem okSt_do {S : St} (h : OkSt S) {x : GStoreStep} (hx : OkObj x.o) (hr : S.rev ≤ 4194303) : OkSt (doS S x).1 := by
  refine ⟨?_, by have := (rev_do S x).2; omega, good_do h.good x⟩
  have hk := okObj_kept hx
  unfold doS
  split
  · rcases create_cases S x.o with ⟨h1, _⟩ | ⟨h1, _⟩
    · rw [h1]; exact h.obj
    · rw [h1]; exact okSt_put h ⟨hk.kind, hk.space, hk.name, hk.labels, hk.owners, hk.holds, hk.uid, hk.rev, hk.doc⟩ hr
  · split
    · rcases update_cases S x.o with ⟨h1, _⟩ | ⟨was, h1, _, h2, _⟩
      · rw [h1]; exact h.obj
      · obtain ⟨e, he, h9⟩ := cur_mem h2
        have hw : OkObj was := h9 ▸ h.obj e he
        rw [h1]; exact okSt_put h ⟨hk.kind, hk.space, hk.name, hk.labels, hk.owners, hk.holds, hw.uid, hk.rev, hk.doc⟩ hr
    · split
      · rcases remove_cases S x.o.okey x.rev with ⟨h1, _⟩ | ⟨was, h1, h2⟩
        · rw [h1]; exact h.obj
        · obtain ⟨e, he, h9⟩ := cur_mem h2
          rw [h1]; exact okSt_put h (h9 ▸ h.obj e he) hr
      · show ∀ e ∈ (compact S _).log, _
        rw [grow_compact]; exact h.obj
theorem run_snoc (S : St) (l : List GStoreStep) (x : GStoreStep) : run S (l ++ [x]) = (doS (run S l) x).1 := by
  induction l generalizing S with
  | nil => rfl
  | cons a r ih => exact ih _
theorem okSt_run {S : St} (h : OkSt S) : ∀ (l : List GStoreStep), (∀ x ∈ l, OkObj x.o) → S.rev + l.length ≤ 4194303 → OkSt (run S l)
  | [], _, _ => h
  | x :: r, hl, hn => by
    rw [List.length_cons] at hn
    exact okSt_run (okSt_do h (hl x List.mem_cons_self) (by omega)) r (fun y hy => hl y (List.mem_cons_of_mem _ hy)) (by have := (rev_do S x).2; omega)
theorem Tryz.sizeStep : (Tryz.prog.info? 40).map (·.size) = some 12 := by kernel_rfl
theorem step_cells {w w' : World} {va : Option Addr} {vn vc : Nat} {l : List GStoreStep} (h : RowAt StoreStepR 12 w (.slice va vn vc) l) (hn : l.length = vn) (hb : Below w.heap.size w w') {m : Nat} {x : GStoreStep} (he : l[m]? = some x) :
    ∃ b o v1 v2 v3, va = some ⟨b, o, none⟩ ∧ RowAt LabelR 2 w' v1 x.o.labels ∧ StrAt w' v2 x.o.owners ∧ StrAt w' v3 x.o.holds ∧ ∀ i u, (Value.int .i64 x.kind :: .int .i64 x.rev :: objCs x.o v1 v2 v3)[i]? = some u → w'.cell? ⟨b, o + m * 12 + i, none⟩ = some u := by
  have hm := (List.getElem?_eq_some_iff.1 he).1
  obtain ⟨b, o, c', hv, _, _, hbs, hcell⟩ := h.form (by omega) (by omega)
  injection hv with u1 u2 u3
  obtain ⟨ds, _, hcc, c2, rfl, _, _, v1, v2, v3, rfl, g1, g2, g3, _⟩ := hcell m x he
  exact ⟨b, o, v1, v2, v3, u1, g1.below stays_label hb, g2.below hb, g3.below hb, fun i u hu => (hb.cell (p := ⟨b, _, none⟩) hbs).trans (hcc i u hu)⟩
set_option maxRecDepth 100000 in
set_option maxHeartbeats 3200000 in
theorem stored_any (v : Value) (l : List GStoreStep) (w : World) (h : RowAt StoreStepR 12 w v l) (hl : l.length ≤ 4194303) (hok : ∀ x ∈ l, OkObj x.o) (hE : Env w) :
    Calls Tryz.prog 13 #[v] w fun e w' => ∃ g D, e = .returned (.pointer (some ⟨g, 0, none⟩)) ∧ StoreAt D w' g (run St0 l) ∧ (∀ b, D b → w.heap.size ≤ b) ∧ Below w.heap.size w w' := by
  obtain ⟨a1, c1, rfl, -, -⟩ := h.len
  obtain ⟨n, hn⟩ : ∃ n, l.length = n := ⟨_, rfl⟩
  rw [hn] at h hl ⊢
  have HR := Lib.hid h
  have HN := Lib.hid hn
  have Hok := Lib.hid hok
  have HEn := Lib.hid hE
  have HNew := fun w => Lib.hid (new_any w)
  have HK : ∀ w, Hid (Calls Tryz.prog 47 #[.agg #[.string { data := #[] }, .string { data := #[] }, .string { data := #[] }]] w fun e w' => e = .returned (.int .i64 6) ∧ Below w.heap.size w w') := fun w => Lib.hid (key_any ByteArray.empty ByteArray.empty ByteArray.empty w (by decide) (by decide) (by decide))
  clear h hn hok hE
  go_enter Tryz.func13, Tryz.ntmps13
  go_wp2_with fail
  refine (HNew _).out.mono ?_
  rintro E w1 ⟨g, D, rfl, hst, hlow, hb1⟩
  have HA := Lib.hid hst
  have HD := Lib.hid hlow
  have HB := Lib.hid hb1
  clear hst hlow hb1 HNew
  go_wp2_with fail
  refine (HK _).out.mono ?_
  rintro E w2 ⟨rfl, hb2⟩
  have HA2 := Lib.hid (HA.out.belowW hb2)
  have HB2 := Lib.hid (HB.out.trans (hb2.mono HB.out.size))
  clear hb2 HK HA HB
  go_wp2_with fail
  go_loopg [16] n (fun k u16 wr => ∃ (i : Nat) (D' : Dom), i + k = n ∧ u16 = .int .i64 (i : Int) ∧ Hid (StoreAt D' wr g (run St0 (l.take i))) ∧ Hid (∀ b, D' b → w.heap.size ≤ b) ∧ Hid (Below w.heap.size w wr))
  case atStart => exact ⟨0, D, by omega, rfl, HA2, HD, HB2⟩
  case round =>
    clear HA2 HB2 HD
    obtain ⟨i, D', hik, rfl, HA, HD, HB⟩ := hrel
    cases gk with
    | zero =>
      obtain rfl : n = i := by omega
      have HA9 : Hid (StoreAt D' wr g (run St0 l)) := Lib.hid (by have h9 := HA.out; rw [← HN.out, List.take_length] at h9; exact h9)
      go_wp2_with fail
      go_ret
      exact ⟨g, D', rfl, HA9.out, HD.out, HB.out⟩
    | succ k =>
      have hil : i < n := by omega
      obtain ⟨x, hx⟩ : ∃ x, l[i]? = some x := ⟨l[i]'(by rw [HN.out]; exact hil), List.getElem?_eq_getElem _⟩
      obtain ⟨b, o, v1, v2, v3, hva, g1, g2, g3, ec⟩ := step_cells HR.out HN.out HB.out hx
      subst hva
      obtain ⟨a7, c7, rfl, -, -⟩ := g1.len
      obtain ⟨a8, c8, rfl, -, -⟩ := g2.row.len
      obtain ⟨a9, c9, rfl, -, -⟩ := g3.row.len
      obtain ⟨n7, Hn7⟩ : ∃ n, Hid (x.o.labels.length = n) := ⟨_, Lib.hid rfl⟩
      obtain ⟨n8, Hn8⟩ : ∃ n, Hid (x.o.owners.length = n) := ⟨_, Lib.hid rfl⟩
      obtain ⟨n9, Hn9⟩ : ∃ n, Hid (x.o.holds.length = n) := ⟨_, Lib.hid rfl⟩
      rw [Hn7.out] at g1 ec
      rw [Hn8.out] at g2 ec
      rw [Hn9.out] at g3 ec
      have f0 := ec 0 _ rfl
      have f1 := ec 1 _ rfl
      have f2 := ec 2 _ rfl
      have f3 := ec 3 _ rfl
      have f4 := ec 4 _ rfl
      have f5 := ec 5 _ rfl
      have f6 := ec 6 _ rfl
      have f7 := ec 7 _ rfl
      have f8 := ec 8 _ rfl
      have f9 := ec 9 _ rfl
      have f10 := ec 10 _ rfl
      have f11 := ec 11 _ rfl
      rw [Nat.add_zero] at f0
      have q1 : (0 : Int) ≤ (i : Int) := by omega
      have q2 : (i : Int) < (n : Int) := by omega
      have HX := Lib.hid hx
      have G1 := Lib.hid g1
      have G2 := Lib.hid g2
      have G3 := Lib.hid g3
      have H7 := Lib.hid (heap_alloc_new wr (.cells #[.int .i64 0, .int .i64 0, .string { data := #[] }, .string { data := #[] }, .string { data := #[] }, .slice none 0 0, .slice none 0 0, .slice none 0 0, .bool false, .string { data := #[] }, .int .i64 0, .string { data := #[] }] 40))
      have hb4 : Below wr.heap.size wr (wr.alloc (.cells #[.int .i64 0, .int .i64 0, .string { data := #[] }, .string { data := #[] }, .string { data := #[] }, .slice none 0 0, .slice none 0 0, .slice none 0 0, .bool false, .string { data := #[] }, .int .i64 0, .string { data := #[] }] 40)) := (Below.refl _ wr).alloc (Nat.le_refl _) _
      have HB4 := Lib.hid hb4
      have hs4 : (wr.alloc (.cells #[.int .i64 0, .int .i64 0, .string { data := #[] }, .string { data := #[] }, .string { data := #[] }, .slice none 0 0, .slice none 0 0, .slice none 0 0, .bool false, .string { data := #[] }, .int .i64 0, .string { data := #[] }] 40)).heap.size = wr.heap.size + 1 := World.size_alloc _ _
      have HokX : Hid (OkObj x.o) := Lib.hid (Hok.out x (List.mem_of_getElem? hx))
      have HSi : Hid (OkSt (run St0 (l.take i))) := Lib.hid (okSt_run okSt0 _ (fun y hy => Hok.out y (List.mem_of_mem_take hy)) (by show 0 + _ ≤ _; rw [List.length_take]; have := HN.out; omega))
      have Hrev : Hid ((run St0 (l.take i)).rev ≤ 4194303) := Lib.hid (by have h9 := rev_run St0 (l.take i); have h8 : St0.rev = 0 := rfl; rw [List.length_take] at h9; have := HN.out; omega)
      clear hx ec g1 g2 g3 hb4
      go_wp2_with (refine wpList_store_box (by rfl) _ _ _ (by rfl) wr.heap.size #[.int .i64 x.kind, .int .i64 x.rev, .string x.o.okey.kind, .string x.o.okey.space, .string x.o.okey.name, .slice a7 n7 c7, .slice a8 n8 c8, .slice a9 n9 c9, .bool x.o.ending, .string x.o.uid, .int .i64 x.o.rev, .string x.o.doc] (by rfl) (by rfl) _ _ (by exact H7.out) (by exact Tryz.sizeStep) (by rfl) (by simp [Value.oneCell']) ?_)
      intro w5 b5 t5
      have B5 := Lib.hid b5
      have hbb : Below wr.heap.size wr w5 := t5.below HB4.out (Nat.le_refl _)
      have HB5 := Lib.hid hbb
      have hs5 : w5.heap.size = wr.heap.size + 1 := t5.size.trans hs4
      have HDo := Lib.hid (do_any (w0 := w) (HA.out.belowW hbb) ⟨HEn.out.1, HEn.out.2.2, HB.out.trans (hbb.mono HB.out.size), HD.out⟩ HSi.out Hrev.out x (.slice a7 n7 c7) (.slice a8 n8 c8) (.slice a9 n9 c9) (G1.out.below stays_label hbb) (G2.out.below hbb) (G3.out.below hbb) HokX.out)
      rw [show stepW x (.slice a7 n7 c7) (.slice a8 n8 c8) (.slice a9 n9 c9) = .agg #[.int .i64 x.kind, .int .i64 x.rev, .string x.o.okey.kind, .string x.o.okey.space, .string x.o.okey.name, .slice a7 n7 c7, .slice a8 n8 c8, .slice a9 n9 c9, .bool x.o.ending, .string x.o.uid, .int .i64 x.o.rev, .string x.o.doc] from rfl] at HDo
      clear b5 t5 hs4 H7 HB4 hbb f0 f1 f2 f3 f4 f5 f6 f7 f8 f9 f10 f11
      have cc := fun i => cell_block B5.out i
      go_wp2_with fail
      refine HDo.out.mono ?_
      rintro E w6 ⟨D9, E9, u1, u2, u3, rfl, k1, k2, k3, k4, k5⟩
      have hw := HB.out.size
      have K1 : Hid (StoreAt D9 w6 g (run St0 (l.take (i + 1)))) := Lib.hid (by rw [take_snoc HX.out, run_snoc]; exact k1)
      have K4 : Hid (∀ b, D9 b → w.heap.size ≤ b) := Lib.hid fun b hb => (k4 b hb).elim (HD.out b) fun h9 => by omega
      have K5 : Hid (Below w.heap.size w w6) := Lib.hid ((HB.out.trans (HB5.out.mono hw)).trans (k5.below HD.out (by omega)))
      clear k1 k2 k3 k4 k5 HDo cc
      go_wp2_with fail
      go_roundg k
      case measure => omega
      case rel => exact ⟨i + 1, D9, by omega, by simp, K1, K4, K5⟩
end Sto
end Go.Proofs.YtnnceaapodgfbaaGreatDoor
namespace Go.Proofs.YtnnceaapodgfbaaGreatDoor
namespace Sto
open Go.RowKit
theorem sum_mem {α : Type} {f : α → Nat} : ∀ {l : List α} {x : α}, x ∈ l → f x ≤ (l.map f).sum
  | a :: r, x, h => by
    rw [List.map_cons, List.sum_cons]
    rcases List.mem_cons.1 h with rfl | h
    · omega
    · have := sum_mem (f := f) h; omega
theorem sum_length {α : Type} {f : α → Nat} {c : Nat} : ∀ {l : List α}, (∀ x ∈ l, c ≤ f x) → l.length * c ≤ (l.map f).sum
  | [], _ => by simp
  | a :: r, h => by
    rw [List.map_cons, List.sum_cons, List.length_cons, Nat.add_mul, Nat.one_mul]
    have h1 := sum_length (f := f) (c := c) (l := r) fun x hx => h x (List.mem_cons_of_mem _ hx)
    have h2 := h a List.mem_cons_self
    omega
theorem okObj_bulk {o : GObject} (h : objectB o ≤ 1048576) (hr : i64 o.rev) : OkObj o := by
  unfold objectB keyB at h
  have h1 := sum_length (f := labelB) (c := 1) (l := o.labels) fun x _ => by unfold labelB; omega
  have h2 := total_length o.owners
  have h3 := total_length o.holds
  exact ⟨by omega, by omega, by omega, ⟨by omega, fun r hr => by have h5 := sum_mem (f := labelB) hr; have h6 : labelB r = ((r.key.size + 1) + ((r.val.size + 1) + 0)) + 1 := rfl; unfold okLab; omega⟩, ⟨by omega, fun s hs => by have := total_mem hs; omega⟩, ⟨by omega, fun s hs => by have := total_mem hs; omega⟩, by omega, hr, by omega⟩
theorem okSteps_bulk {w : World} {v : Value} {l : List GStoreStep} (h : RowAt StoreStepR 12 w v l) (hb : (l.map storeStepB).sum ≤ 1048576) : (∀ x ∈ l, OkObj x.o) ∧ l.length ≤ 1048576 := by
  have h0 := sum_length (f := storeStepB) (c := 1) (l := l) fun x _ => by unfold storeStepB; omega
  refine ⟨fun x hx => ?_, by omega⟩
  have h1 := sum_mem (f := storeStepB) hx
  have h6 : storeStepB x = (1 + (1 + (objectB x.o + 0))) + 1 := rfl
  refine okObj_bulk (by omega) ?_
  obtain ⟨a, c, rfl, _, _⟩ := h.len
  obtain ⟨i, hi, he⟩ := List.getElem_of_mem hx
  obtain ⟨b, o, c', hv, _, _, hbs, hcell⟩ := h.form (by omega) (by omega)
  obtain ⟨ds, _, hcc, c2, rfl, _, _, v1, v2, v3, rfl, g1, g2, g3, g4⟩ := hcell i x (by rw [List.getElem?_eq_getElem hi, he])
  exact g4
end Sto
end Go.Proofs.YtnnceaapodgfbaaGreatDoor
namespace Go.Proofs.YtnnceaapodgfbaaGreatDoor
open Go.RowKit
theorem eqS_no {l m : List ByteArray} {i : Nat} {x y : ByteArray} (hx : l[i]? = some x) (hy : m[i]? = some y) (h : x ≠ y) : decide (l = m) = false := by
  rw [decide_eq_false_iff_not]
  intro e
  subst e
  rw [hx] at hy
  cases hy
  exact h rfl
theorem eqS_yes {l m : List ByteArray} (h : l.length = m.length) (k : ∀ (i : Nat) (x y : ByteArray), i < l.length → l[i]? = some x → m[i]? = some y → x = y) : decide (l = m) = true := by
  rw [decide_eq_true_iff]
  apply List.ext_getElem h
  intro i hi hj
  exact k i _ _ hi (List.getElem?_eq_getElem hi) (List.getElem?_eq_getElem hj)
set_option maxRecDepth 100000 in
set_option maxHeartbeats 800000 in
theorem eqStrs_any (v1 v2 : Value) (l m : List ByteArray) (w : World) (h1 : StrAt w v1 l) (h2 : StrAt w v2 m) (hl : l.length ≤ 8388608) (hm : m.length ≤ 8388608) :
    Calls Tryz.prog 59 #[v1, v2] w fun e w' => e = .returned (.bool (decide (l = m))) ∧ w = w' := by
  obtain ⟨a1, c1, rfl, _, _⟩ := h1.len
  obtain ⟨a2, c2, rfl, _, _⟩ := h2.len
  have H1 := Lib.hid h1
  have H2 := Lib.hid h2
  clear h1 h2
  by_cases hlen : l.length = m.length
  · have q1 : ((l.length : Int) != (m.length : Int)) = false := by rw [bne_eq_false_iff_eq]; omega
    have Hlen := Lib.hid hlen
    clear hlen
    go_enter Tryz.func59, Tryz.ntmps59
    go_wp2_with fail
    clear q1
    go_loopg [14] l.length (fun g u14 wr => ∃ i : Nat, i + g = l.length ∧ u14 = .int .i64 (i : Int) ∧ Hid (∀ (k : Nat) (x y : ByteArray), k < i → l[k]? = some x → m[k]? = some y → x = y) ∧ w = wr)
    case atStart => exact ⟨0, by omega, rfl, Lib.hid (fun k _ _ hk => by omega), rfl⟩
    case round =>
      obtain ⟨i, hig, rfl, Hall, rfl⟩ := hrel
      cases gk with
      | zero =>
        obtain rfl : i = l.length := by omega
        have Hyes : Hid (decide (l = m) = true) := eqS_yes Hlen.out fun k x y hk hx hy => Hall.out k x y hk hx hy
        go_wp2_with fail
        go_ret
        exact ⟨congrArg (fun b => Ending.returned (Value.bool b)) Hyes.out.symm, rfl⟩
      | succ g =>
        have hil : i < l.length := by omega
        have him : i < m.length := by have := Hlen.out; omega
        obtain ⟨x, hx⟩ : ∃ x, l[i]? = some x := ⟨l[i]'(by omega), List.getElem?_eq_getElem _⟩
        obtain ⟨y, hy⟩ : ∃ y, m[i]? = some y := ⟨m[i]'(by omega), List.getElem?_eq_getElem _⟩
        obtain ⟨b, o, c', hv, _, _, hbs, hcell⟩ := H1.out.form (by omega)
        injection hv with u1 u2 u3
        subst u1
        clear u2 u3
        obtain ⟨b', o', c'', hv, _, _, hbs', hcell'⟩ := H2.out.form (by omega)
        injection hv with u1 u2 u3
        subst u1
        clear u2 u3
        have e0 : w.cell? ⟨b, o + i, none⟩ = some (.string x) := hcell i x hx
        have f0 : w.cell? ⟨b', o' + i, none⟩ = some (.string y) := hcell' i y hy
        have q1 : (0 : Int) ≤ (i : Int) := by omega
        have q2 : (i : Int) < (l.length : Int) := by omega
        have q3 : (i : Int) < (m.length : Int) := by omega
        have Hx := Lib.hid hx
        have Hy := Lib.hid hy
        clear hcell hcell' hx hy
        by_cases he : x = y
        · have Hall2 : Hid (∀ (k : Nat) (x y : ByteArray), k < i + 1 → l[k]? = some x → m[k]? = some y → x = y) := Lib.hid fun k x' y' hk hx' hy' => by
            rcases Nat.lt_or_ge k i with h | h
            · exact Hall.out k x' y' h hx' hy'
            · obtain rfl : k = i := by omega
              have a := Hx.out; have b := Hy.out
              rw [a] at hx'; rw [b] at hy'
              cases hx'; cases hy'
              exact he
          have q4 : (x.toList == y.toList) = true := by rw [he]; simp
          clear he
          go_wp2_with fail
          go_roundg g
          case measure => omega
          case rel => exact ⟨i + 1, by omega, by go_num, Hall2, rfl⟩
        · have Hno : Hid (decide (l = m) = false) := Lib.hid (eqS_no Hx.out Hy.out he)
          have q4 : (x.toList == y.toList) = false := by rw [beq_eq_false_iff_ne]; exact fun h => he (toList_inj h)
          clear he
          go_wp2_with fail
          go_ret
          exact ⟨congrArg (fun b => Ending.returned (Value.bool b)) Hno.out.symm, rfl⟩
  · have q1 : ((l.length : Int) != (m.length : Int)) = true := by rw [bne_iff_ne]; omega
    have Hno : Hid (decide (l = m) = false) := by show _ = _; rw [decide_eq_false_iff_not]; exact fun h => hlen (congrArg _ h)
    clear hlen
    go_enter Tryz.func59, Tryz.ntmps59
    go_wp2_with fail
    go_ret
    exact ⟨congrArg (fun b => Ending.returned (Value.bool b)) Hno.out.symm, rfl⟩
end Go.Proofs.YtnnceaapodgfbaaGreatDoor
namespace Go.Proofs.YtnnceaapodgfbaaGreatDoor
namespace Sto
open Go.RowKit
theorem below_drewN2 {B : Nat} {a w : World} (h : Below B a w) (n : Nat) : Below B a (w.drewN n) := ⟨h.os, h.tape, h.output, h.size, h.block⟩
theorem Tryz.fieldsLabQ : Tryz.prog.underlying 66 = some (.struct (Tryz.prog.fieldsOf 66)) := by kernel_rfl
theorem Tryz.heldLabQ : Tryz.prog.stoodInHeld 66 = false := by kernel_rfl
theorem run_neqLab (a b : ByteArray) (w : World) : (binOp .neq 66 (.agg #[.string a, .string b]) (.agg #[.string a, .string b])).run Tryz.prog w = .ok (.bool false) w := by
  rw [run_neq_struct, run_equalIn_agg w 9999 _ _ _ Tryz.fieldsLabQ Tryz.heldLabQ]
  simp [Op.eqFields, Program.fieldsOf, Tryz.underlying66]
  go_simp
set_option maxRecDepth 100000 in
set_option maxHeartbeats 1600000 in
theorem eqLab_yes (v1 v2 : Value) (l : List GLabel) (w : World) (h1 : RowAt LabelR 2 w v1 l) (h2 : RowAt LabelR 2 w v2 l) (hl : l.length ≤ 1048576) :
    Calls Tryz.prog 58 #[v1, v2] w fun e w' => e = .returned (.bool true) ∧ Below w.heap.size w w' := by
  obtain ⟨a1, c1, rfl, _, _⟩ := h1.len
  obtain ⟨a2, c2, rfl, _, _⟩ := h2.len
  have H1 := Lib.hid h1
  have H2 := Lib.hid h2
  clear h1 h2
  have q1 : ((l.length : Int) != (l.length : Int)) = false := by rw [bne_eq_false_iff_eq]
  go_enter Tryz.func58, Tryz.ntmps58
  go_wp2_with fail
  clear q1
  go_loopg [14] l.length (fun g u14 wr => ∃ i : Nat, i + g = l.length ∧ u14 = .int .i64 (i : Int) ∧ Below w.heap.size w wr)
  case atStart => exact ⟨0, by omega, rfl, Below.refl _ _⟩
  case round =>
    obtain ⟨i, hig, rfl, hbel⟩ := hrel
    cases gk with
    | zero =>
      obtain rfl : i = l.length := by omega
      go_wp2_with fail
      go_ret
      exact ⟨rfl, hbel⟩
    | succ g =>
      have hil : i < l.length := by omega
      obtain ⟨x, hx⟩ : ∃ x, l[i]? = some x := ⟨l[i]'(by omega), List.getElem?_eq_getElem _⟩
      obtain ⟨b, o, c', hv, _, _, hbs, hcell⟩ := H1.out.form (by omega) (by omega)
      cases hv
      obtain ⟨cs, _, hcc, hR⟩ := hcell i x hx
      obtain rfl : cs = [.string x.key, .string x.val] := hR
      obtain ⟨b', o', c'', hv, _, _, hbs', hcell'⟩ := H2.out.form (by omega) (by omega)
      cases hv
      obtain ⟨cs', _, hcc', hR'⟩ := hcell' i x hx
      obtain rfl : cs' = [.string x.key, .string x.val] := hR'
      have e0 : wr.cell? ⟨b, o + i * 2, none⟩ = some (.string x.key) := (hbel.cell (p := ⟨b, _, none⟩) hbs).trans (by simpa using hcc 0 _ rfl)
      have e1 : wr.cell? ⟨b, o + i * 2 + 1, none⟩ = some (.string x.val) := (hbel.cell (p := ⟨b, _, none⟩) hbs).trans (hcc 1 _ rfl)
      have f0 : wr.cell? ⟨b', o' + i * 2, none⟩ = some (.string x.key) := (hbel.cell (p := ⟨b', _, none⟩) hbs').trans (by simpa using hcc' 0 _ rfl)
      have f1 : wr.cell? ⟨b', o' + i * 2 + 1, none⟩ = some (.string x.val) := (hbel.cell (p := ⟨b', _, none⟩) hbs').trans (hcc' 1 _ rfl)
      have hbs2 : b' < wr.heap.size := by have := hbel.size; omega
      have q1 : (0 : Int) ≤ (i : Int) := by omega
      have q2 : (i : Int) < (l.length : Int) := by omega
      have hne := run_neqLab x.key x.val
      have Hbel : ∀ o : Obj, Hid (Below w.heap.size w (wr.alloc o)) := fun o => Lib.hid (hbel.alloc hbel.size o)
      clear hcc hcc' hcell hcell' hx hbel
      go_wp2_with fail
      go_quiet (fail)
      go_wp2_with fail
      go_roundg g
      case measure => omega
      case rel => exact ⟨i + 1, by omega, by go_num, below_drewN2 (Hbel _).out _⟩
theorem Tryz.fieldsKeyQ : Tryz.prog.underlying 24 = some (.struct (Tryz.prog.fieldsOf 24)) := by kernel_rfl
theorem Tryz.heldKeyQ : Tryz.prog.stoodInHeld 24 = false := by kernel_rfl
theorem run_eqKey (a b c : ByteArray) (w : World) : (binOp .eql 24 (.agg #[.string a, .string b, .string c]) (.agg #[.string a, .string b, .string c])).run Tryz.prog w = .ok (.bool true) w := by
  rw [run_eql_struct, run_equalIn_agg w 9999 _ _ _ Tryz.fieldsKeyQ Tryz.heldKeyQ]
  simp [Op.eqFields, Program.fieldsOf, Tryz.underlying24]
  go_simp
set_option maxRecDepth 100000 in
set_option maxHeartbeats 3200000 in
theorem sameObj_yes (o : GObject) (v1 v2 v3 z1 z2 z3 : Value) (w : World) (hl : RowAt LabelR 2 w v1 o.labels) (ho : StrAt w v2 o.owners) (hh : StrAt w v3 o.holds) (kl : RowAt LabelR 2 w z1 o.labels) (ko : StrAt w z2 o.owners) (kh : StrAt w z3 o.holds) (hok : OkObj o) :
    Calls Tryz.prog 19 #[objW o v1 v2 v3, objW o z1 z2 z3] w fun e w' => e = .returned (.bool true) ∧ Below w.heap.size w w' := by
  obtain ⟨a1, c1, rfl, -, -⟩ := hl.len
  obtain ⟨a2, c2, rfl, -, -⟩ := ho.row.len
  obtain ⟨a3, c3, rfl, -, -⟩ := hh.row.len
  obtain ⟨b1, d1, rfl, -, -⟩ := kl.len
  obtain ⟨b2, d2, rfl, -, -⟩ := ko.row.len
  obtain ⟨b3, d3, rfl, -, -⟩ := kh.row.len
  obtain ⟨n1, Hn1⟩ : ∃ n, Hid (o.labels.length = n) := ⟨_, Lib.hid rfl⟩
  obtain ⟨n2, Hn2⟩ : ∃ n, Hid (o.owners.length = n) := ⟨_, Lib.hid rfl⟩
  obtain ⟨n3, Hn3⟩ : ∃ n, Hid (o.holds.length = n) := ⟨_, Lib.hid rfl⟩
  rw [Hn1.out] at hl kl ⊢
  rw [Hn2.out] at ho ko ⊢
  rw [Hn3.out] at hh kh ⊢
  have bl := hok.labels.1
  have bo := hok.owners.1
  have bh := hok.holds.1
  obtain ⟨w1, hw1⟩ : ∃ w1, w1 = (w.alloc (.cells #[.string o.okey.kind, .string o.okey.space, .string o.okey.name, .slice a1 n1 c1, .slice a2 n2 c2, .slice a3 n3 c3, .bool o.ending, .string o.uid, .int .i64 o.rev, .string o.doc] 30)).alloc (.cells #[.string o.okey.kind, .string o.okey.space, .string o.okey.name, .slice b1 n1 d1, .slice b2 n2 d2, .slice b3 n3 d3, .bool o.ending, .string o.uid, .int .i64 o.rev, .string o.doc] 30) := ⟨_, rfl⟩
  obtain ⟨ga, hga⟩ : ∃ ga, ga = w.heap.size := ⟨_, rfl⟩
  obtain ⟨gb, hgb⟩ : ∃ gb, gb = w.heap.size + 1 := ⟨_, rfl⟩
  have XA : Hid (w1.heap[ga]? = some (.cells #[.string o.okey.kind, .string o.okey.space, .string o.okey.name, .slice a1 n1 c1, .slice a2 n2 c2, .slice a3 n3 c3, .bool o.ending, .string o.uid, .int .i64 o.rev, .string o.doc] 30 (0, 0))) := Lib.hid (by rw [hw1, hga]; exact heap_alloc_old (heap_alloc_new w _))
  have XB : Hid (w1.heap[gb]? = some (.cells #[.string o.okey.kind, .string o.okey.space, .string o.okey.name, .slice b1 n1 d1, .slice b2 n2 d2, .slice b3 n3 d3, .bool o.ending, .string o.uid, .int .i64 o.rev, .string o.doc] 30 (0, 0))) := Lib.hid (by rw [hw1, hgb]; exact heap_alloc_at (World.size_alloc _ _).symm)
  have hb1 : Below w.heap.size w w1 := by rw [hw1]; exact ((Below.refl _ w).alloc (Nat.le_refl _) _).alloc (by rw [World.size_alloc]; omega) _
  have HB := Lib.hid hb1
  have E1 := fun w' (hb : Below w1.heap.size w1 w') => Lib.hid (eqLab_yes (.slice a1 n1 c1) (.slice b1 n1 d1) o.labels w' (hl.below stays_label (hb1.trans (hb.mono hb1.size))) (kl.below stays_label (hb1.trans (hb.mono hb1.size))) bl)
  have E2 : ∀ w', Below w1.heap.size w1 w' → Hid (Calls Tryz.prog 59 #[.slice a2 n2 c2, .slice b2 n2 d2] w' fun e w'' => e = .returned (.bool true) ∧ w' = w'') := fun w' hb => Lib.hid (by
    have h9 := eqStrs_any (.slice a2 n2 c2) (.slice b2 n2 d2) o.owners o.owners w' (ho.below (hb1.trans (hb.mono hb1.size))) (ko.below (hb1.trans (hb.mono hb1.size))) (by omega) (by omega)
    rw [decide_eq_true rfl] at h9; exact h9)
  have E3 : ∀ w', Below w1.heap.size w1 w' → Hid (Calls Tryz.prog 59 #[.slice a3 n3 c3, .slice b3 n3 d3] w' fun e w'' => e = .returned (.bool true) ∧ w' = w'') := fun w' hb => Lib.hid (by
    have h9 := eqStrs_any (.slice a3 n3 c3) (.slice b3 n3 d3) o.holds o.holds w' (hh.below (hb1.trans (hb.mono hb1.size))) (kh.below (hb1.trans (hb.mono hb1.size))) (by omega) (by omega)
    rw [decide_eq_true rfl] at h9; exact h9)
  have hk := run_eqKey o.okey.kind o.okey.space o.okey.name
  clear hl ho hh kl ko kh hok bl bo bh hb1
  rw [show objW o (.slice a1 n1 c1) (.slice a2 n2 c2) (.slice a3 n3 c3) = .agg #[.string o.okey.kind, .string o.okey.space, .string o.okey.name, .slice a1 n1 c1, .slice a2 n2 c2, .slice a3 n3 c3, .bool o.ending, .string o.uid, .int .i64 o.rev, .string o.doc] from rfl, show objW o (.slice b1 n1 d1) (.slice b2 n2 d2) (.slice b3 n3 d3) = .agg #[.string o.okey.kind, .string o.okey.space, .string o.okey.name, .slice b1 n1 d1, .slice b2 n2 d2, .slice b3 n3 d3, .bool o.ending, .string o.uid, .int .i64 o.rev, .string o.doc] from rfl]
  go_enter Tryz.func19, Tryz.ntmps19
  go_upto_region 1 with fail
  rw [← hw1]
  try rw [← hgb]
  rw [← hga]
  clear hw1 hga hgb
  have ca := fun i => cell_block XA.out i
  have cb := fun i => cell_block XB.out i
  go_wp2_with fail
  refine (E1 w1 (Below.refl _ _)).out.mono ?_
  rintro E w2 ⟨rfl, hb2⟩
  have A2 := Lib.hid (below_block hb2 XA.out)
  have B2 := Lib.hid (below_block hb2 XB.out)
  have HB2 := Lib.hid (HB.out.trans (hb2.mono HB.out.size))
  have F2 := E2 w2 hb2
  have F3 := E3 w2 hb2
  clear hb2 ca cb E1 E2 E3 XA XB HB
  have ca := fun i => cell_block A2.out i
  have cb := fun i => cell_block B2.out i
  go_wp2_with fail
  refine F2.out.mono ?_
  rintro E w3 ⟨rfl, hw3⟩
  subst hw3
  go_wp2_with fail
  refine F3.out.mono ?_
  rintro E w3 ⟨rfl, hw3⟩
  subst hw3
  go_wp2_with fail
  go_ret
  exact ⟨rfl, HB2.out⟩
end Sto
end Go.Proofs.YtnnceaapodgfbaaGreatDoor
namespace Go.Proofs.YtnnceaapodgfbaaGreatDoor
namespace Sto
open Go.RowKit
theorem below_drew1' (w : World) : Below w.heap.size w w.drew := ⟨rfl, rfl, rfl, Nat.le_refl _, fun _ _ => rfl⟩
abbrev okObjS (x : GObject) : Prop := OkObj x
theorem sameObjS_yes (x : GObject) (y1 z1 y2 z2 y3 z3 : Value) (w : World) (hx : ObjectR w (objCs x y1 y2 y3) x) (hy : ObjectR w (objCs x z1 z2 z3) x) (ok : okObjS x) :
    Calls Tryz.prog 19 #[objW x y1 y2 y3, objW x z1 z2 z3] w fun e w' => e = .returned (.bool true) ∧ Below w.heap.size w w' := by
  obtain ⟨v1, v2, v3, hcs, p1, p2, p3, -⟩ := hx
  obtain ⟨u1, u2, u3, hdd, r1, r2, r3, -⟩ := hy
  unfold objCs at hcs hdd
  simp only [List.cons.injEq, and_true, true_and] at hcs hdd
  obtain ⟨rfl, rfl, rfl⟩ := hcs
  obtain ⟨rfl, rfl, rfl⟩ := hdd
  exact sameObj_yes x _ _ _ _ _ _ w p1 p2 p3 r1 r2 r3 ok
theorem run_sameObjS : ∀ (a : Array Value) (w : World), (callFunc 19 a).run Tryz.prog w = .ok (.enter 19 a) w := run_callFunc_body Tryz.func19 (by kernel_rfl) (by kernel_rfl)
set_option maxRecDepth 100000 in
set_option maxHeartbeats 3200000 in
theorem sameObjSs_yes (v1 v2 : Value) (l : List GObject) (w : World) (h1 : RowAt ObjectR 10 w v1 l) (h2 : RowAt ObjectR 10 w v2 l) (hl : l.length ≤ 8388608) (ok : ∀ r ∈ l, okObjS r) :
    Calls Tryz.prog 24 #[v1, v2, .func (.func 19) #[] #[]] w fun e w' => e = .returned (.bool true) ∧ Below w.heap.size w w' := by
  obtain ⟨a1, c1, rfl, _, _⟩ := h1.len
  obtain ⟨a2, c2, rfl, _, _⟩ := h2.len
  have H1 := Lib.hid h1
  have H2 := Lib.hid h2
  have Ok := Lib.hid ok
  obtain ⟨n, hn⟩ : ∃ n, l.length = n := ⟨_, rfl⟩
  rw [hn] at H1 H2 hl ⊢
  have Hn := Lib.hid hn
  clear h1 h2 ok hn
  have q1 : ((n : Int) != (n : Int)) = false := by rw [bne_eq_false_iff_eq]
  go_enter Tryz.func24, Tryz.ntmps24
  go_wp2_with fail
  clear q1
  go_loopg [15] n (fun g u15 wr => ∃ i : Nat, i + g = n ∧ u15 = .int .i64 (i : Int) ∧ Hid (Below w.heap.size w wr))
  case atStart => exact ⟨0, by omega, rfl, Lib.hid (Below.refl _ _)⟩
  case round =>
    obtain ⟨i, hig, rfl, Hbel⟩ := hrel
    cases gk with
    | zero =>
      obtain rfl : n = i := by omega
      go_wp2_with fail
      go_ret
      exact ⟨rfl, Hbel.out⟩
    | succ k =>
      have hil : i < n := by omega
      obtain ⟨x, hx⟩ : ∃ x, l[i]? = some x := ⟨l[i]'(by rw [Hn.out]; exact hil), List.getElem?_eq_getElem _⟩
      obtain ⟨b, o, c', hv, _, _, hbs, hcell⟩ := H1.out.form (by rw [Hn.out]; omega) (by omega)
      injection hv with u1 u2 u3
      subst u1
      clear u2 u3
      obtain ⟨b', o', c'', hv, _, _, hbs', hcell'⟩ := H2.out.form (by rw [Hn.out]; omega) (by omega)
      injection hv with u1 u2 u3
      subst u1
      clear u2 u3
      obtain ⟨ds, _, hcc, hR⟩ := hcell i x hx
      obtain ⟨es, _, hdd, hS⟩ := hcell' i x hx
      have SR := stays_object _ _ _ _ (keeps_below Hbel.out) hR
      have SS := stays_object _ _ _ _ (keeps_below Hbel.out) hS
      have SR2 := SR
      have SS2 := SS
      obtain ⟨y1, y2, y3, rfl, _⟩ := SR2
      obtain ⟨z1, z2, z3, rfl, _⟩ := SS2
      have e0 : wr.cell? ⟨b, o + i * 10, none⟩ = some (.string x.okey.kind) := (Hbel.out.cell (p := ⟨b, _, none⟩) hbs).trans (by simpa using hcc 0 _ rfl)
      have f0 : wr.cell? ⟨b', o' + i * 10, none⟩ = some (.string x.okey.kind) := (Hbel.out.cell (p := ⟨b', _, none⟩) hbs').trans (by simpa using hdd 0 _ rfl)
      have e1 : wr.cell? ⟨b, o + i * 10 + 1, none⟩ = some (.string x.okey.space) := (Hbel.out.cell (p := ⟨b, _, none⟩) hbs).trans (hcc 1 _ rfl)
      have f1 : wr.cell? ⟨b', o' + i * 10 + 1, none⟩ = some (.string x.okey.space) := (Hbel.out.cell (p := ⟨b', _, none⟩) hbs').trans (hdd 1 _ rfl)
      have e2 : wr.cell? ⟨b, o + i * 10 + 2, none⟩ = some (.string x.okey.name) := (Hbel.out.cell (p := ⟨b, _, none⟩) hbs).trans (hcc 2 _ rfl)
      have f2 : wr.cell? ⟨b', o' + i * 10 + 2, none⟩ = some (.string x.okey.name) := (Hbel.out.cell (p := ⟨b', _, none⟩) hbs').trans (hdd 2 _ rfl)
      have e3 : wr.cell? ⟨b, o + i * 10 + 3, none⟩ = some (y1) := (Hbel.out.cell (p := ⟨b, _, none⟩) hbs).trans (hcc 3 _ rfl)
      have f3 : wr.cell? ⟨b', o' + i * 10 + 3, none⟩ = some (z1) := (Hbel.out.cell (p := ⟨b', _, none⟩) hbs').trans (hdd 3 _ rfl)
      have e4 : wr.cell? ⟨b, o + i * 10 + 4, none⟩ = some (y2) := (Hbel.out.cell (p := ⟨b, _, none⟩) hbs).trans (hcc 4 _ rfl)
      have f4 : wr.cell? ⟨b', o' + i * 10 + 4, none⟩ = some (z2) := (Hbel.out.cell (p := ⟨b', _, none⟩) hbs').trans (hdd 4 _ rfl)
      have e5 : wr.cell? ⟨b, o + i * 10 + 5, none⟩ = some (y3) := (Hbel.out.cell (p := ⟨b, _, none⟩) hbs).trans (hcc 5 _ rfl)
      have f5 : wr.cell? ⟨b', o' + i * 10 + 5, none⟩ = some (z3) := (Hbel.out.cell (p := ⟨b', _, none⟩) hbs').trans (hdd 5 _ rfl)
      have e6 : wr.cell? ⟨b, o + i * 10 + 6, none⟩ = some (.bool x.ending) := (Hbel.out.cell (p := ⟨b, _, none⟩) hbs).trans (hcc 6 _ rfl)
      have f6 : wr.cell? ⟨b', o' + i * 10 + 6, none⟩ = some (.bool x.ending) := (Hbel.out.cell (p := ⟨b', _, none⟩) hbs').trans (hdd 6 _ rfl)
      have e7 : wr.cell? ⟨b, o + i * 10 + 7, none⟩ = some (.string x.uid) := (Hbel.out.cell (p := ⟨b, _, none⟩) hbs).trans (hcc 7 _ rfl)
      have f7 : wr.cell? ⟨b', o' + i * 10 + 7, none⟩ = some (.string x.uid) := (Hbel.out.cell (p := ⟨b', _, none⟩) hbs').trans (hdd 7 _ rfl)
      have e8 : wr.cell? ⟨b, o + i * 10 + 8, none⟩ = some (.int .i64 x.rev) := (Hbel.out.cell (p := ⟨b, _, none⟩) hbs).trans (hcc 8 _ rfl)
      have f8 : wr.cell? ⟨b', o' + i * 10 + 8, none⟩ = some (.int .i64 x.rev) := (Hbel.out.cell (p := ⟨b', _, none⟩) hbs').trans (hdd 8 _ rfl)
      have e9 : wr.cell? ⟨b, o + i * 10 + 9, none⟩ = some (.string x.doc) := (Hbel.out.cell (p := ⟨b, _, none⟩) hbs).trans (hcc 9 _ rfl)
      have f9 : wr.cell? ⟨b', o' + i * 10 + 9, none⟩ = some (.string x.doc) := (Hbel.out.cell (p := ⟨b', _, none⟩) hbs').trans (hdd 9 _ rfl)
      have q1 : (0 : Int) ≤ (i : Int) := by omega
      have q2 : (i : Int) < (n : Int) := by omega
      have hb0 : b < wr.heap.size := Nat.lt_of_lt_of_le hbs Hbel.out.size
      have hb1 : b' < wr.heap.size := Nat.lt_of_lt_of_le hbs' Hbel.out.size
      have hokx := Ok.out x (List.mem_of_getElem? hx)
      have HC : Hid (∀ w', Below wr.heap.size wr w' → Calls Tryz.prog 19 #[.agg #[.string x.okey.kind, .string x.okey.space, .string x.okey.name, y1, y2, y3, .bool x.ending, .string x.uid, .int .i64 x.rev, .string x.doc], .agg #[.string x.okey.kind, .string x.okey.space, .string x.okey.name, z1, z2, z3, .bool x.ending, .string x.uid, .int .i64 x.rev, .string x.doc]] w' fun e w'' => e = .returned (.bool true) ∧ Below wr.heap.size wr w'') := Lib.hid fun w' hb' => by
        refine (sameObjS_yes x y1 z1 y2 z2 y3 z3 w' (stays_object _ _ _ _ (keeps_below hb') SR) (stays_object _ _ _ _ (keeps_below hb') SS) hokx).mono ?_
        rintro E w'' ⟨rfl, hb''⟩
        exact ⟨rfl, hb'.trans (hb''.mono hb'.size)⟩
      clear hcell hcell' hx hcc hdd hR hS SR SS hokx hbs hbs'
      go_upto_region 6 with fail
      refine wp_region_hold 10 (fun w' => Below wr.heap.size wr w') (by kernel_rfl) (by kernel_rfl) ?_ ?_
      · exact below_drew1' wr
      simp only [List.take_succ_cons, List.take_zero, List.drop_succ_cons, List.drop_zero]
      (first | (refine wpHold_pure (v := ?_) (by rfl) (fun w => ?_) ?_; rotate_left; focus (first | (go_simp; done) | (go_simp; with_reducible rfl))) | (refine wpHold_skip ?_ ?_; focus (go_simp; done)) | (refine wpHold_pure' (v := ?_) ?_ (fun w => ?_) ?_; rotate_left; focus (go_simp; done); focus (first | (go_simp; done) | (go_simp; with_reducible rfl)))); try simp only [Act.put, List.setIfInBounds_toArray, List.set_cons_zero, List.set_cons_succ]
      (first | (refine wpHold_pure (v := ?_) (by rfl) (fun w => ?_) ?_; rotate_left; focus (first | (go_simp; done) | (go_simp; with_reducible rfl))) | (refine wpHold_skip ?_ ?_; focus (go_simp; done)) | (refine wpHold_pure' (v := ?_) ?_ (fun w => ?_) ?_; rotate_left; focus (go_simp; done); focus (first | (go_simp; done) | (go_simp; with_reducible rfl)))); try simp only [Act.put, List.setIfInBounds_toArray, List.set_cons_zero, List.set_cons_succ]
      (first | (refine wpHold_pure (v := ?_) (by rfl) (fun w => ?_) ?_; rotate_left; focus (first | (go_simp; done) | (go_simp; with_reducible rfl))) | (refine wpHold_skip ?_ ?_; focus (go_simp; done)) | (refine wpHold_pure' (v := ?_) ?_ (fun w => ?_) ?_; rotate_left; focus (go_simp; done); focus (first | (go_simp; done) | (go_simp; with_reducible rfl)))); try simp only [Act.put, List.setIfInBounds_toArray, List.set_cons_zero, List.set_cons_succ]
      refine wpHold_pure (v := .pointer (some ⟨b, o + i * 10, none⟩)) (by rfl) (fun w' => ?_) ?_
      · go_simp
        done
      try simp only [Act.put, List.setIfInBounds_toArray, List.set_cons_zero, List.set_cons_succ]
      refine wpHold_read (v := .agg #[.string x.okey.kind, .string x.okey.space, .string x.okey.name, y1, y2, y3, .bool x.ending, .string x.uid, .int .i64 x.rev, .string x.doc]) (by rfl) (fun w' hI => ?_) ?_
      · have d0 := (hI.cell (p := ⟨b, o + i * 10, none⟩) hb0).trans e0
        have d1 := (hI.cell (p := ⟨b, o + i * 10 + 1, none⟩) hb0).trans e1
        have d2 := (hI.cell (p := ⟨b, o + i * 10 + 2, none⟩) hb0).trans e2
        have d3 := (hI.cell (p := ⟨b, o + i * 10 + 3, none⟩) hb0).trans e3
        have d4 := (hI.cell (p := ⟨b, o + i * 10 + 4, none⟩) hb0).trans e4
        have d5 := (hI.cell (p := ⟨b, o + i * 10 + 5, none⟩) hb0).trans e5
        have d6 := (hI.cell (p := ⟨b, o + i * 10 + 6, none⟩) hb0).trans e6
        have d7 := (hI.cell (p := ⟨b, o + i * 10 + 7, none⟩) hb0).trans e7
        have d8 := (hI.cell (p := ⟨b, o + i * 10 + 8, none⟩) hb0).trans e8
        have d9 := (hI.cell (p := ⟨b, o + i * 10 + 9, none⟩) hb0).trans e9
        go_simp
        done
      try simp only [Act.put, List.setIfInBounds_toArray, List.set_cons_zero, List.set_cons_succ]
      (first | (refine wpHold_pure (v := ?_) (by rfl) (fun w => ?_) ?_; rotate_left; focus (first | (go_simp; done) | (go_simp; with_reducible rfl))) | (refine wpHold_skip ?_ ?_; focus (go_simp; done)) | (refine wpHold_pure' (v := ?_) ?_ (fun w => ?_) ?_; rotate_left; focus (go_simp; done); focus (first | (go_simp; done) | (go_simp; with_reducible rfl)))); try simp only [Act.put, List.setIfInBounds_toArray, List.set_cons_zero, List.set_cons_succ]
      (first | (refine wpHold_pure (v := ?_) (by rfl) (fun w => ?_) ?_; rotate_left; focus (first | (go_simp; done) | (go_simp; with_reducible rfl))) | (refine wpHold_skip ?_ ?_; focus (go_simp; done)) | (refine wpHold_pure' (v := ?_) ?_ (fun w => ?_) ?_; rotate_left; focus (go_simp; done); focus (first | (go_simp; done) | (go_simp; with_reducible rfl)))); try simp only [Act.put, List.setIfInBounds_toArray, List.set_cons_zero, List.set_cons_succ]
      refine wpHold_pure (v := .pointer (some ⟨b', o' + i * 10, none⟩)) (by rfl) (fun w' => ?_) ?_
      · go_simp
        done
      try simp only [Act.put, List.setIfInBounds_toArray, List.set_cons_zero, List.set_cons_succ]
      refine wpHold_read (v := .agg #[.string x.okey.kind, .string x.okey.space, .string x.okey.name, z1, z2, z3, .bool x.ending, .string x.uid, .int .i64 x.rev, .string x.doc]) (by rfl) (fun w' hI => ?_) ?_
      · have d0 := (hI.cell (p := ⟨b', o' + i * 10, none⟩) hb1).trans f0
        have d1 := (hI.cell (p := ⟨b', o' + i * 10 + 1, none⟩) hb1).trans f1
        have d2 := (hI.cell (p := ⟨b', o' + i * 10 + 2, none⟩) hb1).trans f2
        have d3 := (hI.cell (p := ⟨b', o' + i * 10 + 3, none⟩) hb1).trans f3
        have d4 := (hI.cell (p := ⟨b', o' + i * 10 + 4, none⟩) hb1).trans f4
        have d5 := (hI.cell (p := ⟨b', o' + i * 10 + 5, none⟩) hb1).trans f5
        have d6 := (hI.cell (p := ⟨b', o' + i * 10 + 6, none⟩) hb1).trans f6
        have d7 := (hI.cell (p := ⟨b', o' + i * 10 + 7, none⟩) hb1).trans f7
        have d8 := (hI.cell (p := ⟨b', o' + i * 10 + 8, none⟩) hb1).trans f8
        have d9 := (hI.cell (p := ⟨b', o' + i * 10 + 9, none⟩) hb1).trans f9
        go_simp
        done
      try simp only [Act.put, List.setIfInBounds_toArray, List.set_cons_zero, List.set_cons_succ]
      refine wpHold_call (v := .bool true) (f := 19) (args := #[.agg #[.string x.okey.kind, .string x.okey.space, .string x.okey.name, y1, y2, y3, .bool x.ending, .string x.uid, .int .i64 x.rev, .string x.doc], .agg #[.string x.okey.kind, .string x.okey.space, .string x.okey.name, z1, z2, z3, .bool x.ending, .string x.uid, .int .i64 x.rev, .string x.doc]]) (by rfl) (fun w' => ?_) (fun w' hI => HC.out w' hI) ?_
      · simp only [run_sameObjS, go_sem]
        go_simp
        done
      try simp only [Act.put, List.setIfInBounds_toArray, List.set_cons_zero, List.set_cons_succ]
      refine wpHold_nil ?_
      intro w' hI
      have Hb' := Lib.hid (Hbel.out.trans (hI.mono Hbel.out.size))
      clear hI e0 f0 e1 f1 e2 f2 e3 f3 e4 f4 e5 f5 e6 f6 e7 f7 e8 f8 e9 f9 HC
      go_wp2_with fail
      go_roundg k
      case measure => omega
      case rel => exact ⟨i + 1, by omega, by go_num, Hb'⟩
theorem objs_row {D : Dom} {w : World} {T : TypeId} {v : Value} {l : List GObject} (h : OwnX ObjX 10 D w T v l) (hok : ∀ o ∈ l, OkObj o) : RowAt ObjectR 10 w v l := by
  have h1 : OwnAt ObjectR 10 w 0 T v l := h.1.imp' fun cs x hx ⟨v1, v2, v3, e, hi⟩ => ⟨v1, v2, v3, e, hi.rowL, hi.rowO, hi.rowH, (hok x hx).rev⟩
  exact h1.row
end Sto
end Go.Proofs.YtnnceaapodgfbaaGreatDoor
namespace Go.Proofs.YtnnceaapodgfbaaGreatDoor
namespace Sto
open Go.RowKit
theorem okObj_list {S : St} (h : OkSt S) {kind space : ByteArray} {r : Int} {a : List GObject} (ha : ListTold S kind space r a) : ∀ o ∈ a, OkObj o := fun o ho => by
  by_cases he : listE S kind space r = 0
  · obtain ⟨-, hc⟩ := ((ha.2 he).2 o).1 ho
    obtain ⟨e, h1, h2⟩ := cur_mem hc
    exact h2 ▸ h.obj e (List.mem_of_mem_take h1)
  · rw [ha.1 he] at ho; cases ho
theorem list_short {S : St} (h : OkSt S) {kind space : ByteArray} {r : Int} {a : List GObject} (ha : ListTold S kind space r a) : a.length ≤ 4194304 := by
  by_cases he : listE S kind space r = 0
  · have h1 := ha.2 he
    have hn : (a.map (·.okey)).Nodup := by
      rw [List.nodup_iff_pairwise_ne, List.pairwise_map]
      refine h1.1.imp_of_mem fun {x y} hx hy hxy hk => ?_
      have h2 : x = y := by
        have e1 := ((h1.2 x).1 hx).2
        have e2 := ((h1.2 y).1 hy).2
        rw [hk, e2] at e1; cases e1; rfl
      subst h2
      exact ahead_irrefl _ hxy
    have h2 := live_keys (h.good.fit (timeT S r) (timeT_le S r)) (a.map (·.okey)) hn fun k hk => by
      obtain ⟨o, ho, rfl⟩ := List.mem_map.1 hk
      rw [((h1.2 o).1 ho).2]; rfl
    have h3 := live_le (S.log.take (timeT S r))
    rw [List.length_take] at h3
    rw [List.length_map] at h2
    have := h.rev
    unfold St.rev at this
    omega
  · rw [ha.1 he]; exact Nat.zero_le _
end Sto
end Go.Proofs.YtnnceaapodgfbaaGreatDoor
namespace Go.Proofs.YtnnceaapodgfbaaGreatDoor
namespace Sto
open Go.RowKit
structure Seen (log : List GEvent) (kinds : List ByteArray) (A : List GObject) : Prop where
  keys : (A.map (·.okey)).Nodup
  here : ∀ o ∈ A, cur log o.okey = some o
  kind : ∀ o ∈ A, o.okey.kind ∈ kinds
section
variable {log : List GEvent} {ks ks' : List ByteArray} {A B L : List GObject} {kind : ByteArray}
theorem data_inj {a b : ByteArray} (h : a.data.toList = b.data.toList) : a = b := ByteArray.ext (Array.toList_inj.1 h)
theorem Seen.nil : Seen log ks [] := ⟨List.nodup_nil, (fun _ h => by cases h), (fun _ h => by cases h)⟩
theorem Seen.mono (h : Seen log ks A) (hk : ∀ k ∈ ks, k ∈ ks') : Seen log ks' A := ⟨h.keys, h.here, fun o ho => hk _ (h.kind o ho)⟩
theorem list_keys {space : ByteArray} (h : IsList log kind space L) : (L.map (·.okey)).Nodup := by
  rw [List.nodup_iff_pairwise_ne, List.pairwise_map]
  refine h.1.imp_of_mem fun {x y} hx hy hxy hk => ?_
  have h2 : x = y := by
    have e1 := ((h.2 x).1 hx).2
    have e2 := ((h.2 y).1 hy).2
    rw [hk, e2] at e1; cases e1; rfl
  subst h2
  exact ahead_irrefl _ hxy
theorem Seen.add (h : Seen log ks A) (hn : kind ∉ ks) (hL : IsList log kind ByteArray.empty L) : Seen log (ks ++ [kind]) (A ++ L) := by
  refine ⟨?_, fun o ho => ?_, fun o ho => ?_⟩
  · rw [List.map_append, List.nodup_append]
    refine ⟨h.keys, list_keys hL, fun a ha b hb e => ?_⟩
    obtain ⟨x, hx, rfl⟩ := List.mem_map.1 ha
    obtain ⟨y, hy, rfl⟩ := List.mem_map.1 hb
    have h1 := h.kind x hx
    rw [e, ((hL.2 y).1 hy).1.1] at h1
    exact hn h1
  · rcases List.mem_append.1 ho with ho | ho
    · exact h.here o ho
    · exact ((hL.2 o).1 ho).2
  · rcases List.mem_append.1 ho with ho | ho
    · exact List.mem_append_left _ (h.kind o ho)
    · rw [((hL.2 o).1 ho).1.1]; exact List.mem_append_right _ (List.mem_singleton_self _)
end
end Sto
end Go.Proofs.YtnnceaapodgfbaaGreatDoor
namespace Go.Proofs.YtnnceaapodgfbaaGreatDoor
open Go.RowKit
end Go.Proofs.YtnnceaapodgfbaaGreatDoor
namespace Go.Proofs.YtnnceaapodgfbaaGreatDoor
namespace Sto
open Go.RowKit
theorem obj_cells {I : Dom} {w w' : World} {va : Option Addr} {vn vc : Nat} {vs : List GObject} (h : RowAt (ObjX I w) 10 w (.slice va vn vc) vs) (hn : vs.length = vn) (hb : Below w.heap.size w w') {m : Nat} {e : GObject} (he : vs[m]? = some e) :
    ∃ b o v1 v2 v3, va = some ⟨b, o, none⟩ ∧ ObjIn I w v1 v2 v3 e ∧ ∀ i u, (objCs e v1 v2 v3)[i]? = some u → w'.cell? ⟨b, o + m * 10 + i, none⟩ = some u := by
  have hm := (List.getElem?_eq_some_iff.1 he).1
  obtain ⟨b, o, c', hv, _, _, hbs, hcell⟩ := h.form (by omega) (by omega)
  injection hv with u1 u2 u3
  obtain ⟨ds, _, hcc, v1, v2, v3, rfl, hobj⟩ := hcell m e he
  exact ⟨b, o, v1, v2, v3, u1, hobj, fun i u hu => (hb.cell (p := ⟨b, _, none⟩) hbs).trans (hcc i u hu)⟩
theorem row_takeS {α : Type} {R : Rd α} {k : Nat} {w : World} {ao : Option Addr} {n c : Nat} {l : List α} (h : RowAt R k w (.slice ao n c) l) {i : Nat} (hi : i ≤ l.length) : RowAt R k w (.slice ao i c) (l.take i) := by
  rcases h with ⟨h1, rfl⟩ | ⟨a, c', h1, h2, h3, h4⟩
  · cases h1
    obtain rfl : i = 0 := by simpa using hi
    exact .inl ⟨rfl, by simp⟩
  · injection h1 with u1 u2 u3
    subst u1 u3
    have hlen : (l.take i).length = i := by rw [List.length_take]; omega
    refine .inr ⟨a, c, by rw [hlen], by omega, h3, fun j x hx => ?_⟩
    have hj : j < i := by have := (List.getElem?_eq_some_iff.1 hx).1; omega
    rw [List.getElem?_take_of_lt hj] at hx
    exact h4 j x hx
end Sto
end Go.Proofs.YtnnceaapodgfbaaGreatDoor
namespace Go.Proofs.YtnnceaapodgfbaaGreatDoor
namespace Sto
open Go.RowKit Pag
open JP (Bs)
def moreB (mk ms : ByteArray) (most rev : Nat) (L : List GObject) : Bs := if most < L.length then (match L[most - 1]? with | some o => markB ⟨mk, ms, most, rev, o.okey.space, o.okey.name⟩ | none => []) else []
theorem Tryz.sizePage : (Tryz.prog.info? 73).map (·.size) = some 3 := by kernel_rfl
theorem Tryz.sizeKeyP : (Tryz.prog.info? 24).map (·.size) = some 3 := by kernel_rfl
set_option maxRecDepth 100000 in
set_option maxHeartbeats 6400000 in
theorem page_any {E : Dom} {w : World} {v : Value} {L : List GObject} (h : OwnX ObjX 10 E w 30 v L) (hE : ∀ b, E b → b < w.heap.size) (hn : L.length ≤ 4194304) (okL : ∀ o ∈ L, OkObj o) (mk ms lk ls ln : ByteArray) (most rev : Nat) (h1 : 1 ≤ most) (h2 : most ≤ 50) (h3 : rev ≤ 4194304) (hz : mk.size ≤ 1048576 ∧ ms.size ≤ 1048576) (ht : TabOK w) :
    Calls Tryz.prog 70 #[v, .agg #[.string mk, .string ms, .int .i64 most, .int .i64 rev, .string lk, .string ls, .string ln]] w fun e w' => Below w.heap.size w w' ∧ ∃ E' v', e = .returned (.agg #[v', .int .i64 rev, .string (mkB (moreB mk ms most rev L))]) ∧ OwnX ObjX 10 E' w' 30 v' (L.take most) ∧ ∀ b, E' b → E b ∨ (w.heap.size ≤ b ∧ b < w'.heap.size) := by
  obtain ⟨aL, cL, rfl, hlc, -⟩ := h.own.row.len
  obtain ⟨nL, HnL⟩ : ∃ n, Hid (L.length = n) := ⟨_, Lib.hid rfl⟩
  rw [HnL.out] at h hn hlc ⊢
  have H := Lib.hid h
  have HE := Lib.hid hE
  have Hok := Lib.hid okL
  have HT := Lib.hid ht
  obtain ⟨W, hW⟩ : ∃ W, W = (w.alloc (.cells #[.string mk, .string ms, .int .i64 most, .int .i64 rev, .string lk, .string ls, .string ln] 139)).alloc (.cells #[.slice none 0 0, .int .i64 0, .string { data := #[] }] 73) := ⟨_, rfl⟩
  obtain ⟨gm, hgm⟩ : ∃ g, g = w.heap.size := ⟨_, rfl⟩
  obtain ⟨gr, hgr⟩ : ∃ g, g = w.heap.size + 1 := ⟨_, rfl⟩
  have BM := Lib.hid (show W.heap[gm]? = some (.cells #[.string mk, .string ms, .int .i64 most, .int .i64 rev, .string lk, .string ls, .string ln] 139 (0, 0)) by rw [hW, hgm]; exact heap_alloc_old (heap_alloc_new w _))
  have BR := Lib.hid (show W.heap[gr]? = some (.cells #[.slice none 0 0, .int .i64 0, .string { data := #[] }] 73 (0, 0)) by rw [hW, hgr]; exact heap_alloc_at (World.size_alloc _ _).symm)
  have hb1 : Below w.heap.size w W := by rw [hW]; exact ((Below.refl _ w).alloc (Nat.le_refl _) _).alloc (by rw [World.size_alloc]; omega) _
  have hs1 : W.heap.size = w.heap.size + 2 := by rw [hW, World.size_alloc, World.size_alloc]
  have HB1 := Lib.hid hb1
  have hwm : w.heap.size ≤ gm := by omega
  have hwr : w.heap.size ≤ gr := by omega
  have hmr : gm ≠ gr := by omega
  have hrl : gr < W.heap.size := by omega
  have hml : gm < W.heap.size := by omega
  have hMb : Hid (moreB mk ms most rev L = if most < nL then (match L[most - 1]? with | some o => markB ⟨mk, ms, most, rev, o.okey.space, o.okey.name⟩ | none => []) else []) := Lib.hid (by unfold moreB; rw [HnL.out])
  obtain ⟨MB, HMB⟩ : ∃ x, Hid (moreB mk ms most rev L = x) := ⟨_, Lib.hid rfl⟩
  rw [HMB.out] at hMb ⊢
  clear h hE okL ht hb1
  go_enter Tryz.func70, Tryz.ntmps70
  go_upto_region 1 with fail
  have hex : ((w.alloc (.cells #[.string mk, .string ms, .int .i64 most, .int .i64 rev, .string lk, .string ls, .string ln] 139)).alloc (.cells #[.slice none 0 0, .int .i64 0, .string { data := #[] }] 73)) = W := hW.symm
  rw [hex]
  try rw [← hgr]
  rw [← hgm]
  clear hW hex hgm hgr hs1
  have cm := fun i => cell_block BM.out i
  have h7 := Lib.hid (heap_alloc_new W (.cells #[.slice none 0 0, .int .i64 0, .string { data := #[] }] 73))
  have h4 := Lib.hid ((Below.refl W.heap.size W).alloc (Nat.le_refl _) (.cells #[.slice none 0 0, .int .i64 0, .string { data := #[] }] 73))
  have h9 : Hid ((W.alloc (.cells #[.slice none 0 0, .int .i64 0, .string { data := #[] }] 73)).heap.size = W.heap.size + 1) := Lib.hid (World.size_alloc _ _)
  go_wp2_with (refine wpList_store_box (by rfl) _ _ _ (by rfl) W.heap.size #[.slice aL nL cL, .int .i64 rev, .string { data := #[] }] (by rfl) (by rfl) _ _ (by exact h7.out) (by exact Tryz.sizePage) (by rfl) (by simp [Value.oneCell']) ?_)
  intro w2 b2 t2
  obtain ⟨gp, hgp⟩ : ∃ g, W.heap.size = g := ⟨_, rfl⟩
  have hb2 := t2.below h4.out (Nat.le_refl _)
  have hs2 : w2.heap.size = W.heap.size + 1 := t2.size.trans h9.out
  rw [hgp] at b2 hs2 hrl hml ⊢
  have BP := Lib.hid b2
  have BM2 := Lib.hid (below_block hb2 BM.out)
  have BR2 := Lib.hid (below_block hb2 BR.out)
  have HB2 := Lib.hid (HB1.out.trans (hb2.mono HB1.out.size))
  have hpl : gp < w2.heap.size := by omega
  clear b2 t2 hb2 h7 h4 h9 BM BR HB1 cm hgp hs2
  have cm := fun i => cell_block BM2.out i
  by_cases hlt : most < nL
  · have q0 : decide (most < nL) = true := decide_eq_true hlt
    obtain ⟨x, hx⟩ : ∃ x, L[most - 1]? = some x := ⟨L[most - 1]'(by rw [HnL.out]; omega), List.getElem?_eq_getElem _⟩
    have Hm : Hid (MB = markB ⟨mk, ms, most, rev, x.okey.space, x.okey.name⟩) := Lib.hid (by rw [hMb.out, if_pos hlt, hx])
    obtain ⟨bx, ox, v1, v2, v3, hva, hobj, ec⟩ := obj_cells H.out.own.row HnL.out HB2.out hx
    subst hva
    obtain ⟨a7, c7, rfl, -, -⟩ := hobj.rowL.len
    obtain ⟨a8, c8, rfl, -, -⟩ := hobj.rowO.row.len
    obtain ⟨a9, c9, rfl, -, -⟩ := hobj.rowH.row.len
    have g0 := ec 0 _ rfl
    have g1 := ec 1 _ rfl
    have g2 := ec 2 _ rfl
    rw [Nat.add_zero] at g0
    have Hx : Hid (OkObj x) := Lib.hid (Hok.out x (List.mem_of_getElem? hx))
    have hbx : bx < w.heap.size := by
      obtain ⟨b', o', c', hv, _, _, hbs, hcell⟩ := H.out.own.row.form (by rw [HnL.out]; omega) (by omega)
      injection hv with u1 u2 u3
      injection u1 with u1
      injection u1 with u1 u4
      rw [u1]; exact hbs
    obtain ⟨q, hqa, hqb⟩ : ∃ q, q < most ∧ most ≤ q + 1 := ⟨most - 1, by omega, by omega⟩
    rw [show most - 1 = q by omega] at g0 g1 g2
    have G0 := Lib.hid g0
    have G1 := Lib.hid g1
    have G2 := Lib.hid g2
    have HTx := Lib.hid (HT.out.below HB2.out)
    have q1 : (0 : Int) ≤ (most : Int) := by omega
    have q2 : (most : Int) ≤ (cL : Int) := by omega
    have HCl := Lib.hid (cloneObjs_any (R := ObjX E w) (famObj.flat _ _) (famObj.one _ _) (.slice (some ⟨bx, ox, none⟩) most cL) (L.take most) w2 (row_takeS (H.out.own.row.below (famObj.flat E w).stays HB2.out) (by rw [HnL.out]; omega)) (by rw [List.length_take, HnL.out]; omega))
    clear hx ec hobj g0 g1 g2 hMb
    go_wp2_with fail
    refine HCl.out.mono ?_
    rintro E1 w3 ⟨v', rfl, hv', hb3⟩
    obtain ⟨av, cv, rfl, -, -⟩ := hv'.row.len
    obtain ⟨nv, Hnv⟩ : ∃ n, Hid ((L.take most).length = n) := ⟨_, Lib.hid rfl⟩
    rw [Hnv.out] at hv' ⊢
    have HV := Lib.hid hv'
    have BP3 := Lib.hid (below_block hb3 BP.out)
    have BM3 := Lib.hid (below_block hb3 BM2.out)
    have BR3 := Lib.hid (below_block hb3 BR2.out)
    have HB3 := Lib.hid (HB2.out.trans (hb3.mono HB2.out.size))
    have hs3 := hb3.size
    have hw2 := HB2.out.size
    have E0 := Lib.hid ((hb3.cell (p := ⟨bx, ox + q * 10, none⟩) (by show bx < _; omega)).trans G0.out)
    have E1' := Lib.hid ((hb3.cell (p := ⟨bx, ox + q * 10 + 1, none⟩) (by show bx < _; omega)).trans G1.out)
    have E2 := Lib.hid ((hb3.cell (p := ⟨bx, ox + q * 10 + 2, none⟩) (by show bx < _; omega)).trans G2.out)
    clear hv' hb3 HCl cm BP BM2 BR2 G0 G1 G2
    -- p.Objects
    have cp := fun i => cell_block BP3.out i
    have fp := fun i => free_block BP3.out i
    obtain ⟨w4, hw4⟩ : ∃ w9, w3.setCell ⟨gp, 0, none⟩ (.slice av nv cv) = w9 := ⟨_, rfl⟩
    have t4 := touch_setCell (i := 0) (v := .slice av nv cv) BP3.out
    rw [hw4] at t4
    have BP4 : Hid (w4.heap[gp]? = some (.cells #[.slice av nv cv, .int .i64 rev, .string { data := #[] }] 73 (0, 0))) := Lib.hid t4.1
    have BM4 := Lib.hid (t4.2.block BM3.out (by omega))
    have BR4 := Lib.hid (t4.2.block BR3.out (by omega))
    have HB4 := Lib.hid (t4.2.below HB3.out (by omega))
    have hs4 := t4.2.size
    have F0 : Hid (w4.cell? ⟨bx, ox + q * 10, none⟩ = some (.string x.okey.kind)) := Lib.hid ((by unfold World.cell?; rw [t4.2.other bx (by omega)] : w4.cell? ⟨bx, ox + q * 10, none⟩ = w3.cell? ⟨bx, ox + q * 10, none⟩).trans E0.out)
    have F1 : Hid (w4.cell? ⟨bx, ox + q * 10 + 1, none⟩ = some (.string x.okey.space)) := Lib.hid ((by unfold World.cell?; rw [t4.2.other bx (by omega)] : w4.cell? ⟨bx, ox + q * 10 + 1, none⟩ = w3.cell? ⟨bx, ox + q * 10 + 1, none⟩).trans E1'.out)
    have F2 : Hid (w4.cell? ⟨bx, ox + q * 10 + 2, none⟩ = some (.string x.okey.name)) := Lib.hid ((by unfold World.cell?; rw [t4.2.other bx (by omega)] : w4.cell? ⟨bx, ox + q * 10 + 2, none⟩ = w3.cell? ⟨bx, ox + q * 10 + 2, none⟩).trans E2.out)
    have HV4 : Hid (OwnAt (ObjX E w) 10 w4 w2.heap.size 30 (.slice av nv cv) (L.take most)) := Lib.hid (HV.out.stay (famObj.flat _ _) fun b hb => t4.2.other b (by have := (HV.out.at hb).1; omega))
    go_upto_region 4 with fail
    try rw [hw4]
    clear hw4 t4 cp fp BP3 BM3 BR3 HB3 E0 E1' E2 HV
    have f0 := F0.out
    have f1 := F1.out
    have f2 := F2.out
    have cm := fun i => cell_block BM4.out i
    have q3 : (0 : Int) ≤ (q : Int) := by omega
    have q4 : (q : Int) < (nL : Int) := by omega
    have q5 : IntKind.i64.wrap (q : Int) = (q : Int) := IntWalk.i64_in _ (by omega)
    have q6 : IntKind.i64.wrap ((most : Int) - 1) = (q : Int) := by rw [show (most : Int) - 1 = (q : Int) by omega]; exact q5
    go_wp2_with (refine wpList_store_part (by rfl) _ _ _ (by rfl) gm 4 #[.string x.okey.kind, .string x.okey.space, .string x.okey.name] (by rfl) (by rfl) _ #[.string mk, .string ms, .int .i64 most, .int .i64 rev, .string lk, .string ls, .string ln] (by exact BM4.out) (by exact Tryz.sizeKeyP) (by exact (by decide : 4 + 3 ≤ 7)) (by simp [Value.oneCell']) ?_; intro w5 b5 t5; have cm5 := fun i => cell_block (show w5.heap[gm]? = some (.cells #[.string mk, .string ms, .int .i64 most, .int .i64 rev, .string x.okey.kind, .string x.okey.space, .string x.okey.name] 139 (0, 0)) from b5) i)
    have HB5 := Lib.hid (t5.below HB4.out hwm)
    have BP5 := Lib.hid (t5.block BP4.out (by omega))
    have BR5 := Lib.hid (t5.block BR4.out (by omega))
    have hs5 := t5.size
    have HV5 : Hid (OwnAt (ObjX E w) 10 w5 w2.heap.size 30 (.slice av nv cv) (L.take most)) := Lib.hid (HV4.out.stay (famObj.flat _ _) fun b hb => t5.other b (by have := (HV4.out.at hb).1; omega))
    have HTt := Lib.hid (Pag.text_any ⟨mk, ms, most, rev, x.okey.space, x.okey.name⟩ x.okey.kind w5 h2 h3 ⟨hz.1, hz.2, Hx.out.space, Hx.out.name⟩ (HT.out.below HB5.out))
    rw [← Hm.out] at HTt
    clear b5 t5 BP4 BM4 BR4 HB4 HV4 f0 f1 f2 F0 F1 F2
    refine HTt.out.mono ?_
    rintro E6 w6 ⟨rfl, hb6⟩
    have BP6 := Lib.hid (below_block hb6 BP5.out)
    have BR6 := Lib.hid (below_block hb6 BR5.out)
    have HB6 := Lib.hid (HB5.out.trans (hb6.mono HB5.out.size))
    have hs6 := hb6.size
    have HV6 : Hid (OwnAt (ObjX E w) 10 w6 w2.heap.size 30 (.slice av nv cv) (L.take most)) := Lib.hid (HV5.out.stay (famObj.flat _ _) fun b hb => hb6.block b (HV5.out.at hb).2.1)
    clear hb6 BP5 BR5 HB5 HV5 cm cm5 HTt
    have cp := fun i => cell_block BP6.out i
    have fp := fun i => free_block BP6.out i
    obtain ⟨w7, hw7⟩ : ∃ w9, w6.setCell ⟨gp, 2, none⟩ (.string (mkB MB)) = w9 := ⟨_, rfl⟩
    have t7 := touch_setCell (i := 2) (v := .string (mkB MB)) BP6.out
    rw [hw7] at t7
    have BP7 : Hid (w7.heap[gp]? = some (.cells #[.slice av nv cv, .int .i64 rev, .string (mkB MB)] 73 (0, 0))) := Lib.hid t7.1
    have BR7 := Lib.hid (t7.2.block BR6.out (by omega))
    have HB7 := Lib.hid (t7.2.below HB6.out (by omega))
    have hs7 := t7.2.size
    have HV7 : Hid (OwnAt (ObjX E w) 10 w7 w2.heap.size 30 (.slice av nv cv) (L.take most)) := Lib.hid (HV6.out.stay (famObj.flat _ _) fun b hb => t7.2.other b (by have := (HV6.out.at hb).1; omega))
    go_upto_region 6 with fail
    try rw [hw7]
    clear hw7 t7 cp fp BP6 BR6 HB6 HV6
    have cp := fun i => cell_block BP7.out i
    go_wp2_with (refine wpList_store_box (by rfl) _ _ _ (by rfl) gr #[.slice av nv cv, .int .i64 rev, .string (mkB MB)] (by rfl) (by rfl) _ _ (by exact BR7.out) (by exact Tryz.sizePage) (by rfl) (by simp [Value.oneCell']) ?_)
    intro WF bF tF
    have HF := Lib.hid (tF.below HB7.out hwr)
    have hsF := tF.size
    have HVF : Hid (OwnAt (ObjX E w) 10 WF w2.heap.size 30 (.slice av nv cv) (L.take most)) := Lib.hid (HV7.out.stay (famObj.flat _ _) fun b hb => tF.other b (by have := (HV7.out.at hb).1; omega))
    go_wp2_with fail
    refine bodyPost_ret (v := .agg #[.slice av nv cv, .int .i64 rev, .string (mkB MB)]) ?_ rfl ?_
    · exact results_one_box Tryz.results70 _ _ gr _ _ _ _ (by rfl) bF Tryz.underlying73 rfl (by exact Tryz.sizePage)
    · refine ⟨HF.out, fun b => E b ∨ (w.heap.size ≤ b ∧ b < WF.heap.size), _, rfl, ⟨?_, fun b hb => .inr ⟨?_, (HVF.out.at hb).2.1⟩⟩, fun b hb => hb⟩
      · refine ((HVF.out.imp' fun cs y _ hy => ?_)).mono (Nat.zero_le _)
        exact famObj.mono _ _ _ _ _ _ (fun b hb => .inl hb) (famObj.agree _ _ _ _ _ _ (fun b hb => HF.out.block b (HE.out b hb)) hy)
      · have := (HVF.out.at hb).1
        have := HB2.out.size
        omega
  · have q0 : decide (most < nL) = false := decide_eq_false hlt
    have Hm : Hid (MB = []) := Lib.hid (by rw [hMb.out, if_neg hlt])
    have Htk : Hid (L.take most = L) := Lib.hid (List.take_of_length_le (by rw [HnL.out]; omega))
    have cp := fun i => cell_block BP.out i
    clear hlt
    go_wp2_with (refine wpList_store_box (by rfl) _ _ _ (by rfl) gr #[.slice aL nL cL, .int .i64 rev, .string { data := #[] }] (by rfl) (by rfl) _ _ (by exact BR2.out) (by exact Tryz.sizePage) (by rfl) (by simp [Value.oneCell']) ?_)
    intro WF bF tF
    have HF := Lib.hid (tF.below HB2.out hwr)
    go_wp2_with fail
    refine bodyPost_ret (v := .agg #[.slice aL nL cL, .int .i64 rev, .string { data := #[] }]) ?_ rfl ?_
    · exact results_one_box Tryz.results70 _ _ gr _ _ _ _ (by rfl) bF Tryz.underlying73 rfl (by exact Tryz.sizePage)
    · exact ⟨HF.out, E, _, by rw [Hm.out]; rfl, by rw [Htk.out]; exact H.out.agree famObj fun b hb => HF.out.block b (HE.out b hb), fun b hb => .inl hb⟩
end Sto
end Go.Proofs.YtnnceaapodgfbaaGreatDoor
