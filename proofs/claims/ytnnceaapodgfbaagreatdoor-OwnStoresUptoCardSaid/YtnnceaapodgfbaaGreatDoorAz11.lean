/- Texts of ours joined. -/
import Derived.Lib.ParseIntBCases
import Derived.Lib.AtoiAllCases
import Derived.Lib.AtoiErrMem
import Derived.Lib.ItoaLen
import Derived.Lib.AppendIntMem
import Derived.Deep.DeepCutAuto
import Derived.WalkSpells
import Derived.Deep.LoopGhost
import Derived.IntWalk
import Derived.Test.YtnnceaapodgfbaaGreatDoorAz10
set_option linter.unusedVariables false
set_option linter.unusedSimpArgs false
namespace Go.Proofs.YtnnceaapodgfbaaGreatDoor
namespace Sto
open Go.RowKit
theorem Tryz.infoObjL:(Tryz.prog.info? 30).map (fun i=>(i.zero,i.size,i.bytes))=some (some (.agg #[.string ByteArray.empty,.string ByteArray.empty,.string ByteArray.empty,.slice none 0 0,.slice none 0 0,.slice none 0 0,.bool false,.string ByteArray.empty,.int .i64 0,.string ByteArray.empty]),10,168):=by kernel_rfl
theorem timeT_le (S:St) (rev:Int):timeT S rev≤S.log.length:=by
 unfold timeT
 by_cases h:rev<0∨(S.rev:Int)<rev
 ·have h1:timeE S rev=1:=by unfold timeE;rw [if_pos h]
  rw [h1,if_pos (by decide)]
  omega
 ·have h2:rev.toNat≤S.log.length:=by unfold St.rev at h;omega
  split
  ·omega
  ·split
   ·exact Nat.le_refl _
   ·exact h2
theorem live_le:∀ l:List GEvent,live l≤(l.length:Int)
 | []=>by decide
 | e :: r=>by
  have h:=live_le r
  unfold live
  rw [List.length_cons]
  split
  ·omega
  ·split<;>omega
set_option maxRecDepth 100000 in
set_option maxHeartbeats 6400000 in
theorem list_any {D:Dom} {w:World} {g:Nat} {S:St} (h:StoreAt D w g S) (hS:OkSt S) (kind space:ByteArray) (hk:kind.size≤1048576) (hs:space.size≤1048576) (rev:Int) :
  Calls Tryz.prog 23 #[.pointer (some ⟨g,0,none⟩),.string kind,.string space,.int .i64 rev] w fun e w'=>Below w.heap.size w w'∧∃ E v out,e=.returned (.tuple #[v,.int .i64 (listE S kind space rev)])∧ListTold S kind space rev out∧OwnX ObjX 10 E w' 30 v out∧∀ b,E b→w.heap.size≤b∧b<w'.heap.size:=by
 obtain⟨R,HR⟩:∃ R,Hid (says (chk kind) (spaceE space)=R):=⟨_,Lib.hid rfl⟩
 obtain⟨le,Hle⟩:∃ x,Hid (listE S kind space rev=x):=⟨_,Lib.hid rfl⟩
 rw [Hle.out]
 have HA:=Lib.hid h
 have HS:=Lib.hid hS
 have hgl:=h.lt
 clear h hS
 go_enter Tryz.func23,Tryz.ntmps23
 go_upto_region 2 with fail
 obtain⟨w1,hw1⟩:∃ w1,w1=w.alloc (.cells #[.int .i64 0] 113):=⟨_,rfl⟩
 obtain⟨gc,hgc⟩:∃ gc,gc=w.heap.size:=⟨_,rfl⟩
 have C1:Hid (IsBad gc w1 0):=Lib.hid (by rw [hw1,hgc];exact heap_alloc_new w _)
 have HB1:Hid (Below w.heap.size w w1):=Lib.hid (by rw [hw1];exact (Below.refl _ w).alloc (Nat.le_refl _) _)
 have hs1:gc<w1.heap.size:=by rw [hw1,World.size_alloc];omega
 have hgw:w.heap.size≤gc:=by omega
 have hd:∀ b,D b→b<gc:=fun b hb=>by have:=HA.out.low hb;omega
 have Hd:=Lib.hid hd
 rw [←hw1,←hgc]
 clear hw1 hgc hd
 go_wp2_with fail
 refine (name_one gc 0 kind w1 C1.out (by omega)).mono ?_
 rintro E w2 ⟨rfl,h1,h2⟩
 rw [zero_says] at h1
 have C2:=Lib.hid h1
 have K2:=Lib.hid h2
 clear h1 h2
 go_wp2_with fail
 refine (space_any gc _ space w2 C2.out (by omega)).mono ?_
 rintro E w3 ⟨rfl,h1,h2⟩
 have C3:Hid (IsBad gc w3 R):=Lib.hid (by rw [←HR.out];exact h1)
 have K3:=Lib.hid (K2.out.trans h2)
 have HB:=Lib.hid (K3.out.below HB1.out HB1.out.size hgw)
 have HA3:Hid (StoreAt D w3 g S):=Lib.hid ((HA.out.belowW HB1.out).agree (fun b hb=>K3.out.block b (by have:=Hd.out b hb;omega) (by have:=Hd.out b hb;omega)) K3.out.size)
 clear h1 h2 C1 C2 K2 K3 HA HB1
 have cc:w3.cell? ⟨gc,0,none⟩=some (.int .i64 R):=cell_block C3.out 0
 by_cases hR:R=0
 ·subst hR
  have HTi:=Lib.hid (time_any HA3.out rev)
  go_wp2_with fail
  refine HTi.out.mono ?_
  rintro E w4 ⟨rfl,hw4⟩
  subst hw4
  clear HTi cc
  obtain⟨te,Hte⟩:∃ x,Hid (timeE S rev=x):=⟨_,Lib.hid rfl⟩
  obtain⟨tt,Htt⟩:∃ x,Hid (timeT S rev=x):=⟨_,Lib.hid rfl⟩
  rw [Hte.out,Htt.out]
  have Hl:Hid (le=te):=Lib.hid (by rw [←Hle.out,←Hte.out];unfold listE;rw [HR.out,if_neg (by decide)])
  by_cases hte:te=0
  ·subst hte
   obtain⟨M,I,mb,nn,f,vlog,hin,hDD⟩:=HA3.out
   have HIn:=Lib.hid hin
   have HDD:=Lib.hid hDD
   have cg:=fun i=>cell_block hin.box i
   clear hin hDD
   go_wp2_with (at_range;refine wpList_range_mapK _ (by rfl) _ 108 (by rfl) 159 Tryz.underlying108 mb nn f (by rfl) HIn.out.map ?_;intro w4 cnt hrg hgr hsz)
   try go_frame
   have hb4:Below w3.heap.size w3 w4:=⟨hgr.os,hgr.tape,hgr.output,hgr.size,fun k hk=>hgr.block k hk (by simp)⟩
   have HR1:=Lib.hid hrg
   have HB4:=Lib.hid (HB.out.trans (hb4.mono HB.out.size))
   have HA4:=Lib.hid (HA3.out.belowW hb4)
   have hsr:w3.heap.size<w4.heap.size:=by omega
   obtain⟨r,hr⟩:∃ r,w3.heap.size=r:=⟨_,rfl⟩
   rw [hr] at HR1 hsr ⊢
   have hwr:w.heap.size≤r:=by rw [←hr];exact HB.out.size
   have hdr:Hid (∀ b,D b→b<r):=Lib.hid fun b hb=>by rw [←hr];exact HA3.out.low hb
   have hmr:mb<r:=hdr.out mb ((HDD.out mb).2 (.inl HIn.out.mbM))
   clear hrg hgr hsz hb4 hr cg
   go_loopg [12,13,14,15] cnt (fun c u12 u13 u14 u15 wr=>∃ (left:GKey→Bool) (l1:List GObject),Hid (RangeK keyC wr mb r nn f left c)∧Hid (OwnAt (ObjX (fun b=>r<b∧b<wr.heap.size∧u12.ownBlock≠some b) wr) 10 wr (r+1) 30 u12 l1)∧Hid (Gathered (S.log.take tt) kind space left l1)∧Hid (Below w.heap.size w wr)∧Hid (StoreAt D wr g S))
   case atStart=>
    exact⟨_,[],HR1,Lib.hid (OwnAt.nil _),Lib.hid (.start fun k o hc=>by
     cases hf:f k with
     | some v=>rfl
     | none=>
      have h9:=HIn.out.no k hf
      have h8:hits (S.log.take tt) k = []:=List.eq_nil_iff_forall_not_mem.2 fun e he=>by
       unfold hits at he h9
       obtain⟨h1,h2⟩:=List.mem_filter.1 he
       have:=(List.mem_filter (p:=fun e:GEvent=>decide (e.object.okey=k))).2 ⟨List.mem_of_mem_take h1,h2⟩
       rw [h9] at this;cases this
      unfold cur at hc
      rw [h8] at hc;cases hc),HB4,HA4⟩
   case round=>
    obtain⟨left,l1,HR2,HO,HG,HBr,HAr⟩:=hrel
    clear HR1 HB4 HA4
    go_wp2_with (at_next;refine wpList_next_rangeK _ (by rfl) _ (by rfl) mb r nn f left gk (by rfl) HR2.out ?_ ?_)
    ·intro hl0
     have HGf:Hid (Gathered (S.log.take tt) kind space (fun _=>false) l1):=Lib.hid (by
      have:left=fun _=>false:=funext hl0
      rw [←this];exact HG.out)
     have hlen:l1.length≤4194304:=by
      have h1:=live_keys (HS.out.good.fit tt (by rw [←Htt.out];exact timeT_le S rev)) (l1.map (·.okey)) HGf.out.one fun k hk=>by
       obtain⟨o,ho,rfl⟩:=List.mem_map.1 hk
       rw [((HGf.out.mem o).1 ho).2.1];rfl
      have h2:=live_le (S.log.take tt)
      rw [List.length_take] at h2
      rw [List.length_map] at h1
      have:=HS.out.rev
      unfold St.rev at this
      omega
     have hrw:r+1≤wr.heap.size:=by have:=HR2.out.lt;omega
     have HSo:=Lib.hid (objSort_any u12 l1 (r+1) _ wr wr HO.out hrw (by omega))
     have hrow:=HO.out.row.len
     have HBs:=HBr
     clear hl0 HG HO HR2 hlen hrw HAr
     obtain⟨a3,c3,e3,-,-⟩:=hrow
     obtain⟨n3,hn3⟩:∃ n,l1.length=n:=⟨_,rfl⟩
     rw [hn3] at e3
     subst e3
     clear hn3
     go_wp2_with fail
     refine HSo.out.mono ?_
     rintro E w6 ⟨rfl,L,hp,hri,ho,hb6,ho6⟩
     have HLs:Hid (ListTold S kind space rev L):=Lib.hid ⟨fun h9=>absurd (by rw [Hle.out,Hl.out]) h9,fun _=>by rw [Htt.out];exact HGf.out.done hp hri⟩
     have hwB:=HBs.out.size
     have HB6:Hid (Below w.heap.size w w6):=Lib.hid (HBs.out.trans (hb6.mono (by omega)))
     have HX:Hid (OwnX ObjX 10 (fun b=>w.heap.size≤b∧b<w6.heap.size) w6 30 (.slice a3 n3 c3) L):=Lib.hid ⟨(ho.imp' fun cs x _ hx=>famObj.mono _ _ _ _ _ _ (fun b hb=>⟨by have:=hb.1;omega,Nat.lt_of_lt_of_le hb.2.1 ho6.size⟩) (famObj.agree _ _ _ _ _ _ (ho6.agree fun b hb=>⟨hb.2.1,hb.2.2⟩) hx)).mono (Nat.zero_le _),fun b hb=>⟨by have:=(ho.at hb).1;omega,(ho.at hb).2.1⟩⟩
     clear hp hri ho hb6 ho6 HSo
     go_wp2_with fail
     go_ret2
     exact⟨HB6.out,_,_,L,by rw [Hl.out];rfl,HLs.out,HX.out,fun b hb=>hb⟩
    ·intro s v w5 cnt2 hs5 hlk hv hrg2 hlt hgr2 hsz2 hen
     have hrl:=HR2.out.lt
     have HR5:=Lib.hid hrg2
     have HB5:Hid (Below w.heap.size w w5):=Lib.hid (HBr.out.grown hgr2 HBr.out.size (fun j hj=>by cases hj;exact hwr))
     have hne:∀ b,b<wr.heap.size→b≠r→w5.heap[b]? = wr.heap[b]?:=fun b hb hn=>hgr2.block b hb fun e=>hn (by cases e;rfl)
     have HA5:Hid (StoreAt D w5 g S):=Lib.hid (HAr.out.agree (fun b hb=>hne b (HAr.out.low hb) (by have:=hdr.out b hb;omega)) (by omega))
     have HO5:Hid (OwnAt (ObjX (fun b=>r<b∧b<w5.heap.size∧u12.ownBlock≠some b) w5) 10 w5 (r+1) 30 u12 l1):=Lib.hid ((HO.out.stay (fun _ _ _ _ h=>h) fun b hb=>hne b (HO.out.at hb).2.1 (by have:=(HO.out.at hb).1;omega)).imp' fun cs x _ hx=>famObj.mono _ _ _ _ _ _ (fun b hb=>⟨hb.1,by rw [hsz2];exact hb.2.1,hb.2.2⟩) (famObj.agree _ _ _ _ _ _ (fun b hb=>hne b hb.2.1 (by have:=hb.1;omega)) hx))
     have Hlk:=Lib.hid hlk
     have Hs:=Lib.hid hs5
     have hs5':=hsz2
     rw [show keyC.val s=.agg #[.string s.kind,.string s.space,.string s.name] from rfl] at hen ⊢
     clear hrg2 hgr2 hsz2 hne hlk hs5 HR2 HO HBr HAr
     go_upto_region 13 with fail
     obtain⟨w6,hw6⟩:∃ w6,w6=w5.alloc (.cells #[.string s.kind,.string s.space,.string s.name] 24):=⟨_,rfl⟩
     obtain⟨gk',hgk⟩:∃ x,x=w5.heap.size:=⟨_,rfl⟩
     have KB:Hid (w6.heap[gk']? = some (.cells #[.string s.kind,.string s.space,.string s.name] 24 (0,0))):=Lib.hid (by rw [hw6,hgk];exact heap_alloc_new w5 _)
     have hb56:Below w5.heap.size w5 w6:=by rw [hw6];exact (Below.refl _ w5).alloc (Nat.le_refl _) _
     have hs6:w6.heap.size=w5.heap.size+1:=by rw [hw6,World.size_alloc]
     rw [hs5'] at hgk
     rw [←hw6]
     rw [←hgk]
     have hs6':=hs6
     have hgw':w.heap.size≤gk':=by omega
     have Hb56:=Lib.hid hb56
     clear hw6 hgk hb56 hen
     have ck:=fun i=>cell_block KB.out i
     have HB6:=Lib.hid (HB5.out.trans (Hb56.out.mono HB5.out.size))
     have HA6:=Lib.hid (HA5.out.belowW Hb56.out)
     have HR6:=Lib.hid (HR5.out.belowW Hb56.out)
     have HO6:Hid (OwnAt (ObjX (fun b=>r<b∧b<w6.heap.size∧u12.ownBlock≠some b) w6) 10 w6 (r+1) 30 u12 l1):=Lib.hid ((HO5.out.stay (fun _ _ _ _ h=>h) fun b hb=>Hb56.out.block b (HO5.out.at hb).2.1).imp' fun cs x _ hx=>famObj.mono _ _ _ _ _ _ (fun b hb=>⟨hb.1,by rw [hs6];have:=hb.2.1;omega,hb.2.2⟩) (famObj.agree _ _ _ _ _ _ (fun b hb=>Hb56.out.block b hb.2.1) hx))
     clear HB5 HA5 HR5 HO5 Hb56
     cases kb:(s.kind.toList == kind.toList) with
     | false=>
      have HNF:Hid (¬fitsK kind space s):=Lib.hid fun h9=>by rw [h9.1,beq_self_eq_true] at kb;cases kb
      have HL6:=Lib.hid (HG.out.pass (k:=s) (.inl HNF.out))
      clear HG HNF
      go_wp2_with fail
      go_roundg cnt2
      case measure=>exact hlt
      case rel=>exact⟨_,l1,HR6,HO6,HL6,HB6,HA6⟩
     | true=>
      cases eb:space.toList.isEmpty with
      | true=>
       have HNF:Hid (fitsK kind space s):=Lib.hid ⟨toList_inj (eq_of_beq kb),.inl (by have h9:space.toList = []:=List.isEmpty_iff.1 eb;exact toList_inj (h9.trans (by rw [Lib.toList_data];rfl)))⟩
       have HAt:=Lib.hid (at_any HA6.out HS.out s Hs.out tt)
       have HOL:Hid (∀ b,u12.ownBlock=some b→b<w6.heap.size):=Lib.hid fun b hb=>(HO6.out.at hb).2.1
       have Hlen:Hid (l1.length≤4194304):=Lib.hid (by
        have h1:=live_keys (HS.out.good.fit tt (by rw [←Htt.out];exact timeT_le S rev)) (l1.map (·.okey)) HG.out.one fun k hk=>by
         obtain⟨o,ho,rfl⟩:=List.mem_map.1 hk
         rw [((HG.out.mem o).1 ho).2.1];rfl
        have h2:=live_le (S.log.take tt)
        rw [List.length_take] at h2
        rw [List.length_map] at h1
        have:=HS.out.rev
        unfold St.rev at this
        omega)
       go_wp2_with fail
       refine HAt.out.mono ?_
       rintro E w7 ⟨hb7,hat⟩
       clear HAt ck
       have hz7:=(hb7).size
       have HB7:=Lib.hid (HB6.out.trans ((hb7).mono HB6.out.size))
       have HA7:=Lib.hid (HA6.out.belowW (hb7))
       have HR7:=Lib.hid (HR6.out.belowW (hb7))
       have HO7:Hid (OwnAt (ObjX (fun b=>r<b∧b<w7.heap.size∧u12.ownBlock≠some b) w7) 10 w7 (r+1) 30 u12 l1):=Lib.hid ((HO6.out.stay (fun _ _ _ _ h=>h) fun b hb=>(hb7).block b (HO6.out.at hb).2.1).imp' fun cs x _ hx=>famObj.mono _ _ _ _ _ _ (fun b hb=>⟨hb.1,Nat.lt_of_lt_of_le hb.2.1 hz7,hb.2.2⟩) (famObj.agree _ _ _ _ _ _ (fun b hb=>(hb7).block b hb.2.1) hx))
       clear HB6 HA6 HR6 HO6
       rcases hat with ⟨hc,rfl⟩ | ⟨o,D3,u1,u2,u3,hc,rfl,ho,hD⟩
       ·have HL8:=Lib.hid (HG.out.pass (k:=s) (.inr hc))
        rw [show noW=.agg noA from rfl]
        clear HG HNF hc hb7
        have H7:=Lib.hid (heap_alloc_new w7 (.cells noA 30))
        have hb8:=Lib.hid ((Below.refl w7.heap.size w7).alloc (Nat.le_refl _) (.cells noA 30))
        go_wp2_with (refine wpList_store_box (by rfl) _ _ _ (by rfl) w7.heap.size noA (by rfl) (by rfl) _ _ (by exact H7.out) (by exact Tryz.sizeObj) (by rfl) (by simp [Value.oneCell',noA]) ?_)
        intro w8 b8 t8
        have hbb:Below w7.heap.size w7 w8:=t8.below hb8.out (Nat.le_refl _)
        have hs8:w8.heap.size=w7.heap.size+1:=t8.size.trans (World.size_alloc _ _)
        have hz8:=(hbb).size
        have HB8:=Lib.hid (HB7.out.trans ((hbb).mono HB7.out.size))
        have HA8:=Lib.hid (HA7.out.belowW (hbb))
        have HR8:=Lib.hid (HR7.out.belowW (hbb))
        have HO8:Hid (OwnAt (ObjX (fun b=>r<b∧b<w8.heap.size∧u12.ownBlock≠some b) w8) 10 w8 (r+1) 30 u12 l1):=Lib.hid ((HO7.out.stay (fun _ _ _ _ h=>h) fun b hb=>(hbb).block b (HO7.out.at hb).2.1).imp' fun cs x _ hx=>famObj.mono _ _ _ _ _ _ (fun b hb=>⟨hb.1,Nat.lt_of_lt_of_le hb.2.1 hz8,hb.2.2⟩) (famObj.agree _ _ _ _ _ _ (fun b hb=>(hbb).block b hb.2.1) hx))
        clear HB7 HA7 HR7 HO7
        clear b8 t8 hbb H7 hb8
        go_wp2_with fail
        go_roundg cnt2
        case measure=>exact hlt
        case rel=>exact⟨_,l1,HR8,HO8,HL8,HB8,HA8⟩
       ·have HL8:=Lib.hid (HG.out.more HNF.out hc Hlk.out)
        have hD9:Hid (∀ b,D3 b→w6.heap.size≤b∧b<w7.heap.size):=Lib.hid hD
        have HOo:=Lib.hid ho
        clear HG HNF hc hb7 ho hD
        obtain⟨a1,c1,rfl,-,-⟩:=HOo.out.rowL.len
        obtain⟨a2,c2,rfl,-,-⟩:=HOo.out.rowO.row.len
        obtain⟨a3,c3,rfl,-,-⟩:=HOo.out.rowH.row.len
        obtain⟨n1,Hn1⟩:∃ n,Hid (o.labels.length=n):=⟨_,Lib.hid rfl⟩
        obtain⟨n2,Hn2⟩:∃ n,Hid (o.owners.length=n):=⟨_,Lib.hid rfl⟩
        obtain⟨n3,Hn3⟩:∃ n,Hid (o.holds.length=n):=⟨_,Lib.hid rfl⟩
        rw [Hn1.out,Hn2.out,Hn3.out] at HOo ⊢
        have H7:=Lib.hid (heap_alloc_new w7 (.cells noA 30))
        have hb8:=Lib.hid ((Below.refl w7.heap.size w7).alloc (Nat.le_refl _) (.cells noA 30))
        go_wp2_with (refine wpList_store_box (by rfl) _ _ _ (by rfl) w7.heap.size #[.string o.okey.kind,.string o.okey.space,.string o.okey.name,.slice a1 n1 c1,.slice a2 n2 c2,.slice a3 n3 c3,.bool o.ending,.string o.uid,.int .i64 o.rev,.string o.doc] (by rfl) (by rfl) _ _ (by exact H7.out) (by exact Tryz.sizeObj) (by rfl) (by simp [Value.oneCell']) ?_)
        intro w8 b8 t8
        have hbb:Below w7.heap.size w7 w8:=t8.below hb8.out (Nat.le_refl _)
        have hs8:w8.heap.size=w7.heap.size+1:=t8.size.trans (World.size_alloc _ _)
        have hz8:=(hbb).size
        have HB8:=Lib.hid (HB7.out.trans ((hbb).mono HB7.out.size))
        have HA8:=Lib.hid (HA7.out.belowW (hbb))
        have HR8:=Lib.hid (HR7.out.belowW (hbb))
        have HO8:Hid (OwnAt (ObjX (fun b=>r<b∧b<w8.heap.size∧u12.ownBlock≠some b) w8) 10 w8 (r+1) 30 u12 l1):=Lib.hid ((HO7.out.stay (fun _ _ _ _ h=>h) fun b hb=>(hbb).block b (HO7.out.at hb).2.1).imp' fun cs x _ hx=>famObj.mono _ _ _ _ _ _ (fun b hb=>⟨hb.1,Nat.lt_of_lt_of_le hb.2.1 hz8,hb.2.2⟩) (famObj.agree _ _ _ _ _ _ (fun b hb=>(hbb).block b hb.2.1) hx))
        clear HB7 HA7 HR7 HO7
        have HOo8:=Lib.hid (HOo.out.agree fun b hb=>hbb.block b (hD9.out b hb).2)
        obtain⟨go,hgo⟩:∃ go,w7.heap.size=go:=⟨_,rfl⟩
        rw [hgo] at b8 ⊢
        have BO:=Lib.hid b8
        have hgl:go<w8.heap.size:=by omega
        clear b8 t8 hbb H7 hb8 HOo hgo
        have co:=fun i=>cell_block BO.out i
        obtain⟨gl,hgz⟩:∃ gl,w8.heap.size=gl:=⟨_,rfl⟩
        obtain⟨w9,hw9⟩:∃ w9,w9=w8.alloc (.cells #[.string o.okey.kind,.string o.okey.space,.string o.okey.name,.slice a1 n1 c1,.slice a2 n2 c2,.slice a3 n3 c3,.bool o.ending,.string o.uid,.int .i64 o.rev,.string o.doc] 30):=⟨_,rfl⟩
        have hb9:Below w8.heap.size w8 w9:=by rw [hw9];exact (Below.refl _ w8).alloc (Nat.le_refl _) _
        have hs9:w9.heap.size=w8.heap.size+1:=by rw [hw9,World.size_alloc]
        have HOo9:Hid (ObjIn (fun b=>r<b∧b<w9.heap.size∧u12.ownBlock≠some b) w9 (.slice a1 n1 c1) (.slice a2 n2 c2) (.slice a3 n3 c3) o):=Lib.hid ((HOo8.out.agree fun b hb=>hb9.block b (by have:=(hD9.out b hb).2;omega)).mono fun b hb=>⟨by have:=(hD9.out b hb).1;have:=HR8.out.lt;omega,by have:=(hD9.out b hb).2;omega,fun e=>by have:=(HOL.out b e);have:=(hD9.out b hb).1;omega⟩)
        have hz9:=(hb9).size
        have HB9:=Lib.hid (HB8.out.trans ((hb9).mono HB8.out.size))
        have HA9:=Lib.hid (HA8.out.belowW (hb9))
        have HR9:=Lib.hid (HR8.out.belowW (hb9))
        have HO9:Hid (OwnAt (ObjX (fun b=>r<b∧b<w9.heap.size∧u12.ownBlock≠some b) w9) 10 w9 (r+1) 30 u12 l1):=Lib.hid ((HO8.out.stay (fun _ _ _ _ h=>h) fun b hb=>(hb9).block b (HO8.out.at hb).2.1).imp' fun cs x _ hx=>famObj.mono _ _ _ _ _ _ (fun b hb=>⟨hb.1,Nat.lt_of_lt_of_le hb.2.1 hz9,hb.2.2⟩) (famObj.agree _ _ _ _ _ _ (fun b hb=>(hb9).block b hb.2.1) hx))
        clear HB8 HA8 HR8 HO8
        have HRow:Hid (RowAt (ObjX (fun b=>r<b∧b<w9.heap.size∧u12.ownBlock≠some b) w9) 10 w9 (.slice (some ⟨gl,0,none⟩) 1 1) [o]):=Lib.hid (RowAt.one (R:=ObjX (fun b=>r<b∧b<w9.heap.size∧u12.ownBlock≠some b) w9) (k:=10) (cs:=#[.string o.okey.kind,.string o.okey.space,.string o.okey.name,.slice a1 n1 c1,.slice a2 n2 c2,.slice a3 n3 c3,.bool o.ending,.string o.uid,.int .i64 o.rev,.string o.doc]) (x:=o) (by rw [hw9,←hgz];exact heap_alloc_new w8 _) rfl ⟨_,_,_,rfl,HOo9.out⟩)
        have hbase:r+1≤w9.heap.size:=by omega
        obtain⟨i0,hi0,hy0,hy1,hy2⟩:=info_parts Tryz.infoObjL
        have hl1:=Hlen.out
        have hsl:w9.heap.size=gl+1:=by omega
        have hgl9:go<gl:=by omega
        clear hs8 hs9 hb9
        go_wp2_with (at_builtin;rw [←hw9];refine wpList_append_ownAt (R:=ObjX (fun b=>r<b∧b<w9.heap.size∧u12.ownBlock≠some b) w9) (k:=10) (e:=30) (B:=r+1) (l:=l1) (m:=[o]) _ (by rfl) _ _ _ (by rfl) i0 _ 168 Tryz.underlying45 hi0 hy0 hy1 hy2 rfl (by omega) (famObj.flat _ _) (famObj.one _ _) _ (by rfl) HO9.out _ (by rfl) HRow.out (by rw [List.length_singleton];unfold maxLen;omega) (by rw [List.length_singleton];omega) hbase ?_)
        intro v' w10 q1 q2 q3 q4
        rw [←hw9] at q1 q2
        rw [show gl+1=w9.heap.size from hsl.symm] at q4
        have hwl:w.heap.size≤w9.heap.size:=by have:=HB9.out.size;omega
        have HB10:=Lib.hid (HB9.out.grown q2 hwl fun b hb=>by have:=q3 b hb;omega)
        have HA10:Hid (StoreAt D w10 g S):=Lib.hid (HA9.out.agree (fun b hb=>q2.block b (HA9.out.low hb) fun e9=>by have:=q3 b e9.symm;have:=hdr.out b hb;omega) q2.size)
        have HR10:=Lib.hid (HR9.out.kept q2 (fun e9=>by have:=q3 mb e9.symm;omega) (fun e9=>by have:=q3 r e9.symm;omega))
        have HO10:Hid (OwnAt (ObjX (fun b=>r<b∧b<w10.heap.size∧v'.ownBlock≠some b) w10) 10 w10 (r+1) 30 v' (l1++[o])):=Lib.hid (OutX.appended (X:=ObjX) (B:=r+1) (w:=w9) (v:=u12) famObj (by rw [←hsl] at q1;exact q1) q2 q4)
        clear q1 q2 q3 q4 HO9 HRow HB9 HA9 HR9 hw9 hgz
        go_wp2_with fail
        go_roundg cnt2
        case measure=>exact hlt
        case rel=>exact⟨_,l1++[o],HR10,HO10,HL8,HB10,HA10⟩
      | false=>
       cases sb:(s.space.toList == space.toList) with
       | true=>
        have HNF:Hid (fitsK kind space s):=Lib.hid ⟨toList_inj (eq_of_beq kb),.inr (toList_inj (eq_of_beq sb))⟩
        have HAt:=Lib.hid (at_any HA6.out HS.out s Hs.out tt)
        have HOL:Hid (∀ b,u12.ownBlock=some b→b<w6.heap.size):=Lib.hid fun b hb=>(HO6.out.at hb).2.1
        have Hlen:Hid (l1.length≤4194304):=Lib.hid (by
         have h1:=live_keys (HS.out.good.fit tt (by rw [←Htt.out];exact timeT_le S rev)) (l1.map (·.okey)) HG.out.one fun k hk=>by
          obtain⟨o,ho,rfl⟩:=List.mem_map.1 hk
          rw [((HG.out.mem o).1 ho).2.1];rfl
         have h2:=live_le (S.log.take tt)
         rw [List.length_take] at h2
         rw [List.length_map] at h1
         have:=HS.out.rev
         unfold St.rev at this
         omega)
        go_wp2_with fail
        refine HAt.out.mono ?_
        rintro E w7 ⟨hb7,hat⟩
        clear HAt ck
        have hz7:=(hb7).size
        have HB7:=Lib.hid (HB6.out.trans ((hb7).mono HB6.out.size))
        have HA7:=Lib.hid (HA6.out.belowW (hb7))
        have HR7:=Lib.hid (HR6.out.belowW (hb7))
        have HO7:Hid (OwnAt (ObjX (fun b=>r<b∧b<w7.heap.size∧u12.ownBlock≠some b) w7) 10 w7 (r+1) 30 u12 l1):=Lib.hid ((HO6.out.stay (fun _ _ _ _ h=>h) fun b hb=>(hb7).block b (HO6.out.at hb).2.1).imp' fun cs x _ hx=>famObj.mono _ _ _ _ _ _ (fun b hb=>⟨hb.1,Nat.lt_of_lt_of_le hb.2.1 hz7,hb.2.2⟩) (famObj.agree _ _ _ _ _ _ (fun b hb=>(hb7).block b hb.2.1) hx))
        clear HB6 HA6 HR6 HO6
        rcases hat with ⟨hc,rfl⟩ | ⟨o,D3,u1,u2,u3,hc,rfl,ho,hD⟩
        ·have HL8:=Lib.hid (HG.out.pass (k:=s) (.inr hc))
         rw [show noW=.agg noA from rfl]
         clear HG HNF hc hb7
         have H7:=Lib.hid (heap_alloc_new w7 (.cells noA 30))
         have hb8:=Lib.hid ((Below.refl w7.heap.size w7).alloc (Nat.le_refl _) (.cells noA 30))
         go_wp2_with (refine wpList_store_box (by rfl) _ _ _ (by rfl) w7.heap.size noA (by rfl) (by rfl) _ _ (by exact H7.out) (by exact Tryz.sizeObj) (by rfl) (by simp [Value.oneCell',noA]) ?_)
         intro w8 b8 t8
         have hbb:Below w7.heap.size w7 w8:=t8.below hb8.out (Nat.le_refl _)
         have hs8:w8.heap.size=w7.heap.size+1:=t8.size.trans (World.size_alloc _ _)
         have hz8:=(hbb).size
         have HB8:=Lib.hid (HB7.out.trans ((hbb).mono HB7.out.size))
         have HA8:=Lib.hid (HA7.out.belowW (hbb))
         have HR8:=Lib.hid (HR7.out.belowW (hbb))
         have HO8:Hid (OwnAt (ObjX (fun b=>r<b∧b<w8.heap.size∧u12.ownBlock≠some b) w8) 10 w8 (r+1) 30 u12 l1):=Lib.hid ((HO7.out.stay (fun _ _ _ _ h=>h) fun b hb=>(hbb).block b (HO7.out.at hb).2.1).imp' fun cs x _ hx=>famObj.mono _ _ _ _ _ _ (fun b hb=>⟨hb.1,Nat.lt_of_lt_of_le hb.2.1 hz8,hb.2.2⟩) (famObj.agree _ _ _ _ _ _ (fun b hb=>(hbb).block b hb.2.1) hx))
         clear HB7 HA7 HR7 HO7
         clear b8 t8 hbb H7 hb8
         go_wp2_with fail
         go_roundg cnt2
         case measure=>exact hlt
         case rel=>exact⟨_,l1,HR8,HO8,HL8,HB8,HA8⟩
        ·have HL8:=Lib.hid (HG.out.more HNF.out hc Hlk.out)
         have hD9:Hid (∀ b,D3 b→w6.heap.size≤b∧b<w7.heap.size):=Lib.hid hD
         have HOo:=Lib.hid ho
         clear HG HNF hc hb7 ho hD
         obtain⟨a1,c1,rfl,-,-⟩:=HOo.out.rowL.len
         obtain⟨a2,c2,rfl,-,-⟩:=HOo.out.rowO.row.len
         obtain⟨a3,c3,rfl,-,-⟩:=HOo.out.rowH.row.len
         obtain⟨n1,Hn1⟩:∃ n,Hid (o.labels.length=n):=⟨_,Lib.hid rfl⟩
         obtain⟨n2,Hn2⟩:∃ n,Hid (o.owners.length=n):=⟨_,Lib.hid rfl⟩
         obtain⟨n3,Hn3⟩:∃ n,Hid (o.holds.length=n):=⟨_,Lib.hid rfl⟩
         rw [Hn1.out,Hn2.out,Hn3.out] at HOo ⊢
         have H7:=Lib.hid (heap_alloc_new w7 (.cells noA 30))
         have hb8:=Lib.hid ((Below.refl w7.heap.size w7).alloc (Nat.le_refl _) (.cells noA 30))
         go_wp2_with (refine wpList_store_box (by rfl) _ _ _ (by rfl) w7.heap.size #[.string o.okey.kind,.string o.okey.space,.string o.okey.name,.slice a1 n1 c1,.slice a2 n2 c2,.slice a3 n3 c3,.bool o.ending,.string o.uid,.int .i64 o.rev,.string o.doc] (by rfl) (by rfl) _ _ (by exact H7.out) (by exact Tryz.sizeObj) (by rfl) (by simp [Value.oneCell']) ?_)
         intro w8 b8 t8
         have hbb:Below w7.heap.size w7 w8:=t8.below hb8.out (Nat.le_refl _)
         have hs8:w8.heap.size=w7.heap.size+1:=t8.size.trans (World.size_alloc _ _)
         have hz8:=(hbb).size
         have HB8:=Lib.hid (HB7.out.trans ((hbb).mono HB7.out.size))
         have HA8:=Lib.hid (HA7.out.belowW (hbb))
         have HR8:=Lib.hid (HR7.out.belowW (hbb))
         have HO8:Hid (OwnAt (ObjX (fun b=>r<b∧b<w8.heap.size∧u12.ownBlock≠some b) w8) 10 w8 (r+1) 30 u12 l1):=Lib.hid ((HO7.out.stay (fun _ _ _ _ h=>h) fun b hb=>(hbb).block b (HO7.out.at hb).2.1).imp' fun cs x _ hx=>famObj.mono _ _ _ _ _ _ (fun b hb=>⟨hb.1,Nat.lt_of_lt_of_le hb.2.1 hz8,hb.2.2⟩) (famObj.agree _ _ _ _ _ _ (fun b hb=>(hbb).block b hb.2.1) hx))
         clear HB7 HA7 HR7 HO7
         have HOo8:=Lib.hid (HOo.out.agree fun b hb=>hbb.block b (hD9.out b hb).2)
         obtain⟨go,hgo⟩:∃ go,w7.heap.size=go:=⟨_,rfl⟩
         rw [hgo] at b8 ⊢
         have BO:=Lib.hid b8
         have hgl:go<w8.heap.size:=by omega
         clear b8 t8 hbb H7 hb8 HOo hgo
         have co:=fun i=>cell_block BO.out i
         obtain⟨gl,hgz⟩:∃ gl,w8.heap.size=gl:=⟨_,rfl⟩
         obtain⟨w9,hw9⟩:∃ w9,w9=w8.alloc (.cells #[.string o.okey.kind,.string o.okey.space,.string o.okey.name,.slice a1 n1 c1,.slice a2 n2 c2,.slice a3 n3 c3,.bool o.ending,.string o.uid,.int .i64 o.rev,.string o.doc] 30):=⟨_,rfl⟩
         have hb9:Below w8.heap.size w8 w9:=by rw [hw9];exact (Below.refl _ w8).alloc (Nat.le_refl _) _
         have hs9:w9.heap.size=w8.heap.size+1:=by rw [hw9,World.size_alloc]
         have HOo9:Hid (ObjIn (fun b=>r<b∧b<w9.heap.size∧u12.ownBlock≠some b) w9 (.slice a1 n1 c1) (.slice a2 n2 c2) (.slice a3 n3 c3) o):=Lib.hid ((HOo8.out.agree fun b hb=>hb9.block b (by have:=(hD9.out b hb).2;omega)).mono fun b hb=>⟨by have:=(hD9.out b hb).1;have:=HR8.out.lt;omega,by have:=(hD9.out b hb).2;omega,fun e=>by have:=(HOL.out b e);have:=(hD9.out b hb).1;omega⟩)
         have hz9:=(hb9).size
         have HB9:=Lib.hid (HB8.out.trans ((hb9).mono HB8.out.size))
         have HA9:=Lib.hid (HA8.out.belowW (hb9))
         have HR9:=Lib.hid (HR8.out.belowW (hb9))
         have HO9:Hid (OwnAt (ObjX (fun b=>r<b∧b<w9.heap.size∧u12.ownBlock≠some b) w9) 10 w9 (r+1) 30 u12 l1):=Lib.hid ((HO8.out.stay (fun _ _ _ _ h=>h) fun b hb=>(hb9).block b (HO8.out.at hb).2.1).imp' fun cs x _ hx=>famObj.mono _ _ _ _ _ _ (fun b hb=>⟨hb.1,Nat.lt_of_lt_of_le hb.2.1 hz9,hb.2.2⟩) (famObj.agree _ _ _ _ _ _ (fun b hb=>(hb9).block b hb.2.1) hx))
         clear HB8 HA8 HR8 HO8
         have HRow:Hid (RowAt (ObjX (fun b=>r<b∧b<w9.heap.size∧u12.ownBlock≠some b) w9) 10 w9 (.slice (some ⟨gl,0,none⟩) 1 1) [o]):=Lib.hid (RowAt.one (R:=ObjX (fun b=>r<b∧b<w9.heap.size∧u12.ownBlock≠some b) w9) (k:=10) (cs:=#[.string o.okey.kind,.string o.okey.space,.string o.okey.name,.slice a1 n1 c1,.slice a2 n2 c2,.slice a3 n3 c3,.bool o.ending,.string o.uid,.int .i64 o.rev,.string o.doc]) (x:=o) (by rw [hw9,←hgz];exact heap_alloc_new w8 _) rfl ⟨_,_,_,rfl,HOo9.out⟩)
         have hbase:r+1≤w9.heap.size:=by omega
         obtain⟨i0,hi0,hy0,hy1,hy2⟩:=info_parts Tryz.infoObjL
         have hl1:=Hlen.out
         have hsl:w9.heap.size=gl+1:=by omega
         have hgl9:go<gl:=by omega
         clear hs8 hs9 hb9
         go_wp2_with (at_builtin;rw [←hw9];refine wpList_append_ownAt (R:=ObjX (fun b=>r<b∧b<w9.heap.size∧u12.ownBlock≠some b) w9) (k:=10) (e:=30) (B:=r+1) (l:=l1) (m:=[o]) _ (by rfl) _ _ _ (by rfl) i0 _ 168 Tryz.underlying45 hi0 hy0 hy1 hy2 rfl (by omega) (famObj.flat _ _) (famObj.one _ _) _ (by rfl) HO9.out _ (by rfl) HRow.out (by rw [List.length_singleton];unfold maxLen;omega) (by rw [List.length_singleton];omega) hbase ?_)
         intro v' w10 q1 q2 q3 q4
         rw [←hw9] at q1 q2
         rw [show gl+1=w9.heap.size from hsl.symm] at q4
         have hwl:w.heap.size≤w9.heap.size:=by have:=HB9.out.size;omega
         have HB10:=Lib.hid (HB9.out.grown q2 hwl fun b hb=>by have:=q3 b hb;omega)
         have HA10:Hid (StoreAt D w10 g S):=Lib.hid (HA9.out.agree (fun b hb=>q2.block b (HA9.out.low hb) fun e9=>by have:=q3 b e9.symm;have:=hdr.out b hb;omega) q2.size)
         have HR10:=Lib.hid (HR9.out.kept q2 (fun e9=>by have:=q3 mb e9.symm;omega) (fun e9=>by have:=q3 r e9.symm;omega))
         have HO10:Hid (OwnAt (ObjX (fun b=>r<b∧b<w10.heap.size∧v'.ownBlock≠some b) w10) 10 w10 (r+1) 30 v' (l1++[o])):=Lib.hid (OutX.appended (X:=ObjX) (B:=r+1) (w:=w9) (v:=u12) famObj (by rw [←hsl] at q1;exact q1) q2 q4)
         clear q1 q2 q3 q4 HO9 HRow HB9 HA9 HR9 hw9 hgz
         go_wp2_with fail
         go_roundg cnt2
         case measure=>exact hlt
         case rel=>exact⟨_,l1++[o],HR10,HO10,HL8,HB10,HA10⟩
       | false=>
        have HNF:Hid (¬fitsK kind space s):=Lib.hid fun h9=>by
         rcases h9.2 with h8 | h8
         ·rw [h8,Lib.toList_data] at eb;cases eb
         ·rw [h8,beq_self_eq_true] at sb;cases sb
        have HL6:=Lib.hid (HG.out.pass (k:=s) (.inl HNF.out))
        clear HG HNF
        go_wp2_with fail
        go_roundg cnt2
        case measure=>exact hlt
        case rel=>exact⟨_,l1,HR6,HO6,HL6,HB6,HA6⟩
  ·have q0:(te != 0)=true:=bne_iff_ne.2 hte
   have Hlt:Hid (ListTold S kind space rev []):=Lib.hid ⟨fun _=>rfl,fun h9=>absurd (by rw [←Hl.out,←Hle.out];exact h9) hte⟩
   clear hte
   go_wp2_with fail
   go_ret2
   exact⟨HB.out,fun _=>False,nilS,[],by rw [Hl.out];rfl,Hlt.out,OwnX.nil,fun b hb=>hb.elim⟩
 ·have q0:(R == 0)=false:=by rw [beq_eq_false_iff_ne];exact hR
  have q1:(R != 0)=true:=bne_iff_ne.2 hR
  have Hl:Hid (le=R):=Lib.hid (by rw [←Hle.out];unfold listE;rw [HR.out,if_pos hR])
  have Hlt:Hid (ListTold S kind space rev []):=Lib.hid ⟨fun _=>rfl,fun h9=>absurd (by rw [←Hl.out,←Hle.out];exact h9) hR⟩
  clear hR
  go_wp2_with fail
  go_ret2
  exact⟨HB.out,fun _=>False,nilS,[],by rw [Hl.out];rfl,Hlt.out,OwnX.nil,fun b hb=>hb.elim⟩
end Sto
end Go.Proofs.YtnnceaapodgfbaaGreatDoor
namespace Go.Proofs.YtnnceaapodgfbaaGreatDoor
namespace Sto
open Go.RowKit
structure Duo (w0 wK:World) (A1 A2:Dom) (g1 g2:Nat) (S1 S2:St) (wr:World) (D1 D2:Dom):Prop where
 a1:StoreAt D1 wr g1 S1
 a2:StoreAt D2 wr g2 S2
 ap:∀ b,D1 b→¬D2 b
 d1:∀ b,D1 b→A1 b∨wK.heap.size≤b
 d2:∀ b,D2 b→A2 b∨wK.heap.size≤b
 only:Only (fun b=>A1 b∨A2 b) wK wr
 low:∀ b,A1 b∨A2 b→w0.heap.size≤b
 bel:Below w0.heap.size w0 wK
section
variable {w0 wK wr w' : World} {A1 A2 D1 D2 : Dom} {g1 g2 : Nat} {S1 S2 : St}
theorem Duo.belW (h:Duo w0 wK A1 A2 g1 g2 S1 S2 wr D1 D2):Below w0.heap.size w0 wr:=h.bel.trans (h.only.below h.low h.bel.size)
theorem Duo.lt1 (h:Duo w0 wK A1 A2 g1 g2 S1 S2 wr D1 D2) {b:Nat} (hb:D1 b):b<wr.heap.size:=h.a1.low hb
theorem Duo.lt2 (h:Duo w0 wK A1 A2 g1 g2 S1 S2 wr D1 D2) {b:Nat} (hb:D2 b):b<wr.heap.size:=h.a2.low hb
theorem Duo.home1 (h:Duo w0 wK A1 A2 g1 g2 S1 S2 wr D1 D2) (hE:Env w0):Home w0 D1 wr:=
 ⟨hE.1,hE.2.2,h.belW,fun b hb=>(h.d1 b hb).elim (fun h9=>h.low b (.inl h9)) fun h9=>Nat.le_trans h.bel.size h9⟩
theorem Duo.home2 (h:Duo w0 wK A1 A2 g1 g2 S1 S2 wr D1 D2) (hE:Env w0):Home w0 D2 wr:=
 ⟨hE.1,hE.2.2,h.belW,fun b hb=>(h.d2 b hb).elim (fun h9=>h.low b (.inr h9)) fun h9=>Nat.le_trans h.bel.size h9⟩
theorem Duo.size (h:Duo w0 wK A1 A2 g1 g2 S1 S2 wr D1 D2):wK.heap.size≤wr.heap.size:=h.only.size
theorem Duo.spoil {E:Dom} (h:Duo w0 wK A1 A2 g1 g2 S1 S2 wr D1 D2) (ho:Only E wr w') (hE:∀ b,E b→wK.heap.size≤b∧¬D1 b∧¬D2 b):Duo w0 wK A1 A2 g1 g2 S1 S2 w' D1 D2:=
 ⟨h.a1.agree (fun b hb=>ho.block b (h.lt1 hb) fun h9=>(hE b h9).2.1 hb) ho.size,h.a2.agree (fun b hb=>ho.block b (h.lt2 hb) fun h9=>(hE b h9).2.2 hb) ho.size,h.ap,h.d1,h.d2,h.only.trans ho fun b hb hl=>absurd (hE b hb).1 (by omega),h.low,h.bel⟩
theorem Duo.below (h:Duo w0 wK A1 A2 g1 g2 S1 S2 wr D1 D2) (hb:Below wr.heap.size wr w'):Duo w0 wK A1 A2 g1 g2 S1 S2 w' D1 D2:=
 h.spoil (E:=fun _=>False) (Only.of hb) fun b hb=>hb.elim
theorem Duo.did1 {T1:St} {D1':Dom} (h:Duo w0 wK A1 A2 g1 g2 S1 S2 wr D1 D2) (ha:StoreAt D1' w' g1 T1) (hd:∀ b,D1' b→D1 b∨wr.heap.size≤b) (ho:Only D1 wr w'):Duo w0 wK A1 A2 g1 g2 T1 S2 w' D1' D2:=
 ⟨ha,h.a2.agree (fun b hb=>ho.block b (h.lt2 hb) fun h9=>h.ap b h9 hb) ho.size,fun b hb hb2=>(hd b hb).elim (fun h9=>h.ap b h9 hb2) fun h9=>by have:=h.lt2 hb2;omega,
  fun b hb=>(hd b hb).elim (h.d1 b) fun h9=>.inr (Nat.le_trans h.size h9),h.d2,h.only.trans ho fun b hb hl=>(h.d1 b hb).elim .inl fun h9=>absurd h9 (by omega),h.low,h.bel⟩
theorem Duo.did2 {T2:St} {D2':Dom} (h:Duo w0 wK A1 A2 g1 g2 S1 S2 wr D1 D2) (ha:StoreAt D2' w' g2 T2) (hd:∀ b,D2' b→D2 b∨wr.heap.size≤b) (ho:Only D2 wr w'):Duo w0 wK A1 A2 g1 g2 S1 T2 w' D1 D2':=
 ⟨h.a1.agree (fun b hb=>ho.block b (h.lt1 hb) fun h9=>h.ap b hb h9) ho.size,ha,fun b hb hb2=>(hd b hb2).elim (fun h9=>h.ap b hb h9) fun h9=>by have:=h.lt1 hb;omega,
  h.d1,fun b hb=>(hd b hb).elim (h.d2 b) fun h9=>.inr (Nat.le_trans h.size h9),h.only.trans ho fun b hb hl=>(h.d2 b hb).elim .inr fun h9=>absurd h9 (by omega),h.low,h.bel⟩
end
structure Spoilt (E:Dom) (v:Value) (wL wr:World):Prop where
 only:Only E wL wr
 shape:Shape wL wr
 row:∀ b,v.ownBlock=some b→wr.heap[b]? = wL.heap[b]?
section
variable {E : Dom} {v : Value} {wL wr w' : World}
theorem Spoilt.refl (E:Dom) (v:Value) (wL:World):Spoilt E v wL wL:=⟨Only.refl _ _,Shape.refl _,fun _ _=>rfl⟩
theorem Spoilt.below (h:Spoilt E v wL wr) (hl:∀ b,v.ownBlock=some b→b<wL.heap.size) (hb:Below wr.heap.size wr w'):Spoilt E v wL w':=
 ⟨h.only.then hb,h.shape.trans (Shape.of hb),fun b h9=>(hb.block b (Nat.lt_of_lt_of_le (hl b h9) h.only.size)).trans (h.row b h9)⟩
theorem Spoilt.more {U:Dom} (h:Spoilt E v wL wr) (hl:∀ b,v.ownBlock=some b→b<wL.heap.size) (ho:Only U wr w') (hs:Shape wr w') (hU:∀ b,U b→E b∧v.ownBlock≠some b):Spoilt E v wL w':=
 ⟨h.only.trans ho fun b hb _=>(hU b hb).1,h.shape.trans hs,fun b h9=>(ho.block b (Nat.lt_of_lt_of_le (hl b h9) h.only.size) fun h8=>(hU b h8).2 h9).trans (h.row b h9)⟩
end
theorem told_cells {α:Type} {R:Rd α} {k B:Nat} {w:World} {e:TypeId} {vn vc:Nat} {va:Option Addr} {l:List α} (h:OwnAt R k w B e (.slice va vn vc) l) (hk:0<k) {m:Nat} {x:α} (he:l[m]? = some x) :
  ∃ g cs ds,va=some ⟨g,0,none⟩∧w.heap[g]? = some (.cells cs e (0,0))∧R w ds x∧∀ i u,ds[i]? = some u→w.cell? ⟨g,m*k+i,none⟩=some u:=by
 have hm:=(List.getElem?_eq_some_iff.1 he).1
 obtain⟨b,o,c',hv,_,_,hbs,hcell⟩:=h.row.form (by omega) hk
 injection hv with u1 u2 u3
 obtain⟨ds,-,hcc,hR⟩:=hcell m x he
 obtain⟨css,-,-,h3,-⟩:=h
 rcases h3.2 with ⟨h5,h6⟩ | ⟨q,cap,cur,h5,-,hh,-⟩
 ·omega
 ·injection h5 with e1 e2 e3
  rw [u1] at e1
  injection e1 with e1
  injection e1 with e1 e4
  subst e1;subst e4
  refine⟨b,cur,ds,u1,hh,hR,fun i u hu=>?_⟩
  have h9:=hcc i u hu
  rw [Nat.zero_add] at h9
  exact h9
theorem obj_told {E:Dom} {wL wr:World} {va:Option Addr} {vn vc:Nat} {l:List GObject} (h:OwnX ObjX 10 E wL 30 (.slice va vn vc) l) (hs:Spoilt E (.slice va vn vc) wL wr) {m:Nat} {x:GObject} (he:l[m]? = some x) :
  ∃ g y1 y2 y3,va=some ⟨g,0,none⟩∧LooseO wr y1 y2 y3∧(∀ b,OwnB y1 y2 y3 b→E b∧(Value.slice va vn vc).ownBlock≠some b)∧∀ i u,(objCs x y1 y2 y3)[i]? = some u→wr.cell? ⟨g,m*10+i,none⟩=some u:=by
 obtain⟨g,cs,ds,rfl,hg,⟨y1,y2,y3,rfl,ho⟩,hc⟩:=told_cells h.own (by decide) he
 have hr:=hs.row g rfl
 have hL:=(LooseO.of ho).shape hs.shape
 refine⟨g,y1,y2,y3,rfl,hL,fun b hb=>⟨OwnB.of ho b hb,fun e9=>?_⟩,fun i u hu=>?_⟩
 ·injection e9 with e9
  have e9:g=b:=e9
  subst e9
  exact OwnB.off hL (hr.trans hg) (by decide) (by decide) hb
 ·have h9:=hc i u hu
  unfold World.cell? at h9 ⊢
  rw [hr]
  exact h9
theorem ev_told {E:Dom} {wL wr:World} {va:Option Addr} {vn vc:Nat} {l:List GEvent} (h:OwnX EvX 12 E wL 56 (.slice va vn vc) l) (hs:Spoilt E (.slice va vn vc) wL wr) {m:Nat} {x:GEvent} (he:l[m]? = some x) :
  ∃ g y1 y2 y3,va=some ⟨g,0,none⟩∧LooseO wr y1 y2 y3∧(∀ b,OwnB y1 y2 y3 b→E b∧(Value.slice va vn vc).ownBlock≠some b)∧∀ i u,(Value.int .i64 x.kind :: .int .i64 x.rev :: objCs x.object y1 y2 y3)[i]? = some u→wr.cell? ⟨g,m*12+i,none⟩=some u:=by
 obtain⟨g,cs,ds,rfl,hg,⟨y1,y2,y3,rfl,ho⟩,hc⟩:=told_cells h.own (by decide) he
 have hr:=hs.row g rfl
 have hL:=(LooseO.of ho).shape hs.shape
 refine⟨g,y1,y2,y3,rfl,hL,fun b hb=>⟨OwnB.of ho b hb,fun e9=>?_⟩,fun i u hu=>?_⟩
 ·injection e9 with e9
  have e9:g=b:=e9
  subst e9
  exact OwnB.off hL (hr.trans hg) (by decide) (by decide) hb
 ·have h9:=hc i u hu
  unfold World.cell? at h9 ⊢
  rw [hr]
  exact h9
theorem told_lt {α:Type} {X:Dom→World→Rd α} {k:Nat} {E:Dom} {w:World} {e:TypeId} {v:Value} {l:List α} (h:OwnX X k E w e v l):∀ b,v.ownBlock=some b→b<w.heap.size:=fun _ hb=>h.lt hb
theorem okObj_no9:OkObj noObj:=⟨by decide,by decide,by decide,⟨Nat.zero_le _,fun _ h=>by cases h⟩,⟨Nat.zero_le _,fun _ h=>by cases h⟩,⟨Nat.zero_le _,fun _ h=>by cases h⟩,by decide,by show (Lit.int .i64 0).wf=true;decide,by decide⟩
theorem okObj_did {S:St} (h:OkSt S) {x:GStoreStep} (hx:OkObj x.o) (hr:S.rev≤4194303):OkObj (doS S x).2.1:=by
 have hk:=okObj_kept hx
 unfold doS
 split
 ·rcases create_cases S x.o with ⟨-,e,-⟩ | ⟨e,-⟩
  ·rw [e];exact okObj_no9
  ·rw [e];exact okObj_put ⟨hk.kind,hk.space,hk.name,hk.labels,hk.owners,hk.holds,hk.uid,hk.rev,hk.doc⟩ (by omega)
 ·split
  ·rcases update_cases S x.o with ⟨-,e,-⟩ | ⟨was,e,-,hc,-⟩
   ·rw [e];exact okObj_no9
   ·obtain⟨ev,h1,h2⟩:=cur_mem hc
    have h3:=h.obj ev h1
    rw [h2] at h3
    rw [e];exact okObj_put ⟨hk.kind,hk.space,hk.name,hk.labels,hk.owners,hk.holds,h3.uid,hk.rev,hk.doc⟩ (by omega)
  ·split
   ·rcases remove_cases S x.o.okey x.rev with ⟨-,e,-⟩ | ⟨was,e,hc⟩
    ·rw [e];exact okObj_no9
    ·obtain⟨ev,h1,h2⟩:=cur_mem hc
     have h3:=h.obj ev h1
     rw [h2] at h3
     rw [e];exact okObj_put h3 (by omega)
   ·exact okObj_no9
theorem okObj_told9 {S:St} (h:OkSt S) {kind space:ByteArray} {a:List GObject} (ha:ListTold S kind space 0 a):∀ o∈a,OkObj o:=fun o ho=>by
 by_cases he:listE S kind space 0=0
 ·obtain⟨-,hc⟩:=((ha.2 he).2 o).1 ho
  obtain⟨e,h1,h2⟩:=cur_mem hc
  exact h2▸h.obj e (List.mem_of_mem_take h1)
 ·rw [ha.1 he] at ho;cases ho
theorem told_one {S:St} {kind space:ByteArray} {a b:List GObject} (ha:ListTold S kind space 0 a) (hb:ListTold S kind space 0 b):a=b:=by
 by_cases he:listE S kind space 0=0
 ·exact isList_one (ha.2 he) (hb.2 he)
 ·rw [ha.1 he,hb.1 he]
end Sto
end Go.Proofs.YtnnceaapodgfbaaGreatDoor
namespace Go.Proofs.YtnnceaapodgfbaaGreatDoor
namespace Sto
open Go.RowKit
set_option maxRecDepth 100000 in
theorem copyReqV_any {R:Rd GReq} (hf:Flat R) (h1:OneR R) (v:Value) (l:List GReq) (w:World) (h:RowAt R 3 w v l) (hl:l.length≤1048576) :
  Calls Tryz.prog 41 #[v] w fun e w'=>∃ v',e=.returned v'∧OwnAt R 3 w' w.heap.size 97 v' l∧Below w.heap.size w w':=by
 obtain⟨i0,hi0,hz0,hz1,hz2⟩:=info_parts Tryz.infoReqW
 have Hrow:=Lib.hid h
 clear h
 go_enter Tryz.func41,Tryz.ntmps41
 go_wp2_with (at_builtin;refine wpList_append_ownAt (R:=R) (k:=3) (e:=97) (B:=w.heap.size) (l:=[]) (m:=l) _ (by rfl) _ _ _ (by rfl) i0 _ 48 Tryz.underlying78 hi0 hz0 hz1 hz2 rfl (by omega) hf h1 _ (by rfl) (OwnAt.nil _) _ (by rfl) Hrow.out (by unfold maxLen;simp;omega) (by simp;omega) (Nat.le_refl _) ?_)
 intro v' w' hv' hg hr _
 have hb:Below w.heap.size w w':=below_of_grown (Below.refl _ _) (Nat.le_refl _) hg hr
 go_wp2_with fail
 go_ret
 exact⟨_,rfl,by simpa using hv',hb⟩
structure InQ (B:Nat) (wr:World) (q:Nat) (cur:Array Value) (l:List GReq) (i:Nat):Prop where
 low:B≤q
 blk:wr.heap[q]? = some (.cells cur 97 (0,0))
 size:l.length*3≤cur.size
 at9:∀ j r,l[j]? = some r→cur[j*3]? = some (.string r.key)∧cur[j*3+1]? = some (.int .i64 r.kind)∧(Lit.int .i64 r.kind).wf=true∧∃ u,cur[j*3+2]? = some u∧(j<i→∃ n,TexA B wr u r.vals n)
def InRow (B:Nat) (wr:World) (aq:Option Addr) (l:List GReq) (i:Nat):Prop:=l = []∨∃ q cur,aq=some ⟨q,0,none⟩∧InQ B wr q cur l i
theorem InQ.below {B:Nat} {wr w':World} {q:Nat} {cur:Array Value} {l:List GReq} {i:Nat} (h:InQ B wr q cur l i) (hb:Below wr.heap.size wr w'):InQ B w' q cur l i:=
 ⟨h.low,below_block hb h.blk,h.size,fun j r hr=>let ⟨a,b,c,u,d,e⟩:=h.at9 j r hr;⟨a,b,c,u,d,fun hj=>let ⟨n,ht⟩:=e hj;⟨n,ht.below hb⟩⟩⟩
theorem InQ.set {B:Nat} {wr w':World} {q:Nat} {cur:Array Value} {l:List GReq} {i n:Nat} {r:GReq} {u:Value} (h:InQ B wr q cur l i) (hr:l[i]? = some r) (hu:TexA B wr u r.vals n) (t:Touch q wr w') (hb:w'.heap[q]? = some (.cells (cur.setIfInBounds (i*3+2) u) 97 (0,0))):InQ B w' q (cur.setIfInBounds (i*3+2) u) l (i+1):=by
 have hil:=(List.getElem?_eq_some_iff.1 hr).1
 have hsz:=h.size
 have keep:∀ {v:Value} {vals:List ByteArray} {m:Nat},TexA B wr v vals m→TexA B w' v vals m:=fun ⟨g,e1,e2,e3,e4⟩=>⟨g,e1,e2,e3,t.block e4 fun e=>by
  rw [e,h.blk] at e4
  injection e4 with e4
  injection e4 with e5 e6
  exact absurd e6 (by decide)⟩
 refine⟨h.low,hb,by rw [Array.size_setIfInBounds];exact h.size,fun j r' hr'=>?_⟩
 obtain⟨a,b,c,v,d,e⟩:=h.at9 j r' hr'
 have hjl:=(List.getElem?_eq_some_iff.1 hr').1
 rw [Array.getElem?_setIfInBounds_ne (by omega),Array.getElem?_setIfInBounds_ne (by omega)]
 refine⟨a,b,c,?_⟩
 by_cases hji:j=i
 ·subst hji
  rw [hr] at hr'
  injection hr' with hr'
  subst hr'
  refine⟨u,?_,fun _=>⟨n,keep hu⟩⟩
  rw [Array.getElem?_setIfInBounds_self_of_lt (by omega)]
 ·refine⟨v,?_,fun hj=>let ⟨m,hm⟩:=e (by omega);⟨m,keep hm⟩⟩
  rw [Array.getElem?_setIfInBounds_ne (by omega)]
  exact d
theorem row_nil9 {α β:Type} {R:Rd α} {R':Rd β} {k k':Nat} {w w':World} {v:Value} (h:RowAt R k w v []):RowAt R' k' w' v []:=by
 rcases h with ⟨h1,-⟩ | ⟨a,c,h1,h2,h3,-⟩
 ·exact .inl ⟨h1,rfl⟩
 ·exact .inr ⟨a,c,h1,h2,h3,fun j x hx=>by cases hx⟩
theorem InRow.row {B:Nat} {wr:World} {aq:Option Addr} {n c:Nat} {l:List GReq} (h:InRow B wr aq l l.length) (hn:n=l.length) (hc:n≤c) (hm:c≤maxLen) (h0:l = []→RowAt ReqR 3 wr (.slice aq n c) []) (hv:∀ r∈l,r.vals.length≤1048576):RowAt ReqR 3 wr (.slice aq n c) l:=by
 rcases h with rfl | ⟨q,cur,rfl,h⟩
 ·exact h0 rfl
 ·subst hn
  refine .inr ⟨⟨q,0,none⟩,c,rfl,hc,hm,fun j r hr=>?_⟩
  obtain⟨a,b,c9,u,d,e⟩:=h.at9 j r hr
  obtain⟨m,ht⟩:=e (List.getElem?_eq_some_iff.1 hr).1
  refine⟨[.string r.key,.int .i64 r.kind,u],rfl,fun i v hv9=>?_,⟨u,rfl,c9,ht.row (hv r (List.mem_of_getElem? hr))⟩⟩
  rw [add_plain',Nat.zero_add,cell_block h.blk]
  match i,hv9 with
  | 0,hv9=>injection hv9 with hv9;subst hv9;exact a
  | 1,hv9=>injection hv9 with hv9;subst hv9;exact b
  | 2,hv9=>injection hv9 with hv9;subst hv9;exact d
  | _+3,hv9=>cases hv9
structure LoQ (B T:Nat) (wr:World) (q:Nat) (cur:Array Value) (n i:Nat):Prop where
 low:B≤q∧q<T
 blk:wr.heap[q]? = some (.cells cur 97 (0,0))
 size:n*3≤cur.size
 at9:∀ j,i≤j→j<n→∃ u,cur[j*3+2]? = some u∧LooseS 9 1 wr u∧∀ b,u.ownBlock=some b→B≤b∧b<T
def LoRow (B T:Nat) (wr:World) (aq:Option Addr) (n i:Nat):Prop:=n=0∨∃ q cur,aq=some ⟨q,0,none⟩∧LoQ B T wr q cur n i
theorem InRow.lo {B:Nat} {wr:World} {aq:Option Addr} {n:Nat} {l:List GReq} (h:InRow B wr aq l l.length) (hn:n=l.length) (hv:∀ r∈l,r.vals.length≤1048576):LoRow B wr.heap.size wr aq n 0:=by
 subst hn
 rcases h with rfl | ⟨q,cur,h1,h⟩
 ·exact .inl rfl
 ·refine .inr ⟨q,cur,h1,⟨h.low,lt_of_some h.blk⟩,h.blk,h.size,fun j _ hj=>?_⟩
  obtain⟨a,b,c9,u,d,e⟩:=h.at9 j _ (List.getElem?_eq_getElem hj)
  obtain⟨m,ht⟩:=e hj
  exact⟨u,d,ht.loose (hv _ (List.getElem_mem _)),fun b hb=>⟨ht.own hb,ht.lt hb⟩⟩
theorem LoQ.agree {B T:Nat} {wr w':World} {q:Nat} {cur:Array Value} {n i:Nat} (h:LoQ B T wr q cur n i) (ha:∀ b,B≤b→b<T→w'.heap[b]? = wr.heap[b]?):LoQ B T w' q cur n i:=
 ⟨h.low,(ha q h.low.1 h.low.2).trans h.blk,h.size,fun j h1 h2=>by
  obtain⟨u,a,b,c⟩:=h.at9 j h1 h2
  refine⟨u,a,?_,c⟩
  rcases b with b | ⟨g,m,c9,cs,e1,e2,e3⟩
  ·exact .inl b
  ·have h9:=c g (by rw [e1];rfl)
   exact .inr ⟨g,m,c9,cs,e1,(ha g h9.1 h9.2).trans e2,e3⟩⟩
theorem LoRow.agree {B T:Nat} {wr w':World} {aq:Option Addr} {n i:Nat} (h:LoRow B T wr aq n i) (ha:∀ b,B≤b→b<T→w'.heap[b]? = wr.heap[b]?):LoRow B T w' aq n i:=
 h.elim .inl fun ⟨q,cur,h1,h2⟩=>.inr ⟨q,cur,h1,h2.agree ha⟩
theorem LoQ.spoil {B T:Nat} {wr w':World} {q:Nat} {cur:Array Value} {n i:Nat} {u:Value} (h:LoQ B T wr q cur n i) (hu:LooseS 9 1 wr u) (ho:Only (fun b=>u.ownBlock=some b) wr w') (hs:Shape wr w'):LoQ B T w' q cur n i:=
 ⟨h.low,(ho.block q (lt_of_some h.blk) fun hb=>by
   obtain⟨cs,h9⟩:=hu.lt hb
   rw [h.blk] at h9
   injection h9 with h9
   injection h9 with h8 h7
   exact absurd h7 (by decide)).trans h.blk,h.size,fun j h1 h2=>by
  obtain⟨u,a,b,c⟩:=h.at9 j h1 h2
  exact⟨u,a,b.shape hs,c⟩⟩
theorem part_ge {old cells:Array Value} {i j:Nat} (hi:i+cells.size≤old.size) (hj:i+cells.size≤j):(partPut old cells i)[j]? = old[j]?:=by
 unfold partPut
 simp only [List.getElem?_toArray]
 have hlt:(old.toList.take i).length=i:=by rw [List.length_take,Array.length_toList];omega
 rw [List.getElem?_append_right (by omega),hlt,List.getElem?_append_right (by rw [Array.length_toList];omega),List.getElem?_drop,Array.length_toList,Array.getElem?_toList]
 congr 1
 omega
theorem part_size {old cells:Array Value} {i:Nat} (hi:i+cells.size≤old.size):(partPut old cells i).size=old.size:=by
 unfold partPut
 simp
 omega
theorem LoQ.put {B T:Nat} {wr w':World} {q:Nat} {cur cells:Array Value} {n i:Nat} (h:LoQ B T wr q cur n i) (hi:i<n) (hc:cells.size=3) (t:Touch q wr w') (hb:w'.heap[q]? = some (.cells (partPut cur cells (i*3)) 97 (0,0))):LoQ B T w' q (partPut cur cells (i*3)) n (i+1):=by
 have hsz:=h.size
 refine⟨h.low,hb,by rw [part_size (by omega)];exact h.size,fun j h1 h2=>?_⟩
 obtain⟨u,a,b,c⟩:=h.at9 j (by omega) h2
 refine⟨u,by rw [part_ge (by omega) (by omega)];exact a,?_,c⟩
 exact b.shape (Shape.but (But.touch t) h.blk hb (part_size (by omega)))
theorem in_begin {w w':World} {B:Nat} {v:Value} {l:List GReq} (h:OwnAt (AtW w ReqR) 3 w' B 97 v l):∃ aq c,v=.slice aq l.length c∧InRow B w' aq l 0∧l.length≤c∧c≤maxLen∧(l = []→∀ w9,RowAt ReqR 3 w9 (.slice aq l.length c) []):=by
 obtain⟨aq,c,rfl,h1,h2⟩:=h.row.len
 refine⟨aq,c,rfl,?_,h1,h2,fun hl w9=>?_⟩
 ·cases hl:l with
  | nil=>exact .inl rfl
  | cons a r=>
   rw [←hl]
   have hpos:0<l.length:=by rw [hl];exact Nat.succ_pos _
   obtain⟨g,cs,ds,e1,hg,-,-⟩:=told_cells h (by decide) (m:=0) (List.getElem?_eq_getElem hpos)
   refine .inr ⟨g,cs,e1,?_⟩
   have hown:=h
   obtain⟨css,g1,g2,g3,g4⟩:=hown
   have hsz:l.length*3≤cs.size∧B≤g:=by
    rcases g3.2 with ⟨h5,h6⟩ | ⟨q,cap,cur,h5,hB,hh,hr,hm,hz,-⟩
    ·omega
    ·injection h5 with z1 z2 z3
     rw [e1] at z1
     injection z1 with z1
     injection z1 with z1
     subst z1
     rw [hg] at hh
     injection hh with hh
     injection hh with hh
     subst hh
     exact⟨by omega,hB⟩
   refine⟨hsz.2,hg,hsz.1,fun j r hr=>?_⟩
   obtain⟨g',cs',ds',e1',hg',hR,hc⟩:=told_cells h (by decide) hr
   rw [e1] at e1'
   injection e1' with e1'
   injection e1' with e1'
   subst e1'
   obtain⟨v2,rfl,k1,k2⟩:=hR
   have c0:=hc 0 _ rfl
   have c1:=hc 1 _ rfl
   have c2:=hc 2 _ rfl
   rw [cell_block hg] at c0 c1 c2
   exact⟨c0,c1,k1,v2,c2,fun h9=>absurd h9 (Nat.not_lt_zero _)⟩
 ·subst hl
  exact row_nil9 h.row
end Sto
end Go.Proofs.YtnnceaapodgfbaaGreatDoor
namespace Go.Proofs.YtnnceaapodgfbaaGreatDoor.HexP
def val (c:Nat):Nat:=if 48≤c∧c≤57 then c - 48 else c - 87
end Go.Proofs.YtnnceaapodgfbaaGreatDoor.HexP
namespace Go.Proofs.YtnnceaapodgfbaaGreatDoor
namespace Pag
open Go.RowKit
open JP (Bs)
theorem list_size (s:ByteArray):s.data.toList.length=s.size:=by rw [Array.length_toList];rfl
theorem join_one (x:List UInt8) (sep:List UInt8):Lib.join [x] sep=x:=by simp [Lib.join,List.intercalate]
theorem join_more (x y:List UInt8) (r:List (List UInt8)) (sep:List UInt8):Lib.join (x :: y :: r) sep=x++(sep++Lib.join (y :: r) sep):=by simp [Lib.join,List.intercalate]
theorem u8_eq {c d:UInt8} (h:c.toNat=d.toNat):c=d:=UInt8.toNat_inj.1 h
theorem dec_some:∀ (ds:Bs) (acc:Nat),(∀ c∈ds,JP.digit c=true)→∃ n,Lib.decFrom acc ds=some n
 | [],acc,_=>⟨acc,rfl⟩
 | c :: r,acc,h=>by
  have hc:=h c (List.mem_cons_self ..)
  unfold Lib.decFrom
  unfold JP.digit at hc
  simp only [Bool.and_eq_true,decide_eq_true_eq] at hc
  have h1:48≤c.toNat:=UInt8.le_iff_toNat_le.1 hc.1
  have h2:c.toNat≤57:=UInt8.le_iff_toNat_le.1 hc.2
  have:Lib.digitVal c=some (c.toNat - 48):=by unfold Lib.digitVal;rw [if_pos ⟨h1,h2⟩]
  rw [this]
  exact dec_some r _ fun x hx=>h x (List.mem_cons_of_mem _ hx)
theorem parse_dec:∀ (ds:Bs) (acc n:Nat),(acc+1)*10 ^ ds.length≤1000000000000000000→Lib.decFrom acc ds=some n→Lib.parseUint10 acc ds=.ok n
 | [],acc,n,_,h=>by simp only [Lib.decFrom,Option.some.injEq] at h;subst h;rfl
 | c :: r,acc,n,hb,h=>by
  unfold Lib.decFrom at h
  unfold Lib.parseUint10
  cases hd:Lib.digitVal c with
  | none=>rw [hd] at h;cases h
  | some d=>
   rw [hd] at h
   unfold Lib.digitVal at hd
   split at hd
   ·rename_i hr
    simp only [Option.some.injEq] at hd
    subst hd
    have hp:1≤10 ^ r.length:=Nat.one_le_pow _ _ (by decide)
    rw [List.length_cons,Nat.pow_succ,Nat.mul_comm (10 ^ r.length) 10,←Nat.mul_assoc] at hb
    have h1:(acc+1)*10≤1000000000000000000:=Nat.le_trans (Nat.le_mul_of_pos_right _ hp) hb
    rw [if_pos hr,if_neg (by omega),if_neg (by omega)]
    refine parse_dec r _ n (Nat.le_trans (Nat.mul_le_mul_right _ ?_) hb) h
    omega
   ·cases hd
theorem parse_mag {ds:Bs} (h:∀ c∈ds,JP.digit c=true) (h0:ds≠[]) (hl:ds.length≤18):Lib.parseUintB 64 ds=.ok (JP.decV ds):=by
 obtain⟨n,hn⟩:=dec_some ds 0 h
 rw [Lib.parseUintB_64]
 unfold Lib.parseMag JP.decV
 rw [if_neg h0,hn]
 refine parse_dec ds 0 n ?_ hn
 have:(10:Nat) ^ ds.length≤10 ^ 18:=Nat.pow_le_pow_right (by decide) hl
 omega
end Pag
end Go.Proofs.YtnnceaapodgfbaaGreatDoor
namespace Go.Proofs.YtnnceaapodgfbaaGreatDoor
namespace Pag
open Go.RowKit
open JP (Bs)
theorem joinC_any {w:World} {v:Value} {l:List ByteArray} (c:UInt8) (h:RowAt RString 1 w v l) (hl:l.length≤1073741824) (h1:(Lib.join (l.map (·.data.toList)) [c]).length≤1073741824) :
  Calls Tryz.prog 101 #[v,.string ⟨#[c]⟩] w fun e w'=>e=.returned (.string (mkB (Lib.join (l.map (·.data.toList)) [c])))∧Below w.heap.size w w':=by
 by_cases h0:0<l.length
 ·obtain⟨b,o,cp,rfl,hc,_,hbs,hcell⟩:=h.form h0 (by omega)
  refine Tryz.strings_Join b o cp l ⟨#[c]⟩ w (fun j x hx=>?_) hbs (by omega) hc ?_
  ·obtain⟨cs,_,h2,h3⟩:=hcell j x hx
   rw [h3] at h2
   have:=h2 0 _ rfl
   simpa using this
  ·show (Lib.join _ [c]).length≤_;omega
 ·have hn:l = []:=List.eq_nil_of_length_eq_zero (by omega)
  subst hn
  obtain⟨a,cp,rfl,_,_⟩:=h.len
  refine (Tryz.strings_Join_none a cp ⟨#[c]⟩ w).mono ?_
  rintro e w' ⟨rfl,rfl⟩
  exact⟨rfl,Below.refl _ _⟩
end Pag
end Go.Proofs.YtnnceaapodgfbaaGreatDoor
namespace Go.Proofs.YtnnceaapodgfbaaGreatDoor
namespace Pag
open Go.RowKit
open JP (Bs)
structure GMark where
 kind:ByteArray
 space:ByteArray
 most:Nat
 rev:Nat
 lspace:ByteArray
 lname:ByteArray
def markL (m:GMark):List ByteArray:=[m.kind,m.space,mkB (Lib.itoa (m.most:Int)),mkB (Lib.itoa (m.rev:Int)),m.lspace,m.lname]
def pmarkB (m:GMark):Bs:=Lib.join ((markL m).map (·.data.toList)) [47]
def emptyOrName (s:ByteArray):Prop:=s=ByteArray.empty∨NameP.check s.data.toList=0
structure MarkOK (m:GMark):Prop where
 kind:NameP.check m.kind.data.toList=0
 space:emptyOrName m.space
 most:1≤m.most∧m.most≤50
 rev:1≤m.rev∧m.rev≤4194304
 lspace:emptyOrName m.lspace
 lname:NameP.check m.lname.data.toList=0
 size:m.kind.size≤1048576∧m.space.size≤1048576∧m.lspace.size≤1048576∧m.lname.size≤1048576
theorem join_len (c:UInt8):∀ l:List Bs,(Lib.join l [c]).length≤(l.map fun q=>q.length+1).sum
 | []=>by simp [Lib.join,List.intercalate]
 | [p]=>by rw [join_one];simp
 | p :: q :: r=>by
  have ih:=join_len c (q :: r)
  rw [join_more]
  simp only [List.map_cons,List.sum_cons,List.length_append,List.length_cons,List.length_nil] at ih ⊢
  omega
theorem mark_len (m:GMark) (h1:m.most≤50) (h2:m.rev≤4194304):(pmarkB m).length≤m.kind.size+m.space.size+m.lspace.size+m.lname.size+60:=by
 have h3:=join_len 47 ((markL m).map (·.data.toList))
 have i1:=Lib.itoa_length_le (m.most:Int) (by omega) (by omega)
 have i2:=Lib.itoa_length_le (m.rev:Int) (by omega) (by omega)
 unfold pmarkB
 simp only [markL,List.map_cons,List.map_nil,List.sum_cons,List.sum_nil,list_size,mkB_list] at h3 ⊢
 omega
theorem strAt_block {w:World} {g:Nat} {t:TypeId} {L:List ByteArray} (h:w.heap[g]? = some (.cells (strs L).toArray t (0,0))) (hl:L.length≤maxLen):StrAt w (.slice (some ⟨g,0,none⟩) L.length L.length) L:=by
 refine .inr ⟨_,_,rfl,Nat.le_refl _,hl,fun j x hx=>?_⟩
 rw [add_plain',Nat.zero_add]
 have:w.cell? ⟨g,j,none⟩=(strs L).toArray[j]?:=cell_block h j
 rw [this,List.getElem?_toArray]
 exact strs_get hx
theorem itoa_any (n:Int) (w:World) (b1 : -9223372036854775808≤n) (b2:n≤9223372036854775807) (ht:TabOK w):Calls Tryz.prog 86 #[.int .i64 n] w fun e w'=>e=.returned (.string (mkB (Lib.itoa n)))∧Below w.heap.size w w':=by
 refine (Tryz.strconv_Itoa n b1 b2 w ht).mono ?_
 rintro e w' ⟨rfl,k,os,rfl⟩
 exact⟨rfl,Lib.below_grow _ _ (Nat.le_refl _) _ _⟩
set_option maxRecDepth 100000 in
set_option maxHeartbeats 6400000 in
theorem text_any (m:GMark) (lk:ByteArray) (w:World) (h1:m.most≤50) (h2:m.rev≤4194304) (hz:m.kind.size≤1048576∧m.space.size≤1048576∧m.lspace.size≤1048576∧m.lname.size≤1048576) (ht:TabOK w) :
  Calls Tryz.prog 104 #[.agg #[.string m.kind,.string m.space,.int .i64 m.most,.int .i64 m.rev,.string lk,.string m.lspace,.string m.lname]] w fun e w'=>e=.returned (.string (mkB (pmarkB m)))∧Below w.heap.size w w':=by
 have hlen:=mark_len m h1 h2
 obtain⟨I1,hI1⟩:∃ I,mkB (Lib.itoa (m.most:Int))=I:=⟨_,rfl⟩
 obtain⟨I2,hI2⟩:∃ I,mkB (Lib.itoa (m.rev:Int))=I:=⟨_,rfl⟩
 have hparts:Lib.join (([m.kind,m.space,I1,I2,m.lspace,m.lname]:List ByteArray).map (·.data.toList)) [47]=pmarkB m:=by rw [←hI1,←hI2];rfl
 obtain⟨W,hW⟩:∃ W,W=w.alloc (.cells #[.string m.kind,.string m.space,.int .i64 m.most,.int .i64 m.rev,.string lk,.string m.lspace,.string m.lname] 139):=⟨_,rfl⟩
 have b1:W.heap[w.heap.size]? = some (.cells #[.string m.kind,.string m.space,.int .i64 m.most,.int .i64 m.rev,.string lk,.string m.lspace,.string m.lname] 139 (0,0)):=by rw [hW];exact heap_alloc_new w _
 have hb1:Below w.heap.size w W:=by rw [hW];exact (Below.refl _ w).alloc (Nat.le_refl _) _
 obtain⟨g,hg⟩:∃ g,g=w.heap.size:=⟨_,rfl⟩
 rw [←hg] at b1
 have hlt:g<W.heap.size:=by rw [hg,hW,World.size_alloc];omega
 have hgs:w.heap.size≤W.heap.size:=hb1.size
 have BG:=Lib.hid b1
 have HB1:=Lib.hid hb1
 obtain⟨nm,hnm⟩:∃ n:Int,(m.most:Int)=n:=⟨_,rfl⟩
 obtain⟨nr,hnr⟩:∃ n:Int,(m.rev:Int)=n:=⟨_,rfl⟩
 rw [hnm] at BG hI1 hW ⊢
 rw [hnr] at BG hI2 hW ⊢
 have HT1:Hid (∀ w',Below W.heap.size W w'→Calls Tryz.prog 86 #[.int .i64 nm] w' fun e w''=>e=.returned (.string I1)∧Below w'.heap.size w' w''):=Lib.hid fun w' hb=>by have:=itoa_any nm w' (by omega) (by omega) (ht.below (hb1.trans (hb.mono hgs)));rw [hI1] at this;exact this
 have HT2:Hid (∀ w',Below W.heap.size W w'→Calls Tryz.prog 86 #[.int .i64 nr] w' fun e w''=>e=.returned (.string I2)∧Below w'.heap.size w' w''):=Lib.hid fun w' hb=>by have:=itoa_any nr w' (by omega) (by omega) (ht.below (hb1.trans (hb.mono hgs)));rw [hI2] at this;exact this
 have HJ:Hid (∀ (w':World) (g':Nat),w'.heap[g']? = some (.cells #[.string m.kind,.string m.space,.string I1,.string I2,.string m.lspace,.string m.lname] 9 (0,0))→Calls Tryz.prog 101 #[.slice (some ⟨g',0,none⟩) 6 6,.string ⟨#[47]⟩] w' fun e w''=>e=.returned (.string (mkB (pmarkB m)))∧Below w'.heap.size w' w''):=Lib.hid fun w' g' hb=>by
  have h9:StrAt w' (.slice (some ⟨g',0,none⟩) 6 6) [m.kind,m.space,I1,I2,m.lspace,m.lname]:=strAt_block (L:=[m.kind,m.space,I1,I2,m.lspace,m.lname]) hb (by show 6≤maxLen;unfold maxLen;omega)
  have:=joinC_any 47 h9.row (by show 6≤1073741824;omega) (by rw [hparts];omega)
  rw [hparts] at this
  exact this
 obtain⟨T,hT⟩:∃ T,mkB (pmarkB m)=T:=⟨_,rfl⟩
 rw [hT] at HJ ⊢
 have cc:=fun i=>cell_block BG.out i
 clear hT hlen hparts hI1 hI2 ht h1 h2 hz hb1 b1 hnm hnr
 go_enter Tryz.func104,Tryz.ntmps104
 go_upto_region 1 with fail
 rw [←hW,←hg]
 clear hW hg
 refine wp_region_hold 16 (fun w'=>Below W.heap.size W w') (by kernel_rfl) (by kernel_rfl) ?_ ?_
 ·exact (Below.refl _ W).drew
 simp only [List.take_succ_cons,List.take_zero,List.drop_succ_cons,List.drop_zero]
 (first | (refine wpHold_pure (v:=?_) (by rfl) (fun w=>?_) ?_;rotate_left;focus (first | (go_simp;done) | (go_simp;with_reducible rfl))) | (refine wpHold_skip ?_ ?_;focus (go_simp;done)) | (refine wpHold_pure' (v:=?_) ?_ (fun w=>?_) ?_;rotate_left;focus (go_simp;done);focus (first | (go_simp;done) | (go_simp;with_reducible rfl))));try simp only [Act.put,List.setIfInBounds_toArray,List.set_cons_zero,List.set_cons_succ]
 refine wpHold_read (v:=.string m.kind) (by rfl) (fun w' hI=>?_) ?_
 ·have dd:=fun i=>(hI.cell (p:=⟨g,i,none⟩) hlt).trans (cc i)
  go_simp
  done
 try simp only [Act.put,List.setIfInBounds_toArray,List.set_cons_zero,List.set_cons_succ]
 (first | (refine wpHold_pure (v:=?_) (by rfl) (fun w=>?_) ?_;rotate_left;focus (first | (go_simp;done) | (go_simp;with_reducible rfl))) | (refine wpHold_skip ?_ ?_;focus (go_simp;done)) | (refine wpHold_pure' (v:=?_) ?_ (fun w=>?_) ?_;rotate_left;focus (go_simp;done);focus (first | (go_simp;done) | (go_simp;with_reducible rfl))));try simp only [Act.put,List.setIfInBounds_toArray,List.set_cons_zero,List.set_cons_succ]
 refine wpHold_read (v:=.string m.space) (by rfl) (fun w' hI=>?_) ?_
 ·have dd:=fun i=>(hI.cell (p:=⟨g,i,none⟩) hlt).trans (cc i)
  go_simp
  done
 try simp only [Act.put,List.setIfInBounds_toArray,List.set_cons_zero,List.set_cons_succ]
 (first | (refine wpHold_pure (v:=?_) (by rfl) (fun w=>?_) ?_;rotate_left;focus (first | (go_simp;done) | (go_simp;with_reducible rfl))) | (refine wpHold_skip ?_ ?_;focus (go_simp;done)) | (refine wpHold_pure' (v:=?_) ?_ (fun w=>?_) ?_;rotate_left;focus (go_simp;done);focus (first | (go_simp;done) | (go_simp;with_reducible rfl))));try simp only [Act.put,List.setIfInBounds_toArray,List.set_cons_zero,List.set_cons_succ]
 refine wpHold_read (v:=.int .i64 nm) (by rfl) (fun w' hI=>?_) ?_
 ·have dd:=fun i=>(hI.cell (p:=⟨g,i,none⟩) hlt).trans (cc i)
  go_simp
  done
 try simp only [Act.put,List.setIfInBounds_toArray,List.set_cons_zero,List.set_cons_succ]
 refine wpHold_call (v:=.string I1) (f:=86) (args:=#[.int .i64 nm]) (by rfl) (fun w'=>?_) (fun w' hI=>?_) ?_
 ·go_simp
  done
 ·exact (HT1.out w' hI).mono fun e w'' ⟨h1,h2⟩=>⟨h1,hI.trans (h2.mono hI.size)⟩
 try simp only [Act.put,List.setIfInBounds_toArray,List.set_cons_zero,List.set_cons_succ]
 (first | (refine wpHold_pure (v:=?_) (by rfl) (fun w=>?_) ?_;rotate_left;focus (first | (go_simp;done) | (go_simp;with_reducible rfl))) | (refine wpHold_skip ?_ ?_;focus (go_simp;done)) | (refine wpHold_pure' (v:=?_) ?_ (fun w=>?_) ?_;rotate_left;focus (go_simp;done);focus (first | (go_simp;done) | (go_simp;with_reducible rfl))));try simp only [Act.put,List.setIfInBounds_toArray,List.set_cons_zero,List.set_cons_succ]
 refine wpHold_read (v:=.int .i64 nr) (by rfl) (fun w' hI=>?_) ?_
 ·have dd:=fun i=>(hI.cell (p:=⟨g,i,none⟩) hlt).trans (cc i)
  go_simp
  done
 try simp only [Act.put,List.setIfInBounds_toArray,List.set_cons_zero,List.set_cons_succ]
 refine wpHold_call (v:=.string I2) (f:=86) (args:=#[.int .i64 nr]) (by rfl) (fun w'=>?_) (fun w' hI=>?_) ?_
 ·go_simp
  done
 ·exact (HT2.out w' hI).mono fun e w'' ⟨h1,h2⟩=>⟨h1,hI.trans (h2.mono hI.size)⟩
 try simp only [Act.put,List.setIfInBounds_toArray,List.set_cons_zero,List.set_cons_succ]
 (first | (refine wpHold_pure (v:=?_) (by rfl) (fun w=>?_) ?_;rotate_left;focus (first | (go_simp;done) | (go_simp;with_reducible rfl))) | (refine wpHold_skip ?_ ?_;focus (go_simp;done)) | (refine wpHold_pure' (v:=?_) ?_ (fun w=>?_) ?_;rotate_left;focus (go_simp;done);focus (first | (go_simp;done) | (go_simp;with_reducible rfl))));try simp only [Act.put,List.setIfInBounds_toArray,List.set_cons_zero,List.set_cons_succ]
 (first | (refine wpHold_pure (v:=?_) (by rfl) (fun w=>?_) ?_;rotate_left;focus (first | (go_simp;done) | (go_simp;with_reducible rfl))) | (refine wpHold_skip ?_ ?_;focus (go_simp;done)) | (refine wpHold_pure' (v:=?_) ?_ (fun w=>?_) ?_;rotate_left;focus (go_simp;done);focus (first | (go_simp;done) | (go_simp;with_reducible rfl))));try simp only [Act.put,List.setIfInBounds_toArray,List.set_cons_zero,List.set_cons_succ]
 refine wpHold_read (v:=.string m.lspace) (by rfl) (fun w' hI=>?_) ?_
 ·have dd:=fun i=>(hI.cell (p:=⟨g,i,none⟩) hlt).trans (cc i)
  go_simp
  done
 try simp only [Act.put,List.setIfInBounds_toArray,List.set_cons_zero,List.set_cons_succ]
 (first | (refine wpHold_pure (v:=?_) (by rfl) (fun w=>?_) ?_;rotate_left;focus (first | (go_simp;done) | (go_simp;with_reducible rfl))) | (refine wpHold_skip ?_ ?_;focus (go_simp;done)) | (refine wpHold_pure' (v:=?_) ?_ (fun w=>?_) ?_;rotate_left;focus (go_simp;done);focus (first | (go_simp;done) | (go_simp;with_reducible rfl))));try simp only [Act.put,List.setIfInBounds_toArray,List.set_cons_zero,List.set_cons_succ]
 (first | (refine wpHold_pure (v:=?_) (by rfl) (fun w=>?_) ?_;rotate_left;focus (first | (go_simp;done) | (go_simp;with_reducible rfl))) | (refine wpHold_skip ?_ ?_;focus (go_simp;done)) | (refine wpHold_pure' (v:=?_) ?_ (fun w=>?_) ?_;rotate_left;focus (go_simp;done);focus (first | (go_simp;done) | (go_simp;with_reducible rfl))));try simp only [Act.put,List.setIfInBounds_toArray,List.set_cons_zero,List.set_cons_succ]
 refine wpHold_read (v:=.string m.lname) (by rfl) (fun w' hI=>?_) ?_
 ·have dd:=fun i=>(hI.cell (p:=⟨g,i,none⟩) hlt).trans (cc i)
  go_simp
  done
 try simp only [Act.put,List.setIfInBounds_toArray,List.set_cons_zero,List.set_cons_succ]
 refine wpHold_nil ?_
 intro w' hI
 have hs2:=hI.size
 have HB3:=Lib.hid (HB1.out.trans (hI.mono hgs))
 clear hI HT1 HT2 cc BG
 have hb4:=(Below.refl w'.heap.size w').alloc (Nat.le_refl _) (.cells #[.string m.kind,.string m.space,.string I1,.string I2,.string m.lspace,.string m.lname] 9)
 have HJ2:=Lib.hid (HJ.out _ w'.heap.size (heap_alloc_new w' (.cells #[.string m.kind,.string m.space,.string I1,.string I2,.string m.lspace,.string m.lname] 9)))
 have HB4:=Lib.hid hb4
 clear hb4 HJ
 go_wp2_with fail
 refine HJ2.out.mono ?_
 rintro E w5 ⟨rfl,hb⟩
 have HB5:=Lib.hid ((HB3.out.trans (HB4.out.mono HB3.out.size)).trans (hb.mono (Nat.le_trans HB3.out.size HB4.out.size)))
 clear hb HJ2
 go_wp2_with fail
 go_ret
 exact⟨rfl,HB5.out⟩
end Pag
end Go.Proofs.YtnnceaapodgfbaaGreatDoor
namespace Go.Proofs.YtnnceaapodgfbaaGreatDoor
namespace Sto
open Go.RowKit
def FirstAt {α:Type} (l:List α) (p:α→Bool) (w:World) (e:Ending) (w':World):Prop:=
 ∃ n:Int,e=.returned (.int .i64 n)∧((n = -1∧l.find? p=none)∨∃ (i:Nat) (x:α),n=(i:Int)∧l[i]? = some x∧l.find? p=some x∧∀ y∈l.take i,p y=false)∧Below w.heap.size w w'
theorem find_at {α:Type} {l:List α} {p:α→Bool} {i:Nat} {x:α} (h:l[i]? = some x) (hp:p x=true) (hn:∀ y∈l.take i,p y=false):l.find? p=some x:=by
 have hi:=(List.getElem?_eq_some_iff.1 h).1
 have he:=(List.getElem?_eq_some_iff.1 h).2
 have h1:l=l.take i++x :: l.drop (i+1):=by rw [←he,←List.drop_eq_getElem_cons hi,List.take_append_drop]
 rw [h1,List.find?_append,List.find?_eq_none.2 (fun y hy=>by rw [hn y hy];simp)]
 simp [hp]
set_option maxRecDepth 100000 in
theorem cloneObjs_any {R:Rd GObject} (hf:Flat R) (h1:OneR R) (v:Value) (l:List GObject) (w:World) (h:RowAt R 10 w v l) (hl:l.length≤4194304) :
  Calls Tryz.prog 103 #[v] w fun e w'=>∃ v',e=.returned v'∧OwnAt R 10 w' w.heap.size 30 v' l∧Below w.heap.size w w':=by
 obtain⟨i0,hi0,hz0,hz1,hz2⟩:=info_parts Tryz.infoObjL
 have hrow:=h
 have hn:=fun (w:World) (a:Option Addr) (n c:Nat)=>Lib.run_eql_slice_nil (P:=Tryz.prog) w 45 30 a n c 0 0 Tryz.underlying45
 rcases h with ⟨rfl,rfl⟩ | ⟨a,c,rfl,_,_,_⟩
 ·go_enter Tryz.func103,Tryz.ntmps103
  go_wp2_with fail
  go_ret
  exact⟨_,rfl,OwnAt.nil _,Below.refl _ _⟩
 ·have Hrow:=Lib.hid hrow
  have Hf:=Lib.hid hf
  have H1:=Lib.hid h1
  clear hrow hf h1
  go_enter Tryz.func103,Tryz.ntmps103
  go_wp2_with (at_builtin;refine wpList_append_ownAt (R:=R) (k:=10) (e:=30) (B:=w.heap.size) (l:=[]) (m:=l) _ (by rfl) _ _ _ (by rfl) i0 _ 168 Tryz.underlying45 hi0 hz0 hz1 hz2 rfl (by omega) Hf.out H1.out _ (by rfl) (own_empty w 10 _ (Nat.le_refl _)) _ (by rfl) (Hrow.out.below Hf.out.stays ((Below.refl _ _).alloc (Nat.le_refl _) _)) (by unfold maxLen;simp;omega) (by simp;omega) (by simp) ?_)
  intro v' w' hv' hg hr _
  have hb:Below w.heap.size w w':=below_of_grown ((Below.refl _ _).alloc (Nat.le_refl _) _) (by simp) hg hr
  go_wp2_with fail
  go_ret
  exact⟨_,rfl,by simpa using hv',hb⟩
end Sto
end Go.Proofs.YtnnceaapodgfbaaGreatDoor
namespace Go.Proofs.YtnnceaapodgfbaaGreatDoor
namespace Sto
open Go.RowKit
theorem sum_mem {α:Type} {f:α→Nat}:∀ {l:List α} {x:α},x∈l→f x≤(l.map f).sum
 | a :: r,x,h=>by
  rw [List.map_cons,List.sum_cons]
  rcases List.mem_cons.1 h with rfl | h
  ·omega
  ·have:=sum_mem (f:=f) h;omega
theorem sum_length {α:Type} {f:α→Nat} {c:Nat}:∀ {l:List α},(∀ x∈l,c≤f x)→l.length*c≤(l.map f).sum
 | [],_=>by simp
 | a :: r,h=>by
  rw [List.map_cons,List.sum_cons,List.length_cons,Nat.add_mul,Nat.one_mul]
  have h1:=sum_length (f:=f) (c:=c) (l:=r) fun x hx=>h x (List.mem_cons_of_mem _ hx)
  have h2:=h a List.mem_cons_self
  omega
theorem okObj_bulk {o:GObject} (h:objectB o≤1048576) (hr:i64 o.rev):OkObj o:=by
 unfold objectB keyB at h
 have h1:=sum_length (f:=labelB) (c:=1) (l:=o.labels) fun x _=>by unfold labelB;omega
 have h2:=total_length o.owners
 have h3:=total_length o.holds
 exact⟨by omega,by omega,by omega,⟨by omega,fun r hr=>by have h5:=sum_mem (f:=labelB) hr;have h6:labelB r=((r.key.size+1)+((r.val.size+1)+0))+1:=rfl;unfold okLab;omega⟩,⟨by omega,fun s hs=>by have:=total_mem hs;omega⟩,⟨by omega,fun s hs=>by have:=total_mem hs;omega⟩,by omega,hr,by omega⟩
theorem okSteps_bulk {w:World} {v:Value} {l:List GStoreStep} (h:RowAt StoreStepR 12 w v l) (hb:(l.map storeStepB).sum≤1048576):(∀ x∈l,OkObj x.o)∧l.length≤1048576:=by
 have h0:=sum_length (f:=storeStepB) (c:=1) (l:=l) fun x _=>by unfold storeStepB;omega
 refine⟨fun x hx=>?_,by omega⟩
 have h1:=sum_mem (f:=storeStepB) hx
 have h6:storeStepB x=(1+(1+(objectB x.o+0)))+1:=rfl
 refine okObj_bulk (by omega) ?_
 obtain⟨a,c,rfl,_,_⟩:=h.len
 obtain⟨i,hi,he⟩:=List.getElem_of_mem hx
 obtain⟨b,o,c',hv,_,_,hbs,hcell⟩:=h.form (by omega) (by omega)
 obtain⟨ds,_,hcc,c2,rfl,_,_,v1,v2,v3,rfl,g1,g2,g3,g4⟩:=hcell i x (by rw [List.getElem?_eq_getElem hi,he])
 exact g4
end Sto
end Go.Proofs.YtnnceaapodgfbaaGreatDoor
namespace Go.Proofs.YtnnceaapodgfbaaGreatDoor
namespace Sto
open Go.RowKit
theorem okObj_list {S:St} (h:OkSt S) {kind space:ByteArray} {r:Int} {a:List GObject} (ha:ListTold S kind space r a):∀ o∈a,OkObj o:=fun o ho=>by
 by_cases he:listE S kind space r=0
 ·obtain⟨-,hc⟩:=((ha.2 he).2 o).1 ho
  obtain⟨e,h1,h2⟩:=cur_mem hc
  exact h2▸h.obj e (List.mem_of_mem_take h1)
 ·rw [ha.1 he] at ho;cases ho
theorem list_short {S:St} (h:OkSt S) {kind space:ByteArray} {r:Int} {a:List GObject} (ha:ListTold S kind space r a):a.length≤4194304:=by
 by_cases he:listE S kind space r=0
 ·have h1:=ha.2 he
  have hn:(a.map (·.okey)).Nodup:=by
   rw [List.nodup_iff_pairwise_ne,List.pairwise_map]
   refine h1.1.imp_of_mem fun {x y} hx hy hxy hk=>?_
   have h2:x=y:=by
    have e1:=((h1.2 x).1 hx).2
    have e2:=((h1.2 y).1 hy).2
    rw [hk,e2] at e1;cases e1;rfl
   subst h2
   exact ahead_irrefl _ hxy
  have h2:=live_keys (h.good.fit (timeT S r) (timeT_le S r)) (a.map (·.okey)) hn fun k hk=>by
   obtain⟨o,ho,rfl⟩:=List.mem_map.1 hk
   rw [((h1.2 o).1 ho).2];rfl
  have h3:=live_le (S.log.take (timeT S r))
  rw [List.length_take] at h3
  rw [List.length_map] at h2
  have:=h.rev
  unfold St.rev at this
  omega
 ·rw [ha.1 he];exact Nat.zero_le _
end Sto
end Go.Proofs.YtnnceaapodgfbaaGreatDoor
namespace Go.Proofs.YtnnceaapodgfbaaGreatDoor
namespace Sto
open Go.RowKit
structure Seen (log:List GEvent) (kinds:List ByteArray) (A:List GObject):Prop where
 keys:(A.map (·.okey)).Nodup
 here:∀ o∈A,cur log o.okey=some o
 kind:∀ o∈A,o.okey.kind∈kinds
section
variable {log : List GEvent} {ks ks' : List ByteArray} {A B L : List GObject} {kind : ByteArray}
end
end Sto
end Go.Proofs.YtnnceaapodgfbaaGreatDoor
namespace Go.Proofs.YtnnceaapodgfbaaGreatDoor
open Go.RowKit
end Go.Proofs.YtnnceaapodgfbaaGreatDoor
namespace Go.Proofs.YtnnceaapodgfbaaGreatDoor
namespace Sto
open Go.RowKit
theorem obj_cells {I:Dom} {w w':World} {va:Option Addr} {vn vc:Nat} {vs:List GObject} (h:RowAt (ObjX I w) 10 w (.slice va vn vc) vs) (hn:vs.length=vn) (hb:Below w.heap.size w w') {m:Nat} {e:GObject} (he:vs[m]? = some e) :
  ∃ b o v1 v2 v3,va=some ⟨b,o,none⟩∧ObjIn I w v1 v2 v3 e∧∀ i u,(objCs e v1 v2 v3)[i]? = some u→w'.cell? ⟨b,o+m*10+i,none⟩=some u:=by
 have hm:=(List.getElem?_eq_some_iff.1 he).1
 obtain⟨b,o,c',hv,_,_,hbs,hcell⟩:=h.form (by omega) (by omega)
 injection hv with u1 u2 u3
 obtain⟨ds,_,hcc,v1,v2,v3,rfl,hobj⟩:=hcell m e he
 exact⟨b,o,v1,v2,v3,u1,hobj,fun i u hu=>(hb.cell (p:=⟨b,_,none⟩) hbs).trans (hcc i u hu)⟩
theorem row_takeS {α:Type} {R:Rd α} {k:Nat} {w:World} {ao:Option Addr} {n c:Nat} {l:List α} (h:RowAt R k w (.slice ao n c) l) {i:Nat} (hi:i≤l.length):RowAt R k w (.slice ao i c) (l.take i):=by
 rcases h with ⟨h1,rfl⟩ | ⟨a,c',h1,h2,h3,h4⟩
 ·cases h1
  obtain rfl:i=0:=by simpa using hi
  exact .inl ⟨rfl,by simp⟩
 ·injection h1 with u1 u2 u3
  subst u1 u3
  have hlen:(l.take i).length=i:=by rw [List.length_take];omega
  refine .inr ⟨a,c,by rw [hlen],by omega,h3,fun j x hx=>?_⟩
  have hj:j<i:=by have:=(List.getElem?_eq_some_iff.1 hx).1;omega
  rw [List.getElem?_take_of_lt hj] at hx
  exact h4 j x hx
end Sto
end Go.Proofs.YtnnceaapodgfbaaGreatDoor
namespace Go.Proofs.YtnnceaapodgfbaaGreatDoor
namespace Sto
open Go.RowKit Pag
open JP (Bs)
def moreB (mk ms:ByteArray) (most rev:Nat) (L:List GObject):Bs:=if most<L.length then (match L[most - 1]? with | some o=>pmarkB ⟨mk,ms,most,rev,o.okey.space,o.okey.name⟩ | none=>[]) else []
theorem Tryz.sizePage:(Tryz.prog.info? 73).map (·.size)=some 3:=by kernel_rfl
theorem Tryz.sizeKeyP:(Tryz.prog.info? 24).map (·.size)=some 3:=by kernel_rfl
set_option maxRecDepth 100000 in
set_option maxHeartbeats 6400000 in
theorem page_any {E:Dom} {w:World} {v:Value} {L:List GObject} (h:OwnX ObjX 10 E w 30 v L) (hE:∀ b,E b→b<w.heap.size) (hn:L.length≤4194304) (okL:∀ o∈L,OkObj o) (mk ms lk ls ln:ByteArray) (most rev:Nat) (h1:1≤most) (h2:most≤50) (h3:rev≤4194304) (hz:mk.size≤1048576∧ms.size≤1048576) (ht:TabOK w) :
  Calls Tryz.prog 70 #[v,.agg #[.string mk,.string ms,.int .i64 most,.int .i64 rev,.string lk,.string ls,.string ln]] w fun e w'=>Below w.heap.size w w'∧∃ E' v',e=.returned (.agg #[v',.int .i64 rev,.string (mkB (moreB mk ms most rev L))])∧OwnX ObjX 10 E' w' 30 v' (L.take most)∧∀ b,E' b→E b∨(w.heap.size≤b∧b<w'.heap.size):=by
 obtain⟨aL,cL,rfl,hlc,-⟩:=h.own.row.len
 obtain⟨nL,HnL⟩:∃ n,Hid (L.length=n):=⟨_,Lib.hid rfl⟩
 rw [HnL.out] at h hn hlc ⊢
 have H:=Lib.hid h
 have HE:=Lib.hid hE
 have Hok:=Lib.hid okL
 have HT:=Lib.hid ht
 obtain⟨W,hW⟩:∃ W,W=(w.alloc (.cells #[.string mk,.string ms,.int .i64 most,.int .i64 rev,.string lk,.string ls,.string ln] 139)).alloc (.cells #[.slice none 0 0,.int .i64 0,.string {data:=#[]}] 73):=⟨_,rfl⟩
 obtain⟨gm,hgm⟩:∃ g,g=w.heap.size:=⟨_,rfl⟩
 obtain⟨gr,hgr⟩:∃ g,g=w.heap.size+1:=⟨_,rfl⟩
 have BM:=Lib.hid (show W.heap[gm]? = some (.cells #[.string mk,.string ms,.int .i64 most,.int .i64 rev,.string lk,.string ls,.string ln] 139 (0,0)) by rw [hW,hgm];exact heap_alloc_old (heap_alloc_new w _))
 have BR:=Lib.hid (show W.heap[gr]? = some (.cells #[.slice none 0 0,.int .i64 0,.string {data:=#[]}] 73 (0,0)) by rw [hW,hgr];exact heap_alloc_at (World.size_alloc _ _).symm)
 have hb1:Below w.heap.size w W:=by rw [hW];exact ((Below.refl _ w).alloc (Nat.le_refl _) _).alloc (by rw [World.size_alloc];omega) _
 have hs1:W.heap.size=w.heap.size+2:=by rw [hW,World.size_alloc,World.size_alloc]
 have HB1:=Lib.hid hb1
 have hwm:w.heap.size≤gm:=by omega
 have hwr:w.heap.size≤gr:=by omega
 have hmr:gm≠gr:=by omega
 have hrl:gr<W.heap.size:=by omega
 have hml:gm<W.heap.size:=by omega
 have hMb:Hid (moreB mk ms most rev L=if most<nL then (match L[most - 1]? with | some o=>pmarkB ⟨mk,ms,most,rev,o.okey.space,o.okey.name⟩ | none=>[]) else []):=Lib.hid (by unfold moreB;rw [HnL.out])
 obtain⟨MB,HMB⟩:∃ x,Hid (moreB mk ms most rev L=x):=⟨_,Lib.hid rfl⟩
 rw [HMB.out] at hMb ⊢
 clear h hE okL ht hb1
 go_enter Tryz.func70,Tryz.ntmps70
 go_upto_region 1 with fail
 have hex:((w.alloc (.cells #[.string mk,.string ms,.int .i64 most,.int .i64 rev,.string lk,.string ls,.string ln] 139)).alloc (.cells #[.slice none 0 0,.int .i64 0,.string {data:=#[]}] 73))=W:=hW.symm
 rw [hex]
 try rw [←hgr]
 rw [←hgm]
 clear hW hex hgm hgr hs1
 have cm:=fun i=>cell_block BM.out i
 have h7:=Lib.hid (heap_alloc_new W (.cells #[.slice none 0 0,.int .i64 0,.string {data:=#[]}] 73))
 have h4:=Lib.hid ((Below.refl W.heap.size W).alloc (Nat.le_refl _) (.cells #[.slice none 0 0,.int .i64 0,.string {data:=#[]}] 73))
 have h9:Hid ((W.alloc (.cells #[.slice none 0 0,.int .i64 0,.string {data:=#[]}] 73)).heap.size=W.heap.size+1):=Lib.hid (World.size_alloc _ _)
 go_wp2_with (refine wpList_store_box (by rfl) _ _ _ (by rfl) W.heap.size #[.slice aL nL cL,.int .i64 rev,.string {data:=#[]}] (by rfl) (by rfl) _ _ (by exact h7.out) (by exact Tryz.sizePage) (by rfl) (by simp [Value.oneCell']) ?_)
 intro w2 b2 t2
 obtain⟨gp,hgp⟩:∃ g,W.heap.size=g:=⟨_,rfl⟩
 have hb2:=t2.below h4.out (Nat.le_refl _)
 have hs2:w2.heap.size=W.heap.size+1:=t2.size.trans h9.out
 rw [hgp] at b2 hs2 hrl hml ⊢
 have BP:=Lib.hid b2
 have BM2:=Lib.hid (below_block hb2 BM.out)
 have BR2:=Lib.hid (below_block hb2 BR.out)
 have HB2:=Lib.hid (HB1.out.trans (hb2.mono HB1.out.size))
 have hpl:gp<w2.heap.size:=by omega
 clear b2 t2 hb2 h7 h4 h9 BM BR HB1 cm hgp hs2
 have cm:=fun i=>cell_block BM2.out i
 by_cases hlt:most<nL
 ·have q0:decide (most<nL)=true:=decide_eq_true hlt
  obtain⟨x,hx⟩:∃ x,L[most - 1]? = some x:=⟨L[most - 1]'(by rw [HnL.out];omega),List.getElem?_eq_getElem _⟩
  have Hm:Hid (MB=pmarkB ⟨mk,ms,most,rev,x.okey.space,x.okey.name⟩):=Lib.hid (by rw [hMb.out,if_pos hlt,hx])
  obtain⟨bx,ox,v1,v2,v3,hva,hobj,ec⟩:=obj_cells H.out.own.row HnL.out HB2.out hx
  subst hva
  obtain⟨a7,c7,rfl,-,-⟩:=hobj.rowL.len
  obtain⟨a8,c8,rfl,-,-⟩:=hobj.rowO.row.len
  obtain⟨a9,c9,rfl,-,-⟩:=hobj.rowH.row.len
  have g0:=ec 0 _ rfl
  have g1:=ec 1 _ rfl
  have g2:=ec 2 _ rfl
  rw [Nat.add_zero] at g0
  have Hx:Hid (OkObj x):=Lib.hid (Hok.out x (List.mem_of_getElem? hx))
  have hbx:bx<w.heap.size:=by
   obtain⟨b',o',c',hv,_,_,hbs,hcell⟩:=H.out.own.row.form (by rw [HnL.out];omega) (by omega)
   injection hv with u1 u2 u3
   injection u1 with u1
   injection u1 with u1 u4
   rw [u1];exact hbs
  obtain⟨q,hqa,hqb⟩:∃ q,q<most∧most≤q+1:=⟨most - 1,by omega,by omega⟩
  rw [show most - 1=q by omega] at g0 g1 g2
  have G0:=Lib.hid g0
  have G1:=Lib.hid g1
  have G2:=Lib.hid g2
  have HTx:=Lib.hid (HT.out.below HB2.out)
  have q1:(0:Int)≤(most:Int):=by omega
  have q2:(most:Int)≤(cL:Int):=by omega
  have HCl:=Lib.hid (cloneObjs_any (R:=ObjX E w) (famObj.flat _ _) (famObj.one _ _) (.slice (some ⟨bx,ox,none⟩) most cL) (L.take most) w2 (row_takeS (H.out.own.row.below (famObj.flat E w).stays HB2.out) (by rw [HnL.out];omega)) (by rw [List.length_take,HnL.out];omega))
  clear hx ec hobj g0 g1 g2 hMb
  go_wp2_with fail
  refine HCl.out.mono ?_
  rintro E1 w3 ⟨v',rfl,hv',hb3⟩
  obtain⟨av,cv,rfl,-,-⟩:=hv'.row.len
  obtain⟨nv,Hnv⟩:∃ n,Hid ((L.take most).length=n):=⟨_,Lib.hid rfl⟩
  rw [Hnv.out] at hv' ⊢
  have HV:=Lib.hid hv'
  have BP3:=Lib.hid (below_block hb3 BP.out)
  have BM3:=Lib.hid (below_block hb3 BM2.out)
  have BR3:=Lib.hid (below_block hb3 BR2.out)
  have HB3:=Lib.hid (HB2.out.trans (hb3.mono HB2.out.size))
  have hs3:=hb3.size
  have hw2:=HB2.out.size
  have E0:=Lib.hid ((hb3.cell (p:=⟨bx,ox+q*10,none⟩) (by show bx<_;omega)).trans G0.out)
  have E1':=Lib.hid ((hb3.cell (p:=⟨bx,ox+q*10+1,none⟩) (by show bx<_;omega)).trans G1.out)
  have E2:=Lib.hid ((hb3.cell (p:=⟨bx,ox+q*10+2,none⟩) (by show bx<_;omega)).trans G2.out)
  clear hv' hb3 HCl cm BP BM2 BR2 G0 G1 G2
  -- p.Objects
  have cp:=fun i=>cell_block BP3.out i
  have fp:=fun i=>free_block BP3.out i
  obtain⟨w4,hw4⟩:∃ w9,w3.setCell ⟨gp,0,none⟩ (.slice av nv cv)=w9:=⟨_,rfl⟩
  have t4:=touch_setCell (i:=0) (v:=.slice av nv cv) BP3.out
  rw [hw4] at t4
  have BP4:Hid (w4.heap[gp]? = some (.cells #[.slice av nv cv,.int .i64 rev,.string {data:=#[]}] 73 (0,0))):=Lib.hid t4.1
  have BM4:=Lib.hid (t4.2.block BM3.out (by omega))
  have BR4:=Lib.hid (t4.2.block BR3.out (by omega))
  have HB4:=Lib.hid (t4.2.below HB3.out (by omega))
  have hs4:=t4.2.size
  have F0:Hid (w4.cell? ⟨bx,ox+q*10,none⟩=some (.string x.okey.kind)):=Lib.hid ((by unfold World.cell?;rw [t4.2.other bx (by omega)]:w4.cell? ⟨bx,ox+q*10,none⟩=w3.cell? ⟨bx,ox+q*10,none⟩).trans E0.out)
  have F1:Hid (w4.cell? ⟨bx,ox+q*10+1,none⟩=some (.string x.okey.space)):=Lib.hid ((by unfold World.cell?;rw [t4.2.other bx (by omega)]:w4.cell? ⟨bx,ox+q*10+1,none⟩=w3.cell? ⟨bx,ox+q*10+1,none⟩).trans E1'.out)
  have F2:Hid (w4.cell? ⟨bx,ox+q*10+2,none⟩=some (.string x.okey.name)):=Lib.hid ((by unfold World.cell?;rw [t4.2.other bx (by omega)]:w4.cell? ⟨bx,ox+q*10+2,none⟩=w3.cell? ⟨bx,ox+q*10+2,none⟩).trans E2.out)
  have HV4:Hid (OwnAt (ObjX E w) 10 w4 w2.heap.size 30 (.slice av nv cv) (L.take most)):=Lib.hid (HV.out.stay (famObj.flat _ _) fun b hb=>t4.2.other b (by have:=(HV.out.at hb).1;omega))
  go_upto_region 4 with fail
  try rw [hw4]
  clear hw4 t4 cp fp BP3 BM3 BR3 HB3 E0 E1' E2 HV
  have f0:=F0.out
  have f1:=F1.out
  have f2:=F2.out
  have cm:=fun i=>cell_block BM4.out i
  have q3:(0:Int)≤(q:Int):=by omega
  have q4:(q:Int)<(nL:Int):=by omega
  have q5:IntKind.i64.wrap (q:Int)=(q:Int):=IntWalk.i64_in _ (by omega)
  have q6:IntKind.i64.wrap ((most:Int) - 1)=(q:Int):=by rw [show (most:Int) - 1=(q:Int) by omega];exact q5
  go_wp2_with (refine wpList_store_part (by rfl) _ _ _ (by rfl) gm 4 #[.string x.okey.kind,.string x.okey.space,.string x.okey.name] (by rfl) (by rfl) _ #[.string mk,.string ms,.int .i64 most,.int .i64 rev,.string lk,.string ls,.string ln] (by exact BM4.out) (by exact Tryz.sizeKeyP) (by exact (by decide:4+3≤7)) (by simp [Value.oneCell']) ?_;intro w5 b5 t5;have cm5:=fun i=>cell_block (show w5.heap[gm]? = some (.cells #[.string mk,.string ms,.int .i64 most,.int .i64 rev,.string x.okey.kind,.string x.okey.space,.string x.okey.name] 139 (0,0)) from b5) i)
  have HB5:=Lib.hid (t5.below HB4.out hwm)
  have BP5:=Lib.hid (t5.block BP4.out (by omega))
  have BR5:=Lib.hid (t5.block BR4.out (by omega))
  have hs5:=t5.size
  have HV5:Hid (OwnAt (ObjX E w) 10 w5 w2.heap.size 30 (.slice av nv cv) (L.take most)):=Lib.hid (HV4.out.stay (famObj.flat _ _) fun b hb=>t5.other b (by have:=(HV4.out.at hb).1;omega))
  have HTt:=Lib.hid (Pag.text_any ⟨mk,ms,most,rev,x.okey.space,x.okey.name⟩ x.okey.kind w5 h2 h3 ⟨hz.1,hz.2,Hx.out.space,Hx.out.name⟩ (HT.out.below HB5.out))
  rw [←Hm.out] at HTt
  clear b5 t5 BP4 BM4 BR4 HB4 HV4 f0 f1 f2 F0 F1 F2
  refine HTt.out.mono ?_
  rintro E6 w6 ⟨rfl,hb6⟩
  have BP6:=Lib.hid (below_block hb6 BP5.out)
  have BR6:=Lib.hid (below_block hb6 BR5.out)
  have HB6:=Lib.hid (HB5.out.trans (hb6.mono HB5.out.size))
  have hs6:=hb6.size
  have HV6:Hid (OwnAt (ObjX E w) 10 w6 w2.heap.size 30 (.slice av nv cv) (L.take most)):=Lib.hid (HV5.out.stay (famObj.flat _ _) fun b hb=>hb6.block b (HV5.out.at hb).2.1)
  clear hb6 BP5 BR5 HB5 HV5 cm cm5 HTt
  have cp:=fun i=>cell_block BP6.out i
  have fp:=fun i=>free_block BP6.out i
  obtain⟨w7,hw7⟩:∃ w9,w6.setCell ⟨gp,2,none⟩ (.string (mkB MB))=w9:=⟨_,rfl⟩
  have t7:=touch_setCell (i:=2) (v:=.string (mkB MB)) BP6.out
  rw [hw7] at t7
  have BP7:Hid (w7.heap[gp]? = some (.cells #[.slice av nv cv,.int .i64 rev,.string (mkB MB)] 73 (0,0))):=Lib.hid t7.1
  have BR7:=Lib.hid (t7.2.block BR6.out (by omega))
  have HB7:=Lib.hid (t7.2.below HB6.out (by omega))
  have hs7:=t7.2.size
  have HV7:Hid (OwnAt (ObjX E w) 10 w7 w2.heap.size 30 (.slice av nv cv) (L.take most)):=Lib.hid (HV6.out.stay (famObj.flat _ _) fun b hb=>t7.2.other b (by have:=(HV6.out.at hb).1;omega))
  go_upto_region 6 with fail
  try rw [hw7]
  clear hw7 t7 cp fp BP6 BR6 HB6 HV6
  have cp:=fun i=>cell_block BP7.out i
  go_wp2_with (refine wpList_store_box (by rfl) _ _ _ (by rfl) gr #[.slice av nv cv,.int .i64 rev,.string (mkB MB)] (by rfl) (by rfl) _ _ (by exact BR7.out) (by exact Tryz.sizePage) (by rfl) (by simp [Value.oneCell']) ?_)
  intro WF bF tF
  have HF:=Lib.hid (tF.below HB7.out hwr)
  have hsF:=tF.size
  have HVF:Hid (OwnAt (ObjX E w) 10 WF w2.heap.size 30 (.slice av nv cv) (L.take most)):=Lib.hid (HV7.out.stay (famObj.flat _ _) fun b hb=>tF.other b (by have:=(HV7.out.at hb).1;omega))
  go_wp2_with fail
  refine bodyPost_ret (v:=.agg #[.slice av nv cv,.int .i64 rev,.string (mkB MB)]) ?_ rfl ?_
  ·exact results_one_box Tryz.results70 _ _ gr _ _ _ _ (by rfl) bF Tryz.underlying73 rfl (by exact Tryz.sizePage)
  ·refine⟨HF.out,fun b=>E b∨(w.heap.size≤b∧b<WF.heap.size),_,rfl,⟨?_,fun b hb=>.inr ⟨?_,(HVF.out.at hb).2.1⟩⟩,fun b hb=>hb⟩
   ·refine ((HVF.out.imp' fun cs y _ hy=>?_)).mono (Nat.zero_le _)
    exact famObj.mono _ _ _ _ _ _ (fun b hb=>.inl hb) (famObj.agree _ _ _ _ _ _ (fun b hb=>HF.out.block b (HE.out b hb)) hy)
   ·have:=(HVF.out.at hb).1
    have:=HB2.out.size
    omega
 ·have q0:decide (most<nL)=false:=decide_eq_false hlt
  have Hm:Hid (MB = []):=Lib.hid (by rw [hMb.out,if_neg hlt])
  have Htk:Hid (L.take most=L):=Lib.hid (List.take_of_length_le (by rw [HnL.out];omega))
  have cp:=fun i=>cell_block BP.out i
  clear hlt
  go_wp2_with (refine wpList_store_box (by rfl) _ _ _ (by rfl) gr #[.slice aL nL cL,.int .i64 rev,.string {data:=#[]}] (by rfl) (by rfl) _ _ (by exact BR2.out) (by exact Tryz.sizePage) (by rfl) (by simp [Value.oneCell']) ?_)
  intro WF bF tF
  have HF:=Lib.hid (tF.below HB2.out hwr)
  go_wp2_with fail
  refine bodyPost_ret (v:=.agg #[.slice aL nL cL,.int .i64 rev,.string {data:=#[]}]) ?_ rfl ?_
  ·exact results_one_box Tryz.results70 _ _ gr _ _ _ _ (by rfl) bF Tryz.underlying73 rfl (by exact Tryz.sizePage)
  ·exact⟨HF.out,E,_,by rw [Hm.out];rfl,by rw [Htk.out];exact H.out.agree famObj fun b hb=>HF.out.block b (HE.out b hb),fun b hb=>.inl hb⟩
end Sto
end Go.Proofs.YtnnceaapodgfbaaGreatDoor
namespace Go.Proofs.YtnnceaapodgfbaaGreatDoor
namespace Pag
open Go.RowKit
open JP (Bs)
end Pag
end Go.Proofs.YtnnceaapodgfbaaGreatDoor
namespace Go.Proofs.YtnnceaapodgfbaaGreatDoor
namespace Sto
open Go.RowKit Pag
open JP (Bs)
set_option maxRecDepth 100000 in
set_option maxHeartbeats 6400000 in
theorem first_any {D:Dom} {w:World} {g:Nat} {S:St} (h:StoreAt D w g S) (hS:OkSt S) (kind space:ByteArray) (hk:kind.size≤1048576) (hs:space.size≤1048576) (most:Nat) (h1:1≤most) (h2:most≤50) (ht:TabOK w) :
  Calls Tryz.prog 31 #[.pointer (some ⟨g,0,none⟩),.string kind,.string space,.int .i64 most] w fun e w'=>Below w.heap.size w w'∧∃ E v' L rv mb,ListTold S kind space 0 L∧e=.returned (.tuple #[.agg #[v',.int .i64 (rv:Nat),.string (mkB mb)],.int .i64 (listE S kind space 0)])∧OwnX ObjX 10 E w' 30 v' (L.take most)∧(∀ b,E b→w.heap.size≤b∧b<w'.heap.size)∧
   (listE S kind space 0=0→rv=S.rev∧mb=moreB kind space most S.rev L):=by
 obtain⟨le,Hle⟩:∃ x,Hid (listE S kind space 0=x):=⟨_,Lib.hid rfl⟩
 obtain⟨W,hW⟩:∃ W,W=w.alloc (.cells #[.slice none 0 0,.int .i64 0,.string {data:=#[]}] 73):=⟨_,rfl⟩
 obtain⟨gr,hgr⟩:∃ g,g=w.heap.size:=⟨_,rfl⟩
 have BR:=Lib.hid (show W.heap[gr]? = some (.cells #[.slice none 0 0,.int .i64 0,.string {data:=#[]}] 73 (0,0)) by rw [hW,hgr];exact heap_alloc_new w _)
 have hb1:Below w.heap.size w W:=by rw [hW];exact (Below.refl _ w).alloc (Nat.le_refl _) _
 have HA:=Lib.hid (h.belowW hb1)
 have HB1:=Lib.hid hb1
 have hrl:gr<W.heap.size:=by rw [hgr,hW,World.size_alloc];omega
 have hwr:w.heap.size≤gr:=by omega
 have HT:=Lib.hid (ht.below hb1)
 have HS:=Lib.hid hS
 obtain⟨mi,Hmi⟩:∃ z:Int,Hid ((most:Int)=z):=⟨_,Lib.hid rfl⟩
 have q1:decide (mi<1)=false:=decide_eq_false (by rw [←Hmi.out];omega)
 have q2:decide (50<mi)=false:=decide_eq_false (by rw [←Hmi.out];omega)
 have HX:=Lib.hid (list_any HA.out HS.out kind space hk hs 0)
 rw [Hle.out] at HX ⊢
 rw [Hmi.out]
 have Hkz:Hid (kind.size≤1048576∧space.size≤1048576∧1≤most∧most≤50):=Lib.hid ⟨hk,hs,h1,h2⟩
 clear h hS ht hb1 hk hs h1 h2
 go_enter Tryz.func31,Tryz.ntmps31
 go_upto_region 1 with fail
 rw [←hW]
 rw [←hgr]
 clear hW hgr
 go_wp2_with fail
 refine HX.out.mono ?_
 rintro E9 w2 ⟨hb2,E2,v,L,rfl,hT,k2,k3⟩
 have HTo:=Lib.hid hT
 have HR2:=Lib.hid k2
 have HE2:Hid (∀ b,E2 b→w.heap.size≤b∧b<w2.heap.size):=Lib.hid fun b hb=>⟨by have:=(k3 b hb).1;omega,(k3 b hb).2⟩
 have HE2r:Hid (∀ b,E2 b→b≠gr):=Lib.hid fun b hb e=>by have:=(k3 b hb).1;omega
 have BR2:=Lib.hid (below_block hb2 BR.out)
 have HB2:=Lib.hid (HB1.out.trans (hb2.mono HB1.out.size))
 have HA2:=Lib.hid (HA.out.belowW hb2)
 have HT2:=Lib.hid (HT.out.below hb2)
 clear hT k2 k3 hb2 HX BR HB1 HA HT hrl
 obtain⟨aL,cL,rfl,-,-⟩:=HR2.out.own.row.len
 obtain⟨nL,HnL⟩:∃ n,Hid (L.length=n):=⟨_,Lib.hid rfl⟩
 rw [HnL.out] at HR2 ⊢
 by_cases hle:le=0
 ·have q3:(le != 0)=false:=by rw [hle];rfl
  have HRv:=Lib.hid (rev_any HA2.out)
  obtain⟨rv,Hrv⟩:∃ rv,Hid (S.rev=rv):=⟨_,Lib.hid rfl⟩
  rw [Hrv.out] at HRv
  have HP:=Lib.hid (page_any HR2.out (fun b hb=>(HE2.out b hb).2) (by rw [HnL.out,←HnL.out];exact list_short HS.out HTo.out) (okObj_list HS.out HTo.out) kind space ⟨#[]⟩ ⟨#[]⟩ ⟨#[]⟩ most rv Hkz.out.2.2.1 Hkz.out.2.2.2 (by rw [←Hrv.out];exact HS.out.rev) ⟨Hkz.out.1,Hkz.out.2.1⟩ HT2.out)
  rw [Hmi.out] at HP
  go_wp2_with fail
  refine HRv.out.mono ?_
  rintro E9 w9 ⟨rfl,hw9⟩
  subst hw9
  clear HRv
  go_wp2_with fail
  refine HP.out.mono ?_
  rintro E9 w3 ⟨hb3,E3,v',rfl,hv',hE3⟩
  have BR3:=Lib.hid (below_block hb3 BR2.out)
  have HB3:=Lib.hid (HB2.out.trans (hb3.mono HB2.out.size))
  obtain⟨a3,c3,rfl,-,-⟩:=hv'.own.row.len
  obtain⟨n3,Hn3⟩:∃ n,Hid ((L.take most).length=n):=⟨_,Lib.hid rfl⟩
  rw [Hn3.out] at hv' ⊢
  have HV:=Lib.hid hv'
  have HE3:Hid (∀ b,E3 b→w.heap.size≤b∧b<w3.heap.size∧b≠gr):=Lib.hid fun b hb=>by
   have:=HB2.out.size
   have:=hb3.size
   rcases hE3 b hb with h9 | h9
   ·have:=HE2.out b h9;have:=HE2r.out b h9;omega
   ·have:=lt_of_some BR2.out;omega
  obtain⟨mb,Hmb⟩:∃ mb,Hid (moreB kind space most rv L=mb):=⟨_,Lib.hid rfl⟩
  rw [Hmb.out]
  clear hb3 hv' hE3 HP BR2 HB2
  simp only []
  go_at_K
  refine at_last (by assumption) ?_
  refine wpList_store_box (by rfl) _ _ _ (by rfl) gr #[.slice a3 n3 c3,.int .i64 rv,.string (mkB mb)] (by rfl) (by rfl) _ _ (by exact BR3.out) (by exact Tryz.sizePage) (by rfl) (by simp [Value.oneCell']) ?_
  intro WF bF tF
  have HF:=Lib.hid (tF.below HB3.out hwr)
  have hsF:=tF.size
  have HVF:=Lib.hid (HV.out.agree famObj fun b hb=>tF.other b (HE3.out b hb).2.2)
  go_wp2_with fail
  refine bodyPost_ret (v:=.tuple #[.agg #[.slice a3 n3 c3,.int .i64 rv,.string (mkB mb)],.int .i64 0]) ?_ rfl ?_
  ·exact results_two_box Tryz.results31 _ _ gr _ _ _ _ (by rfl) bF Tryz.underlying73 rfl (by exact Tryz.sizePage)
  ·exact⟨HF.out,E3,_,L,rv,mb,HTo.out,by rw [hle],HVF.out,fun b hb=>⟨(HE3.out b hb).1,by have:=(HE3.out b hb).2.1;omega⟩,fun _=>⟨Hrv.out.symm,by rw [Hrv.out,←Hmb.out]⟩⟩
 ·have q3:(le != 0)=true:=bne_iff_ne.2 hle
  have Hle0:=Lib.hid hle
  have HL0:Hid (L = []):=Lib.hid (HTo.out.1 (by rw [Hle.out];exact hle))
  clear hle
  go_wp2_with (refine wpList_store_box (by rfl) _ _ _ (by rfl) gr #[.slice none 0 0,.int .i64 0,.string {data:=#[]}] (by rfl) (by rfl) _ _ (by exact BR2.out) (by exact Tryz.sizePage) (by rfl) (by simp [Value.oneCell']) ?_)
  intro WF bF tF
  have HF:=Lib.hid (tF.below HB2.out hwr)
  go_wp2_with fail
  refine bodyPost_ret (v:=.tuple #[.agg #[.slice none 0 0,.int .i64 0,.string {data:=#[]}],.int .i64 le]) ?_ rfl ?_
  ·exact results_two_box Tryz.results31 _ _ gr _ _ _ _ (by rfl) bF Tryz.underlying73 rfl (by exact Tryz.sizePage)
  ·exact⟨HF.out,fun _=>False,.slice none 0 0,L,0,[],HTo.out,rfl,by rw [HL0.out,List.take_nil];exact OwnX.nil,fun b hb=>hb.elim,fun h0=>absurd h0 Hle0.out⟩
end Sto
end Go.Proofs.YtnnceaapodgfbaaGreatDoor
