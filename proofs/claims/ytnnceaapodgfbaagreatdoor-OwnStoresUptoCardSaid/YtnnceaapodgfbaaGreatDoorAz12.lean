/- Texts of ours joined. -/
import Derived.Test.YtnnceaapodgfbaaGreatDoorAz11
set_option linter.unusedVariables false
set_option linter.unusedSimpArgs false
namespace Go.Proofs.YtnnceaapodgfbaaGreatDoor
namespace Sto
open Go.RowKit
theorem okView_bulkO {g:GView} (h:viewB g≤1048576):OkView g:=by
 unfold viewB at h
 have h1:=sum_length (f:=reqB) (c:=1) (l:=g.reqs) fun x _=>by unfold reqB;omega
 refine⟨by omega,by omega,by omega,fun r hr=>?_⟩
 have h2:=sum_mem (f:=reqB) hr
 have h3:reqB r=((r.key.size+1)+(1+((total r.vals+1)+0)))+1:=rfl
 have h4:=total_length r.vals
 exact⟨by omega,by omega,fun s hs=>by have:=total_mem hs;omega⟩
theorem list_short9 {S:St} (h:OkSt S) {kind space:ByteArray} {r:Int} {a:List GObject} (ha:ListTold S kind space r a):a.length≤4194304:=by
 by_cases he:listE S kind space r=0
 ·have h1:=ha.2 he
  have hn:(a.map (·.okey)).Nodup:=by
   rw [List.nodup_iff_pairwise_ne,List.pairwise_map]
   refine h1.1.imp_of_mem fun {x y} hx hy hxy hk=>?_
   have h2:x=y:=by
    have e1:=((h1.2 x).1 hx).2
    have e2:=((h1.2 y).1 hy).2
    rw [hk,e2] at e1;cases e1;rfl
   subst h2
   exact ahead_irrefl _ hxy
  have h2:=live_keys (h.good.fit (timeT S r) (timeT_le S r)) (a.map (·.okey)) hn fun k hk=>by
   obtain⟨o,ho,rfl⟩:=List.mem_map.1 hk
   rw [((h1.2 o).1 ho).2];rfl
  have h3:=live_le (S.log.take (timeT S r))
  rw [List.length_take] at h3
  rw [List.length_map] at h2
  have:=h.rev
  unfold St.rev at this
  omega
 ·rw [ha.1 he];exact Nat.zero_le _
theorem Tryz.sizeEvO:(Tryz.prog.info? 56).map (·.size)=some 12:=by kernel_rfl
theorem since_short (S:St) (r:Int):(sinceL S r).length≤S.log.length:=by
 unfold sinceL
 first
 | (split<;>simp<;>omega)
 | (simp<;>omega)
theorem get_some {α:Type} {l:List α} {n m:Nat} (h:l.length=n) (hm:m<n):∃ y,l[m]? = some y:=⟨l[m]'(by omega),List.getElem?_eq_getElem _⟩
theorem Tryz.sizeView:(Tryz.prog.info? 80).map (·.size)=some 3:=by kernel_rfl
set_option maxRecDepth 100000 in
set_option maxHeartbeats 12800000 in
theorem ownStores_walk (v:Value) (l:List GStoreStep) (kind:ByteArray) (cs:Array Value) (vw:GView) (w:World) (hrow:RowAt StoreStepR 12 w v l) (hview:ViewR w cs.toList vw)
  (hbulk:(l.map storeStepB).sum+kind.data.toList.length+viewB vw≤1048576) (hE:Env w) :
  Calls Tryz.prog 12 #[v,.string kind,.agg cs] w fun e w'=>e=.returned (.bool true)∧Below w.heap.size w w':=by
 obtain⟨va,hcv,hvr⟩:=hview
 obtain rfl:cs=#[.string vw.kind,.string vw.space,va]:=by
  have h9:=congrArg List.toArray hcv
  simpa using h9
 clear hcv
 have hkz:kind.size≤1048576:=by have h9:kind.data.toList.length=kind.size:=rfl;omega
 obtain⟨av,cv,rfl,-,-⟩:=hvr.len
 obtain⟨nv,Hnv⟩:∃ n,Hid (vw.reqs.length=n):=⟨_,Lib.hid rfl⟩
 rw [Hnv.out] at hvr ⊢
 have HOk:=Lib.hid (okView_bulkO (g:=vw) (by omega))
 have hnv:nv≤1048576:=by rw [←Hnv.out];exact HOk.out.reqs.1
 obtain⟨hok,hll⟩:=okSteps_bulk hrow (by omega)
 obtain⟨W,hW⟩:∃ W,W=w.alloc (.cells #[.string vw.kind,.string vw.space,.slice av nv cv] 80):=⟨_,rfl⟩
 obtain⟨gv,hgv⟩:∃ g,g=w.heap.size:=⟨_,rfl⟩
 have BV:=Lib.hid (show W.heap[gv]? = some (.cells #[.string vw.kind,.string vw.space,.slice av nv cv] 80 (0,0)) by rw [hW,hgv];exact heap_alloc_new w _)
 have hb1:Below w.heap.size w W:=by rw [hW];exact (Below.refl _ w).alloc (Nat.le_refl _) _
 have HB1:=Lib.hid hb1
 have hwv:w.heap.size≤gv:=by omega
 have hgvW:gv<W.heap.size:=lt_of_some BV.out
 have HEn:=Lib.hid hE
 have HVr:=Lib.hid hvr
 have HRow:=Lib.hid hrow
 have Hok:=Lib.hid hok
 have HSt:=fun (w':World) (hb:Below w.heap.size w w')=>Lib.hid (stored_any (.slice none 0 0) [] w' (.inl ⟨rfl,rfl⟩) (by decide) (fun x hx=>by cases hx) (hE.below hb))
 rw [show run St0 []=St0 from rfl] at HSt
 obtain⟨al,cl,rfl,-,-⟩:=hrow.len
 obtain⟨nl,Hnl⟩:∃ n,Hid (l.length=n):=⟨_,Lib.hid rfl⟩
 rw [Hnl.out] at HRow hll ⊢
 clear hrow hvr hbulk hE hok hb1
 go_enter Tryz.func12,Tryz.ntmps12
 go_upto_region 1 with fail
 rw [←hgv,←hW]
 clear hW hgv
 go_wp2_with fail
 refine (HSt _ HB1.out).out.mono ?_
 rintro E w2 ⟨g1,D1,rfl,hst,hlow,hb2⟩
 have HB2:=Lib.hid (HB1.out.trans (hb2.mono HB1.out.size))
 have HA2:=Lib.hid hst
 have HD1:Hid (∀ b,D1 b→W.heap.size≤b∧b<w2.heap.size):=Lib.hid fun b hb=>⟨hlow b hb,StoreAt.low HA2.out hb⟩
 have BV2:=Lib.hid (below_block hb2 BV.out)
 have hs2:=hb2.size
 clear hst hlow hb2 BV HB1
 go_wp2_with fail
 refine (HSt _ HB2.out).out.mono ?_
 rintro E w3 ⟨g2,D2,rfl,hst,hlow,hb3⟩
 have HB3:=Lib.hid (HB2.out.trans (hb3.mono HB2.out.size))
 have HA3:=Lib.hid (HA2.out.belowW hb3)
 have HC3:=Lib.hid hst
 have HD2:Hid (∀ b,D2 b→w2.heap.size≤b∧b<w3.heap.size):=Lib.hid fun b hb=>⟨hlow b hb,StoreAt.low HC3.out hb⟩
 have BV3:=Lib.hid (below_block hb3 BV2.out)
 have hs3:=hb3.size
 clear hst hlow hb3 BV2 HB2 HA2 HSt
 have HX:=Lib.hid (hub_any w3 g1)
 go_wp2_with fail
 refine HX.out.mono ?_
 rintro E w4 ⟨gh1,om1,rfl,hhub,hgh,hom,hb4⟩
 have HB4:=Lib.hid (HB3.out.trans (hb4.mono HB3.out.size))
 have HA4:=Lib.hid (HA3.out.belowW hb4)
 have HC4:=Lib.hid (HC3.out.belowW hb4)
 have HU4:=Lib.hid hhub
 have BV4:=Lib.hid (below_block hb4 BV3.out)
 have hs4:=hb4.size
 have hl1:=hhub.lts
 have hgh1:=hgh
 have hom1:=hom
 clear hhub hgh hom hb4 HX HB3 HA3 HC3 BV3
 have HX:=Lib.hid (hub_any w4 g2)
 go_wp2_with fail
 refine HX.out.mono ?_
 rintro E w5 ⟨gh2,om2,rfl,hhub,hgh,hom,hb5⟩
 have HB5:=Lib.hid (HB4.out.trans (hb5.mono HB4.out.size))
 have HA5:=Lib.hid (HA4.out.belowW hb5)
 have HC5:=Lib.hid (HC4.out.belowW hb5)
 have HU5:=Lib.hid (HU4.out.belowX hb5)
 have HV5:=Lib.hid hhub
 have BV5:=Lib.hid (below_block hb5 BV4.out)
 have hs5:=hb5.size
 have hl2:=hhub.lts
 have hgh2:=hgh
 have hom2:=hom
 clear hhub hgh hom hb5 HX HB4 HA4 HC4 HU4 BV4
 have cv9:=fun i=>cell_block BV5.out i
 have h7:=Lib.hid (heap_alloc_new w5 (.cells #[.string {data:=#[]},.string {data:=#[]},.slice none 0 0] 80))
 have h4:=Lib.hid ((Below.refl w5.heap.size w5).alloc (Nat.le_refl _) (.cells #[.string {data:=#[]},.string {data:=#[]},.slice none 0 0] 80))
 go_wp2_with (refine wpList_store_box (by rfl) _ _ _ (by rfl) w5.heap.size #[.string vw.kind,.string vw.space,.slice av nv cv] (by rfl) (by rfl) _ _ (by exact h7.out) (by exact Tryz.sizeView) (by rfl) (by simp [Value.oneCell']) ?_)
 intro w6 b6 t6
 have hb6:Below w5.heap.size w5 w6:=t6.below h4.out (Nat.le_refl _)
 have hs6:w6.heap.size=w5.heap.size+1:=t6.size.trans (World.size_alloc _ _)
 obtain⟨gi,hgi⟩:∃ g,w5.heap.size=g:=⟨_,rfl⟩
 rw [hgi] at b6 ⊢
 have XI6:=Lib.hid b6
 have HB6:=Lib.hid (HB5.out.trans (hb6.mono HB5.out.size))
 have HA6:=Lib.hid (HA5.out.belowW hb6)
 have HC6:=Lib.hid (HC5.out.belowW hb6)
 have HU6:=Lib.hid (HU5.out.belowX hb6)
 have HV6:=Lib.hid (HV5.out.belowX hb6)
 have BV6:=Lib.hid (below_block hb6 BV5.out)
 have hgi5:w5.heap.size≤gi:=by omega
 have hgi6:gi<w6.heap.size:=by omega
 clear b6 t6 hb6 h7 h4 HB5 HA5 HC5 HU5 HV5 BV5 hgi hs6 cv9
 have cv9:=fun i=>cell_block BV6.out i
 have HCp:=Lib.hid (copyReqV_any (flat_atW w ReqR) (one_atW w one_reqW) (.slice av nv cv) vw.reqs w6 (HVr.out.atW HB6.out) HOk.out.reqs.1)
 go_wp2_with fail
 refine HCp.out.mono ?_
 rintro E w7 ⟨v7,rfl,ho7,hb7⟩
 obtain⟨aq,cq,rfl,hin7,hcq1,hcq2,hnil⟩:=in_begin ho7
 rw [Hnv.out] at hcq1 hnil ⊢
 have HI7:=Lib.hid hin7
 have Hnil:=Lib.hid hnil
 have XI7:=Lib.hid (below_block hb7 XI6.out)
 have hs7:=hb7.size
 have HB67:=Lib.hid hb7
 clear ho7 hin7 hb7 hnil HCp cv9
 obtain⟨w8,hw8⟩:∃ w8,w7.setCell ⟨gi,2,none⟩ (.slice aq nv cq)=w8:=⟨_,rfl⟩
 have t8:=touch_setCell (i:=2) (v:=.slice aq nv cq) XI7.out
 rw [hw8] at t8
 have XI8:Hid (w8.heap[gi]? = some (.cells #[.string vw.kind,.string vw.space,.slice aq nv cq] 80 (0,0))):=Lib.hid t8.1
 have HO68:Hid (But gi w6 w8):=Lib.hid ((But.of HB67.out).trans (But.touch t8.2))
 have hs8:w7.heap.size≤w8.heap.size:=by rw [t8.2.size];exact Nat.le_refl _
 have HI8:Hid (InRow w6.heap.size w8 aq vw.reqs 0):=Lib.hid (HI7.out.elim .inl fun ⟨q,cur,e1,e2⟩=>.inr ⟨q,cur,e1,⟨e2.low,t8.2.block e2.blk (by have:=e2.low;omega),e2.size,fun j r hr=>let ⟨a,b,c,u,d,_⟩:=e2.at9 j r hr;⟨a,b,c,u,d,fun h9=>absurd h9 (Nat.not_lt_zero _)⟩⟩⟩)
 have cv9:=fun i=>cell_block XI7.out i
 have fv9:=fun i=>free_block XI7.out i
 go_upto_region 9 with fail
 try rw [hw8]
 clear hw8 t8 cv9 fv9 XI7 HI7 HB67
 have HB8:=Lib.hid (HO68.out.below HB6.out HB6.out.size (by have:=HB6.out.size;omega))
 have HA8:Hid (StoreAt D1 w8 g1 St0):=Lib.hid (HA6.out.agree (fun b hb=>HO68.out.block b (StoreAt.low HA6.out hb) (by have:=(HD1.out b hb).2;omega)) HO68.out.size)
 have HC8:Hid (StoreAt D2 w8 g2 St0):=Lib.hid (HC6.out.agree (fun b hb=>HO68.out.block b (StoreAt.low HC6.out hb) (by have:=(HD2.out b hb).2;omega)) HO68.out.size)
 have HU8:Hid (HubAt w8 gh1 g1 om1 (fun _=>none) 0 0):=Lib.hid (HU6.out.agreeX fun b hb=>HO68.out.block b (by rcases hb with rfl | rfl<;>omega) (by rcases hb with rfl | rfl<;>omega))
 have HV8:Hid (HubAt w8 gh2 g2 om2 (fun _=>none) 0 0):=Lib.hid (HV6.out.agreeX fun b hb=>HO68.out.block b (by rcases hb with rfl | rfl<;>omega) (by rcases hb with rfl | rfl<;>omega))
 have BV8:=Lib.hid (HO68.out.keep BV6.out (by omega))
 clear HO68 HA6 HC6 HU6 HV6 BV6 XI6
 have cv9:=fun i=>cell_block XI8.out i
 go_wp2_with fail
 clear cv9
 go_loopg [71] nv (fun k u71 wr=>∃ i:Nat,i+k=nv∧u71=.int .i64 (i:Int)∧Hid (InRow w6.heap.size wr aq vw.reqs i)∧Hid (Below w6.heap.size w8 wr))
 case atStart=>exact⟨0,by omega,rfl,HI8,Lib.hid (Below.refl _ _)⟩
 case round=>
  clear HI8
  obtain⟨i,hik,rfl,HI,HBr⟩:=hrel
  have hsr:=HBr.out.size
  have XI:=Lib.hid ((HBr.out.block gi (by omega)).trans XI8.out)
  have BVr:=Lib.hid ((HBr.out.block gv (by omega)).trans BV8.out)
  have HBw:Hid (Below w.heap.size w wr):=Lib.hid (HB8.out.trans (HBr.out.mono HB6.out.size))
  cases gk with
  | zero=>
   obtain rfl:nv=i:=by omega
   obtain⟨wL,rfl⟩:∃ x,x=wr:=⟨wr,rfl⟩
   have HIn:Hid (RowAt ReqR 3 wL (.slice aq nv cq) vw.reqs):=Lib.hid (InRow.row (by rw [Hnv.out];exact HI.out) Hnv.out.symm hcq1 hcq2 (fun h9=>Hnil.out h9 wL) fun r hr=>(HOk.out.reqs.2 r hr).2.1)
   have HLo:Hid (LoRow w6.heap.size wL.heap.size wL aq nv 0):=Lib.hid (InRow.lo (by rw [Hnv.out];exact HI.out) Hnv.out.symm fun r hr=>(HOk.out.reqs.2 r hr).2.1)
   have HAr:Hid (StoreAt D1 wL g1 St0):=Lib.hid (HA8.out.agree (fun b hb=>HBr.out.block b (by have:=(HD1.out b hb).2;omega)) HBr.out.size)
   have HCr:Hid (StoreAt D2 wL g2 St0):=Lib.hid (HC8.out.agree (fun b hb=>HBr.out.block b (by have:=(HD2.out b hb).2;omega)) HBr.out.size)
   have HUr:Hid (HubAt wL gh1 g1 om1 (fun _=>none) 0 0):=Lib.hid (HU8.out.agreeX fun b hb=>HBr.out.block b (by rcases hb with rfl | rfl<;>omega))
   have HVu:Hid (HubAt wL gh2 g2 om2 (fun _=>none) 0 0):=Lib.hid (HV8.out.agreeX fun b hb=>HBr.out.block b (by rcases hb with rfl | rfl<;>omega))
   clear HI HBr XI8 BV8 HA8 HC8 HU8 HV8 HB8
   have HX:=Lib.hid (open_hub HAr.out okSt0 HUr.out HIn.out HOk.out (HEn.out.below HBw.out).2.2)
   obtain⟨oe,Hoe⟩:∃ e,Hid (openE vw St0=e):=⟨_,Lib.hid rfl⟩
   rw [Hoe.out] at HX
   have cv9:=fun i=>cell_block XI.out i
   go_wp2_with fail
   refine HX.out.mono ?_
   rintro E wa ⟨K1,rfl,hk1,hkl1,hon1⟩
   have hsa:=hon1.size
   have HK1:=Lib.hid hk1
   have HKl1:Hid (∀ b,K1 b→(w3.heap.size≤b∧b<w4.heap.size)∨wL.heap.size≤b):=Lib.hid fun b hb=>by
    rcases hkl1 b hb with rfl | rfl | h9
    ·exact .inl ⟨hgh1,hl1.1⟩
    ·exact .inl ⟨hom1,hl1.2⟩
    ·exact .inr h9
   have hoff1:∀ b,(b=gh1∨b=om1)→w3.heap.size≤b∧b<w4.heap.size:=fun b hb=>by
    rcases hb with rfl | rfl
    ·exact⟨hgh1,hl1.1⟩
    ·exact⟨hom1,hl1.2⟩
   have HBa:Hid (Below w.heap.size w wa):=Lib.hid (HBw.out.trans (hon1.below (fun b hb=>by have:=(hoff1 b hb).1;omega) HBw.out.size))
   have HAa:Hid (StoreAt D1 wa g1 St0):=Lib.hid (HAr.out.agree (fun b hb=>hon1.block b (StoreAt.low HAr.out hb) fun h9=>by have:=(hoff1 b h9).1;have:=(HD1.out b hb).2;omega) hon1.size)
   have HCa:Hid (StoreAt D2 wa g2 St0):=Lib.hid (HCr.out.agree (fun b hb=>hon1.block b (StoreAt.low HCr.out hb) fun h9=>by have:=(hoff1 b h9).1;have:=(HD2.out b hb).2;omega) hon1.size)
   have HVa:Hid (HubAt wa gh2 g2 om2 (fun _=>none) 0 0):=Lib.hid (HVu.out.agreeX fun b hb=>hon1.block b (by rcases hb with rfl | rfl<;>omega) fun h9=>by have:=(hoff1 b h9).2;rcases hb with rfl | rfl<;>omega)
   have HLa:Hid (LoRow w6.heap.size wL.heap.size wa aq nv 0):=Lib.hid (HLo.out.agree fun b h1 h2=>hon1.block b h2 fun h9=>by have:=(hoff1 b h9).2;omega)
   have XIa:=Lib.hid ((hon1.block gi (by omega) fun h9=>by have:=(hoff1 gi h9).2;omega).trans XI.out)
   have BVa:=Lib.hid ((hon1.block gv (by omega) fun h9=>by have:=(hoff1 gv h9).1;omega).trans BVr.out)
   clear hk1 hkl1 hon1 HX cv9 HAr HCr HUr HVu HLo XI BVr HIn HBw
   have HX:=Lib.hid (open_hub HCa.out okSt0 HVa.out (HVr.out.below stays_req HBa.out) HOk.out (HEn.out.below HBa.out).2.2)
   rw [Hoe.out] at HX
   have cv9:=fun i=>cell_block BVa.out i
   go_wp2_with fail
   refine HX.out.mono ?_
   rintro E wb ⟨K2,rfl,hk2,hkl2,hon2⟩
   have hsb:=hon2.size
   have HK2:=Lib.hid hk2
   have HKl2:Hid (∀ b,K2 b→(w4.heap.size≤b∧b<w5.heap.size)∨wa.heap.size≤b):=Lib.hid fun b hb=>by
    rcases hkl2 b hb with rfl | rfl | h9
    ·exact .inl ⟨hgh2,hl2.1⟩
    ·exact .inl ⟨hom2,hl2.2⟩
    ·exact .inr h9
   have hoff2:∀ b,(b=gh2∨b=om2)→w4.heap.size≤b∧b<w5.heap.size:=fun b hb=>by
    rcases hb with rfl | rfl
    ·exact⟨hgh2,hl2.1⟩
    ·exact⟨hom2,hl2.2⟩
   have HBb:Hid (Below w.heap.size w wb):=Lib.hid (HBa.out.trans (hon2.below (fun b hb=>by have:=(hoff2 b hb).1;omega) HBa.out.size))
   have HAb:Hid (StoreAt D1 wb g1 St0):=Lib.hid (HAa.out.agree (fun b hb=>hon2.block b (StoreAt.low HAa.out hb) fun h9=>by have:=(hoff2 b h9).1;have:=(HD1.out b hb).2;omega) hon2.size)
   have HCb:Hid (StoreAt D2 wb g2 St0):=Lib.hid (HCa.out.agree (fun b hb=>hon2.block b (StoreAt.low HCa.out hb) fun h9=>by have:=(hoff2 b h9).1;have:=(HD2.out b hb).2;omega) hon2.size)
   have HK1b:Hid (HubW wb gh1 g1 om1 vw oe K1):=Lib.hid (HK1.out.agree hon2.size fun b hb=>hon2.block b (HK1.out.lt b hb) fun h9=>by
    have:=hoff2 b h9
    rcases HKl1.out b hb with h8 | h8<;>omega)
   have HLb:Hid (LoRow w6.heap.size wL.heap.size wb aq nv 0):=Lib.hid (HLa.out.agree fun b h1 h2=>hon2.block b (by omega) fun h9=>by have:=(hoff2 b h9).2;omega)
   have XIb:=Lib.hid ((hon2.block gi (by omega) fun h9=>by have:=(hoff2 gi h9).2;omega).trans XIa.out)
   have HKa1:Hid (∀ b,K1 b→b<wa.heap.size):=Lib.hid fun b hb=>HK1.out.lt b hb
   clear hk2 hkl2 hon2 HX cv9 HAa HCa HVa HLa XIa BVa HBa HK1
   have cv9:=fun i=>cell_block XIb.out i
   go_wp2_with fail
   clear cv9
   go_loopg [102] nv (fun k u102 wx=>∃ i:Nat,i+k=nv∧u102=.int .i64 (i:Int)∧Hid (LoRow w6.heap.size wL.heap.size wx aq nv i)∧Hid (Only (fun b=>w6.heap.size≤b∧b<wL.heap.size) wb wx))
   case atStart=>exact⟨0,by omega,rfl,HLb,Lib.hid (Only.refl _ _)⟩
   case round=>
    clear HLb
    obtain⟨i,hik,rfl,HL,HOn⟩:=hrel
    have hsx:=HOn.out.size
    have XIx:=Lib.hid ((HOn.out.block gi (by omega) fun h9=>by omega).trans XIb.out)
    have cv9:=fun i=>cell_block XIx.out i
    cases gk with
    | zero=>
     obtain rfl:i=nv:=by omega
     obtain⟨wK,rfl⟩:∃ x,x=wr:=⟨wr,rfl⟩
     have HDu:Hid (Duo w wK D1 D2 g1 g2 (run St0 (l.take 0)) (run St0 (l.take 0)) wK D1 D2):=Lib.hid (by
      rw [List.take_zero]
      exact⟨HAb.out.agree (fun b hb=>HOn.out.block b (StoreAt.low HAb.out hb) fun h9=>by have:=(HD1.out b hb).2;omega) HOn.out.size,
       HCb.out.agree (fun b hb=>HOn.out.block b (StoreAt.low HCb.out hb) fun h9=>by have:=(HD2.out b hb).2;omega) HOn.out.size,
       fun b h1 h2=>by have:=(HD1.out b h1).2;have:=(HD2.out b h2).1;omega,fun b hb=>.inl hb,fun b hb=>.inl hb,Only.refl _ _,
       fun b hb=>by
        rcases hb with hb | hb
        ·have:=(HD1.out b hb).1;omega
        ·have:=(HD2.out b hb).1;omega,
       HBb.out.trans (HOn.out.below (fun b hb=>by omega) HBb.out.size)⟩)
     have HW1:Hid (HubW wK gh1 g1 om1 vw oe K1):=Lib.hid (HK1b.out.agree HOn.out.size fun b hb=>HOn.out.block b (HK1b.out.lt b hb) fun h9=>by rcases HKl1.out b hb with h8 | h8<;>omega)
     have HW2:Hid (HubW wK gh2 g2 om2 vw oe K2):=Lib.hid (HK2.out.agree HOn.out.size fun b hb=>HOn.out.block b (HK2.out.lt b hb) fun h9=>by rcases HKl2.out b hb with h8 | h8<;>omega)
     have HKD:Hid (∀ b,K1 b∨K2 b→w3.heap.size≤b∧¬D1 b∧¬D2 b):=Lib.hid fun b hb=>by
      have h3:w3.heap.size≤b:=by
       rcases hb with hb | hb
       ·rcases HKl1.out b hb with h8 | h8<;>omega
       ·rcases HKl2.out b hb with h8 | h8<;>omega
      exact⟨h3,fun h=>by have:=(HD1.out b h).2;omega,fun h=>by have:=(HD2.out b h).2;omega⟩
     have HKK:Hid (∀ b,K1 b→¬K2 b):=Lib.hid fun b h1 h2=>by
      have h5:=HKa1.out b h1
      rcases HKl1.out b h1 with h8 | h8<;>rcases HKl2.out b h2 with h9 | h9<;>omega
     have q1:((idE oe:Int) != idE oe)=false:=by rw [bne_eq_false_iff_eq]
     have q2:((oe:Int) != oe)=false:=by rw [bne_eq_false_iff_eq]
     have hw3:w.heap.size≤w3.heap.size:=by omega
     clear HL HOn XIx cv9 HAb HCb HK1b HK2 HKl1 HKl2 HKa1 XIb HBb HD1 HD2 hoff1 hoff2 hl1 hl2 hgh1 hgh2 hom1 hom2
     go_wp2_with fail
     clear q1 q2
     go_loopg [128] nl (fun k u128 wr=>∃ (i:Nat) (E1 E2:Dom),i+k=nl∧u128=.int .i64 (i:Int)∧Hid (Duo w wK D1 D2 g1 g2 (run St0 (l.take i)) (run St0 (l.take i)) wr E1 E2))
     case atStart=>exact⟨0,D1,D2,by omega,rfl,HDu⟩
     case round=>
      clear HDu
      obtain⟨i,E1,E2,hik,rfl,HDu⟩:=hrel
      cases gk with
      | zero=>
       obtain rfl:nl=i:=by omega
       obtain⟨S,HS⟩:∃ S,Hid (run St0 (l.take nl)=S):=⟨_,Lib.hid rfl⟩
       rw [HS.out] at HDu
       have HSo:Hid (OkSt S):=Lib.hid (by rw [←HS.out];exact okSt_run okSt0 _ (fun y hy=>Hok.out y (List.mem_of_mem_take hy)) (by show 0+_≤_;rw [List.length_take];have:=Hnl.out;omega))
       clear HS
       have hsu:=HDu.out.size
       have HF:=Lib.hid (first_any HDu.out.a1 HSo.out kind ⟨#[]⟩ hkz (by decide) 50 (by decide) (by decide) (HEn.out.below HDu.out.belW).1)
       obtain⟨la,Hla⟩:∃ n,Hid (listE S kind ⟨#[]⟩ 0=n):=⟨_,Lib.hid rfl⟩
       rw [Hla.out,show ((50:Nat):Int)=50 from rfl] at HF
       go_wp2_with fail
       refine HF.out.mono ?_
       rintro _ wF ⟨hbF,EF,pv,LF,rv,mb,-,rfl,hpv,hEF,-⟩
       obtain⟨aP,cP,rfl,-,-⟩:=hpv.own.row.len
       obtain⟨nP,HnP⟩:∃ n,Hid ((LF.take 50).length=n):=⟨_,Lib.hid rfl⟩
       rw [HnP.out] at hpv ⊢
       have hnP:nP≤50:=by rw [←HnP.out,List.length_take];omega
       obtain⟨MS,HMS⟩:∃ x,Hid (mkB mb=x):=⟨_,Lib.hid rfl⟩
       rw [HMS.out]
       have HDF:=Lib.hid (HDu.out.below hbF)
       have HXF:=Lib.hid hpv
       have HEFl:Hid (∀ b,EF b→b<wF.heap.size):=Lib.hid fun b hb=>(hEF b hb).2
       have HEF:Hid (∀ b,EF b→wK.heap.size≤b∧¬E1 b∧¬E2 b):=Lib.hid fun b hb=>by
        have h9:=(hEF b hb).1
        exact⟨by omega,fun h=>by have:=HDu.out.lt1 h;omega,fun h=>by have:=HDu.out.lt2 h;omega⟩
       clear hbF hpv hEF HF HDu HMS
       have h7:=Lib.hid (heap_alloc_new wF (.cells #[.slice none 0 0,.int .i64 0,.string {data:=#[]}] 73))
       have h4:=Lib.hid ((Below.refl wF.heap.size wF).alloc (Nat.le_refl _) (.cells #[.slice none 0 0,.int .i64 0,.string {data:=#[]}] 73))
       go_wp2_with (refine wpList_store_box (by rfl) _ _ _ (by rfl) wF.heap.size #[.slice aP nP cP,.int .i64 rv,.string MS] (by rfl) (by rfl) _ _ (by exact h7.out) (by exact Tryz.sizePage) (by rfl) (by simp [Value.oneCell']) ?_)
       intro wG bG tG
       have hbG:Below wF.heap.size wF wG:=tG.below h4.out (Nat.le_refl _)
       obtain⟨gP,hgP⟩:∃ g,wF.heap.size=g:=⟨_,rfl⟩
       have hgPE:Hid (∀ b,EF b→b<gP):=Lib.hid fun b hb=>hgP▸HEFl.out b hb
       rw [hgP] at bG ⊢
       have XP:=Lib.hid bG
       have HDF2:=Lib.hid (HDF.out.below hbG)
       have HXF2:Hid (OwnX ObjX 10 EF wG 30 (.slice aP nP cP) (LF.take 50)):=Lib.hid (HXF.out.agree famObj fun b hb=>hbG.block b (HEFl.out b hb))
       have hgPG:=lt_of_some XP.out
       clear bG tG hbG h7 h4 hgP HDF HXF HEFl
       have cP9:=fun i=>cell_block XP.out i
       go_wp2_with fail
       go_loopg [196] nP (fun k9 u9 wx=>∃ m:Nat,m+k9=nP∧u9=.int .i64 (m:Int)∧Hid (Spoilt EF (.slice aP nP cP) wG wx))
       case atStart=>exact⟨0,by omega,rfl,Lib.hid (Spoilt.refl _ _ _)⟩
       case round=>
        obtain⟨m,hmk,rfl,HSt⟩:=hrel
        cases gk with
        | succ k2=>
         have hmt:m<nP:=by omega
         obtain⟨y,hy⟩:=get_some (HnP.out) hmt
         obtain⟨gt,y1,y2,y3,hta,hL,hEy,hcy⟩:=obj_told HXF2.out HSt.out hy
         subst hta
         obtain⟨z1,j1,x1,rfl⟩:∃ a n c,y1=.slice a n c:=by rcases hL.labels with rfl | ⟨g,n,c,cs,rfl,-⟩<;>exact⟨_,_,_,rfl⟩
         obtain⟨z2,j2,x2,rfl⟩:∃ a n c,y2=.slice a n c:=by rcases hL.owners with rfl | ⟨g,n,c,cs,rfl,-⟩<;>exact⟨_,_,_,rfl⟩
         obtain⟨z3,j3,x3,rfl⟩:∃ a n c,y3=.slice a n c:=by rcases hL.holds with rfl | ⟨g,n,c,cs,rfl,-⟩<;>exact⟨_,_,_,rfl⟩
         have f0:=hcy 0 _ rfl
         have f1:=hcy 1 _ rfl
         have f2:=hcy 2 _ rfl
         have f3:=hcy 3 _ rfl
         have f4:=hcy 4 _ rfl
         have f5:=hcy 5 _ rfl
         have f6:=hcy 6 _ rfl
         have f7:=hcy 7 _ rfl
         have f8:=hcy 8 _ rfl
         have f9:=hcy 9 _ rfl
         rw [Nat.add_zero] at f0
         have q1:(0:Int)≤(m:Int):=by omega
         have q2:(m:Int)<(nP:Int):=by omega
         have HL9:=Lib.hid hL
         have HEy:=Lib.hid hEy
         have h7:=Lib.hid (heap_alloc_new wr (.cells noA 30))
         have h4:=Lib.hid ((Below.refl wr.heap.size wr).alloc (Nat.le_refl _) (.cells noA 30))
         have htl:=Lib.hid (told_lt HXF2.out)
         clear hcy hL hEy hy
         go_wp2_with (refine wpList_store_box (by rfl) _ _ _ (by rfl) wr.heap.size #[.string y.okey.kind,.string y.okey.space,.string y.okey.name,.slice z1 j1 x1,.slice z2 j2 x2,.slice z3 j3 x3,.bool y.ending,.string y.uid,.int .i64 y.rev,.string y.doc] (by rfl) (by rfl) _ _ (by exact h7.out) (by exact Tryz.sizeObj) (by rfl) (by simp [Value.oneCell']) ?_)
         intro w18 bY tY
         have hb18:Below wr.heap.size wr w18:=tY.below h4.out (Nat.le_refl _)
         obtain⟨gY,hgY⟩:∃ g,wr.heap.size=g:=⟨_,rfl⟩
         rw [hgY] at bY ⊢
         have XY18:=Lib.hid bY
         have HSt18:=Lib.hid (HSt.out.below htl.out hb18)
         have HL18:=Lib.hid (HL9.out.shape (Shape.of hb18))
         clear bY tY hb18 h7 h4 hgY HSt HL9 f0 f1 f2 f3 f4 f5 f6 f7 f8 f9
         have HSy:=Lib.hid (spoilObj_any y (.slice z1 j1 x1) (.slice z2 j2 x2) (.slice z3 j3 x3) w18 HL18.out)
         rw [show objW y (.slice z1 j1 x1) (.slice z2 j2 x2) (.slice z3 j3 x3)=.agg #[.string y.okey.kind,.string y.okey.space,.string y.okey.name,.slice z1 j1 x1,.slice z2 j2 x2,.slice z3 j3 x3,.bool y.ending,.string y.uid,.int .i64 y.rev,.string y.doc] from rfl] at HSy
         have cY:=fun i=>cell_block XY18.out i
         go_wp2_with fail
         refine HSy.out.mono ?_
         rintro _ w19 ⟨rfl,ho19,hsh19⟩
         have HSt19:=Lib.hid (HSt18.out.more htl.out ho19 hsh19 HEy.out)
         clear ho19 hsh19 HSy cY XY18 HL18 HEy HSt18
         go_wp2_with fail
         go_roundg k2
         case measure=>omega
         case rel=>exact⟨m+1,by omega,by go_num,HSt19⟩
        | zero=>
         obtain rfl:nP=m:=by omega
         have HDp:=Lib.hid (HDF2.out.spoil HSt.out.only HEF.out)
         clear HSt HXF2 HDF2 HEF
         have HSn:=Lib.hid (since_any HDp.out.a1 HSo.out 0)
         obtain⟨se,Hse⟩:∃ n,Hid (sinceE S 0=n):=⟨_,Lib.hid rfl⟩
         obtain⟨SL,HSL⟩:∃ n,Hid (sinceL S 0=n):=⟨_,Lib.hid rfl⟩
         rw [Hse.out,HSL.out] at HSn
         go_wp2_with fail
         refine HSn.out.mono ?_
         rintro _ wS ⟨hbS,ES,vS,rfl,hOS,hES⟩
         obtain⟨aS,cS,rfl,-,-⟩:=hOS.own.row.len
         obtain⟨nS,HnS⟩:∃ n,Hid (SL.length=n):=⟨_,Lib.hid rfl⟩
         rw [HnS.out] at hOS ⊢
         have hnS:nS≤4194304:=by
          have h8:S.log.length≤4194304:=HSo.out.rev
          have h9:SL.length≤S.log.length:=by rw [←HSL.out];exact since_short S 0
          have h7:=HnS.out
          omega
         have HDS:=Lib.hid (HDp.out.below hbS)
         have HXS:=Lib.hid hOS
         have HES:Hid (∀ b,ES b→wK.heap.size≤b∧¬E1 b∧¬E2 b):=Lib.hid fun b hb=>by
          have h9:=(hES b hb).1
          have h8:=HDp.out.size
          exact⟨by omega,fun h=>by have:=HDp.out.lt1 h;omega,fun h=>by have:=HDp.out.lt2 h;omega⟩
         clear hbS hOS hES HSn HDp
         go_wp2_with fail
         go_loopg [210] nS (fun k9 u9 wx=>∃ m:Nat,m+k9=nS∧u9=.int .i64 (m:Int)∧Hid (Spoilt ES (.slice aS nS cS) wS wx))
         case atStart=>exact⟨0,by omega,rfl,Lib.hid (Spoilt.refl _ _ _)⟩
         case round=>
          obtain⟨m,hmk,rfl,HSt⟩:=hrel
          cases gk with
          | succ k2=>
           have hmt:m<nS:=by omega
           obtain⟨y,hy⟩:=get_some (HnS.out) hmt
           obtain⟨gt,y1,y2,y3,hta,hL,hEy,hcy⟩:=ev_told HXS.out HSt.out hy
           subst hta
           obtain⟨z1,j1,x1,rfl⟩:∃ a n c,y1=.slice a n c:=by rcases hL.labels with rfl | ⟨g,n,c,cs,rfl,-⟩<;>exact⟨_,_,_,rfl⟩
           obtain⟨z2,j2,x2,rfl⟩:∃ a n c,y2=.slice a n c:=by rcases hL.owners with rfl | ⟨g,n,c,cs,rfl,-⟩<;>exact⟨_,_,_,rfl⟩
           obtain⟨z3,j3,x3,rfl⟩:∃ a n c,y3=.slice a n c:=by rcases hL.holds with rfl | ⟨g,n,c,cs,rfl,-⟩<;>exact⟨_,_,_,rfl⟩
           have f0:=hcy 0 _ rfl
           have f1:=hcy 1 _ rfl
           have f2:=hcy 2 _ rfl
           have f3:=hcy 3 _ rfl
           have f4:=hcy 4 _ rfl
           have f5:=hcy 5 _ rfl
           have f6:=hcy 6 _ rfl
           have f7:=hcy 7 _ rfl
           have f8:=hcy 8 _ rfl
           have f9:=hcy 9 _ rfl
           have f10:=hcy 10 _ rfl
           have f11:=hcy 11 _ rfl
           rw [Nat.add_zero] at f0
           have q1:(0:Int)≤(m:Int):=by omega
           have q2:(m:Int)<(nS:Int):=by omega
           have HL9:=Lib.hid hL
           have HEy:=Lib.hid hEy
           have h7:=Lib.hid (heap_alloc_new wr (.cells #[.int .i64 0,.int .i64 0,.string {data:=#[]},.string {data:=#[]},.string {data:=#[]},.slice none 0 0,.slice none 0 0,.slice none 0 0,.bool false,.string {data:=#[]},.int .i64 0,.string {data:=#[]}] 56))
           have h4:=Lib.hid ((Below.refl wr.heap.size wr).alloc (Nat.le_refl _) (.cells #[.int .i64 0,.int .i64 0,.string {data:=#[]},.string {data:=#[]},.string {data:=#[]},.slice none 0 0,.slice none 0 0,.slice none 0 0,.bool false,.string {data:=#[]},.int .i64 0,.string {data:=#[]}] 56))
           have htl:=Lib.hid (told_lt HXS.out)
           clear hcy hL hEy hy
           go_wp2_with (refine wpList_store_box (by rfl) _ _ _ (by rfl) wr.heap.size #[.int .i64 y.kind,.int .i64 y.rev,.string y.object.okey.kind,.string y.object.okey.space,.string y.object.okey.name,.slice z1 j1 x1,.slice z2 j2 x2,.slice z3 j3 x3,.bool y.object.ending,.string y.object.uid,.int .i64 y.object.rev,.string y.object.doc] (by rfl) (by rfl) _ _ (by exact h7.out) (by exact Tryz.sizeEvO) (by rfl) (by simp [Value.oneCell']) ?_)
           intro w18 bY tY
           have hb18:Below wr.heap.size wr w18:=tY.below h4.out (Nat.le_refl _)
           obtain⟨gY,hgY⟩:∃ g,wr.heap.size=g:=⟨_,rfl⟩
           rw [hgY] at bY ⊢
           have XY18:=Lib.hid bY
           have HSt18:=Lib.hid (HSt.out.below htl.out hb18)
           have HL18:=Lib.hid (HL9.out.shape (Shape.of hb18))
           clear bY tY hb18 h7 h4 hgY HSt HL9 f0 f1 f2 f3 f4 f5 f6 f7 f8 f9 f10 f11
           have HSy:=Lib.hid (spoilObj_any (y.object) (.slice z1 j1 x1) (.slice z2 j2 x2) (.slice z3 j3 x3) w18 HL18.out)
           rw [show objW y.object (.slice z1 j1 x1) (.slice z2 j2 x2) (.slice z3 j3 x3)=.agg #[.string y.object.okey.kind,.string y.object.okey.space,.string y.object.okey.name,.slice z1 j1 x1,.slice z2 j2 x2,.slice z3 j3 x3,.bool y.object.ending,.string y.object.uid,.int .i64 y.object.rev,.string y.object.doc] from rfl] at HSy
           have cY:=fun i=>cell_block XY18.out i
           go_wp2_with fail
           refine HSy.out.mono ?_
           rintro _ w19 ⟨rfl,ho19,hsh19⟩
           have HSt19:=Lib.hid (HSt18.out.more htl.out ho19 hsh19 HEy.out)
           clear ho19 hsh19 HSy cY XY18 HL18 HEy HSt18
           go_wp2_with fail
           go_roundg k2
           case measure=>omega
           case rel=>exact⟨m+1,by omega,by go_num,HSt19⟩
          | zero=>
           obtain rfl:nS=m:=by omega
           obtain⟨wQ0,hwQ0⟩:∃ x,x=wr:=⟨wr,rfl⟩
           subst hwQ0
           have HDm:=Lib.hid (HDS.out.spoil HSt.out.only HES.out)
           clear HSt HXS HDS HES
           have HLq:=Lib.hid (list_any HDm.out.a1 HSo.out kind ⟨#[]⟩ hkz (by decide) 0)
           rw [Hla.out] at HLq
           go_wp2_with fail
           refine HLq.out.mono ?_
           rintro _ wq ⟨hbq,Eq9,vq,Lq,rfl,hTq,hOq,hEq⟩
           obtain⟨aq9,cq9,rfl,-,-⟩:=hOq.own.row.len
           obtain⟨nq,Hnq⟩:∃ n,Hid (Lq.length=n):=⟨_,Lib.hid rfl⟩
           rw [Hnq.out] at hOq ⊢
           have HDq:=Lib.hid (HDm.out.below hbq)
           have HOq:=Lib.hid hOq
           have HEq:Hid (∀ b,Eq9 b→wK.heap.size≤b∧b<wq.heap.size):=Lib.hid fun b hb=>⟨by have:=(hEq b hb).1;have:=HDm.out.size;omega,(hEq b hb).2⟩
           have HTq:=Lib.hid hTq
           clear hbq hTq hOq hEq HLq HDm
           have HLr:=Lib.hid (list_any HDq.out.a2 HSo.out kind ⟨#[]⟩ hkz (by decide) 0)
           rw [Hla.out] at HLr
           go_wp2_with fail
           refine HLr.out.mono ?_
           rintro _ wR ⟨hbR,ER,vR,LR,rfl,hTR,hOR,hER⟩
           obtain rfl:LR=Lq:=told_one hTR HTq.out
           obtain⟨aR,cR,rfl,-,-⟩:=hOR.own.row.len
           rw [Hnq.out] at hOR ⊢
           have HDR:=Lib.hid (HDq.out.below hbR)
           have HORr:=Lib.hid hOR
           have HOqr:Hid (OwnX ObjX 10 Eq9 wR 30 (.slice aq9 nq cq9) LR):=Lib.hid (HOq.out.agree famObj fun b hb=>hbR.block b (HEq.out b hb).2)
           have HEqr:Hid (∀ b,Eq9 b∨ER b→wK.heap.size≤b∧b<wR.heap.size):=Lib.hid fun b hb=>by
            have h1:=hbR.size
            have h2:=HDq.out.size
            rcases hb with hb | hb
            ·have:=HEq.out b hb;omega
            ·have:=hER b hb;omega
           have hnq:nq≤4194304:=by rw [←Hnq.out];exact list_short9 HSo.out hTR
           have HokL:Hid (∀ o∈LR,OkObj o):=Lib.hid (okObj_told9 HSo.out hTR)
           clear hbR hTR hOR hER HLr HTq HOq HEq HDq
           have HA1:=Lib.hid HDR.out.a1
           have HA2:=Lib.hid HDR.out.a2
           have HBR:=Lib.hid HDR.out.belW
           have hszR:=HDR.out.size
           have HKE:Hid (∀ b,K1 b∨K2 b→w.heap.size≤b∧b<wK.heap.size∧¬E1 b∧¬E2 b):=Lib.hid fun b hb=>by
            have h1:=HKD.out b hb
            have h2:b<wK.heap.size:=hb.elim (HW1.out.lt b) (HW2.out.lt b)
            exact⟨by omega,h2,fun h=>(HDR.out.d1 b h).elim h1.2.1 fun h9=>by omega,fun h=>(HDR.out.d2 b h).elim h1.2.2 fun h9=>by omega⟩
           have HWr1:Hid (HubW wR gh1 g1 om1 vw oe K1):=Lib.hid (HW1.out.agree hszR fun b hb=>HDR.out.only.block b (HW1.out.lt b hb) fun h=>h.elim (HKD.out b (.inl hb)).2.1 (HKD.out b (.inl hb)).2.2)
           have HWr2:Hid (HubW wR gh2 g2 om2 vw oe K2):=Lib.hid (HW2.out.agree hszR fun b hb=>HDR.out.only.block b (HW2.out.lt b hb) fun h=>h.elim (HKD.out b (.inr hb)).2.1 (HKD.out b (.inr hb)).2.2)
           have hlg:S.log.length≤4194304:=HSo.out.rev
           clear HDR HW1 HW2 HKD
           have HTk:=Lib.hid (take_hub (w0:=w) HA1.out HSo.out HWr1.out HOk.out (by omega) HEn.out.2.2 HBR.out fun b hb=>(HKE.out b (.inl hb)).1)
           obtain⟨tk,Htk⟩:∃ n,Hid (tkE oe S=n):=⟨_,Lib.hid rfl⟩
           obtain⟨TL,HTL⟩:∃ n,Hid (tkL vw oe S=n):=⟨_,Lib.hid rfl⟩
           have HTok:Hid (TL.length≤4194304∧∀ x∈TL,okEvS x):=Lib.hid (by have h9:=tkL_ok (v:=vw) (oe:=oe) HSo.out;rw [HTL.out] at h9;exact⟨by omega,h9.2⟩)
           rw [Htk.out,HTL.out] at HTk
           go_wp2_with fail
           refine HTk.out.mono ?_
           rintro _ wT ⟨ET,vT,rfl,hOT,hET,honT⟩
           obtain⟨aT,cT,rfl,-,-⟩:=hOT.own.row.len
           obtain⟨nT,HnT⟩:∃ n,Hid (TL.length=n):=⟨_,Lib.hid rfl⟩
           rw [HnT.out] at hOT ⊢
           have hszT:=honT.size
           have HOT:=Lib.hid hOT
           have HETt:Hid (∀ b,ET b→wR.heap.size≤b∧b<wT.heap.size):=Lib.hid hET
           have HAt1:Hid (StoreAt E1 wT g1 S):=Lib.hid (HA1.out.agree (fun b hb=>honT.block b (StoreAt.low HA1.out hb) fun h9=>(HKE.out b (.inl h9)).2.2.1 hb) honT.size)
           have HAt2:Hid (StoreAt E2 wT g2 S):=Lib.hid (HA2.out.agree (fun b hb=>honT.block b (StoreAt.low HA2.out hb) fun h9=>(HKE.out b (.inl h9)).2.2.2 hb) honT.size)
           have HWt2:Hid (HubW wT gh2 g2 om2 vw oe K2):=Lib.hid (HWr2.out.agree honT.size fun b hb=>honT.block b (HWr2.out.lt b hb) fun h9=>HKK.out b h9 hb)
           have HBt:Hid (Below w.heap.size w wT):=Lib.hid (HBR.out.trans (honT.below (fun b hb=>(HKE.out b (.inl hb)).1) HBR.out.size))
           have HOqt:Hid (OwnX ObjX 10 Eq9 wT 30 (.slice aq9 nq cq9) LR):=Lib.hid (HOqr.out.agree famObj fun b hb=>honT.block b (HEqr.out b (.inl hb)).2 fun h9=>by have:=(HKE.out b (.inl h9)).2.1;have:=(HEqr.out b (.inl hb)).1;omega)
           have HORt:Hid (OwnX ObjX 10 ER wT 30 (.slice aR nq cR) LR):=Lib.hid (HORr.out.agree famObj fun b hb=>honT.block b (HEqr.out b (.inr hb)).2 fun h9=>by have:=(HKE.out b (.inl h9)).2.1;have:=(HEqr.out b (.inr hb)).1;omega)
           clear hOT hET honT HTk HA1 HA2 HWr1 HWr2 HBR HOqr HORr
           have HTk:=Lib.hid (take_hub (w0:=w) HAt2.out HSo.out HWt2.out HOk.out (by omega) HEn.out.2.2 HBt.out fun b hb=>(HKE.out b (.inr hb)).1)
           rw [Htk.out,HTL.out] at HTk
           go_wp2_with fail
           refine HTk.out.mono ?_
           rintro _ wU ⟨EU,vU,rfl,hOU,hEU,honU⟩
           obtain⟨aU,cU,rfl,-,-⟩:=hOU.own.row.len
           rw [HnT.out] at hOU ⊢
           have HOU:=Lib.hid hOU
           have HAu1:Hid (StoreAt E1 wU g1 S):=Lib.hid (HAt1.out.agree (fun b hb=>honU.block b (StoreAt.low HAt1.out hb) fun h9=>(HKE.out b (.inr h9)).2.2.1 hb) honU.size)
           have HAu2:Hid (StoreAt E2 wU g2 S):=Lib.hid (HAt2.out.agree (fun b hb=>honU.block b (StoreAt.low HAt2.out hb) fun h9=>(HKE.out b (.inr h9)).2.2.2 hb) honU.size)
           have HBu:Hid (Below w.heap.size w wU):=Lib.hid (HBt.out.trans (honU.below (fun b hb=>(HKE.out b (.inr hb)).1) HBt.out.size))
           have HOqu:Hid (OwnX ObjX 10 Eq9 wU 30 (.slice aq9 nq cq9) LR):=Lib.hid (HOqt.out.agree famObj fun b hb=>honU.block b (by have:=(HEqr.out b (.inl hb)).2;omega) fun h9=>by have:=(HKE.out b (.inr h9)).2.1;have:=(HEqr.out b (.inl hb)).1;omega)
           have HORu:Hid (OwnX ObjX 10 ER wU 30 (.slice aR nq cR) LR):=Lib.hid (HORt.out.agree famObj fun b hb=>honU.block b (by have:=(HEqr.out b (.inr hb)).2;omega) fun h9=>by have:=(HKE.out b (.inr h9)).2.1;have:=(HEqr.out b (.inr hb)).1;omega)
           have HOTu:Hid (OwnX EvX 12 ET wU 56 (.slice aT nT cT) TL):=Lib.hid (HOT.out.agree famEv fun b hb=>honU.block b (HETt.out b hb).2 fun h9=>by have:=(HKE.out b (.inr h9)).2.1;have:=(HETt.out b hb).1;omega)
           have HEU:Hid (∀ b,EU b→b<wU.heap.size):=Lib.hid fun b hb=>(hEU b hb).2
           have HOU_sz:=Lib.hid honU.size
           clear hOU hEU honU HTk HAt1 HAt2 HWt2 HBt HOqt HORt HOT
           have HSm:=Lib.hid (sameObjSs_yes (.slice aq9 nq cq9) (.slice aR nq cR) LR wU (objs_row HOqu.out HokL.out) (objs_row HORu.out HokL.out) (by rw [Hnq.out];omega) HokL.out)
           go_wp2_with fail
           refine HSm.out.mono ?_
           rintro _ wV ⟨rfl,hbV⟩
           have HAv1:=Lib.hid (HAu1.out.belowW hbV)
           have HAv2:=Lib.hid (HAu2.out.belowW hbV)
           have HBv:=Lib.hid (HBu.out.trans (hbV.mono HBu.out.size))
           have HOTv:Hid (OwnX EvX 12 ET wV 56 (.slice aT nT cT) TL):=Lib.hid (HOTu.out.agree famEv fun b hb=>hbV.block b (by have:=(HETt.out b hb).2;have:=HOU_sz.out;omega))
           have HOUv:Hid (OwnX EvX 12 EU wV 56 (.slice aU nT cU) TL):=Lib.hid (HOU.out.agree famEv fun b hb=>hbV.block b (HEU.out b hb))
           clear hbV HSm HAu1 HAu2 HBu HOqu HORu HOTu HOU
           have HSe:=Lib.hid (sameEvSs_yes (.slice aT nT cT) (.slice aU nT cU) TL wV (evs_row HOTv.out) (evs_row HOUv.out) (by have:=HTok.out.1;omega) HTok.out.2)
           have q5:((tk:Int) == tk)=true:=beq_self_eq_true _
           go_wp2_with fail
           refine HSe.out.mono ?_
           rintro _ wX ⟨rfl,hbX⟩
           have HAx1:=Lib.hid (HAv1.out.belowW hbX)
           have HAx2:=Lib.hid (HAv2.out.belowW hbX)
           have HBx:=Lib.hid (HBv.out.trans (hbX.mono HBv.out.size))
           clear hbX HSe q5 HAv1 HAv2 HBv HOTv HOUv
           have HRv:=Lib.hid (rev_any HAx1.out)
           go_wp2_with fail
           refine HRv.out.mono ?_
           rintro _ wy ⟨rfl,rfl⟩
           have HRv2:=Lib.hid (rev_any HAx2.out)
           clear HRv
           go_wp2_with fail
           refine HRv2.out.mono ?_
           rintro _ wz ⟨rfl,rfl⟩
           clear HRv2
           go_wp2_with fail
           go_ret
           exact⟨by first | rfl | simp,HBx.out⟩
      | succ k=>
       have hil:i<nl:=by omega
       obtain⟨x,hx⟩:∃ x,l[i]? = some x:=⟨l[i]'(by rw [Hnl.out];exact hil),List.getElem?_eq_getElem _⟩
       have HB:=Lib.hid HDu.out.belW
       have hE12:Hid (∀ b,E1 b∨E2 b→b<wr.heap.size):=Lib.hid fun b hb=>hb.elim (fun h=>HDu.out.lt1 h) fun h=>HDu.out.lt2 h
       have hKr:=HDu.out.size
       obtain⟨b,o,v1,v2,v3,hva,g1,g2',g3,ec⟩:=step_cells HRow.out Hnl.out (Below.refl _ _) hx
       subst hva
       obtain⟨a7,c7,rfl,-,-⟩:=g1.len
       obtain⟨a8,c8,rfl,-,-⟩:=g2'.row.len
       obtain⟨a9,c9,rfl,-,-⟩:=g3.row.len
       obtain⟨n7,Hn7⟩:∃ n,Hid (x.o.labels.length=n):=⟨_,Lib.hid rfl⟩
       obtain⟨n8,Hn8⟩:∃ n,Hid (x.o.owners.length=n):=⟨_,Lib.hid rfl⟩
       obtain⟨n9,Hn9⟩:∃ n,Hid (x.o.holds.length=n):=⟨_,Lib.hid rfl⟩
       rw [Hn7.out] at g1 ec
       rw [Hn8.out] at g2' ec
       rw [Hn9.out] at g3 ec
       have hbb:b<w.heap.size:=World.block_lt_of_cell? w _ (ec 0 _ rfl)
       have f0:=(HB.out.cell (p:=⟨b,_,none⟩) hbb).trans (ec 0 _ rfl)
       have f1:=(HB.out.cell (p:=⟨b,_,none⟩) hbb).trans (ec 1 _ rfl)
       have f2:=(HB.out.cell (p:=⟨b,_,none⟩) hbb).trans (ec 2 _ rfl)
       have f3:=(HB.out.cell (p:=⟨b,_,none⟩) hbb).trans (ec 3 _ rfl)
       have f4:=(HB.out.cell (p:=⟨b,_,none⟩) hbb).trans (ec 4 _ rfl)
       have f5:=(HB.out.cell (p:=⟨b,_,none⟩) hbb).trans (ec 5 _ rfl)
       have f6:=(HB.out.cell (p:=⟨b,_,none⟩) hbb).trans (ec 6 _ rfl)
       have f7:=(HB.out.cell (p:=⟨b,_,none⟩) hbb).trans (ec 7 _ rfl)
       have f8:=(HB.out.cell (p:=⟨b,_,none⟩) hbb).trans (ec 8 _ rfl)
       have f9:=(HB.out.cell (p:=⟨b,_,none⟩) hbb).trans (ec 9 _ rfl)
       have f10:=(HB.out.cell (p:=⟨b,_,none⟩) hbb).trans (ec 10 _ rfl)
       have f11:=(HB.out.cell (p:=⟨b,_,none⟩) hbb).trans (ec 11 _ rfl)
       rw [Nat.add_zero] at f0
       have q1:(0:Int)≤(i:Int):=by omega
       have q2:(i:Int)<(nl:Int):=by omega
       have HX:=Lib.hid hx
       have HRw:Hid (RowAt LabelR 2 w (.slice a7 n7 c7) x.o.labels∧StrAt w (.slice a8 n8 c8) x.o.owners∧StrAt w (.slice a9 n9 c9) x.o.holds):=Lib.hid ⟨g1,g2',g3⟩
       have H7:=Lib.hid (heap_alloc_new wr (.cells #[.int .i64 0,.int .i64 0,.string {data:=#[]},.string {data:=#[]},.string {data:=#[]},.slice none 0 0,.slice none 0 0,.slice none 0 0,.bool false,.string {data:=#[]},.int .i64 0,.string {data:=#[]}] 40))
       have HB4:=Lib.hid ((Below.refl wr.heap.size wr).alloc (Nat.le_refl _) (.cells #[.int .i64 0,.int .i64 0,.string {data:=#[]},.string {data:=#[]},.string {data:=#[]},.slice none 0 0,.slice none 0 0,.slice none 0 0,.bool false,.string {data:=#[]},.int .i64 0,.string {data:=#[]}] 40))
       have hs4:(wr.alloc (.cells #[.int .i64 0,.int .i64 0,.string {data:=#[]},.string {data:=#[]},.string {data:=#[]},.slice none 0 0,.slice none 0 0,.slice none 0 0,.bool false,.string {data:=#[]},.int .i64 0,.string {data:=#[]}] 40)).heap.size=wr.heap.size+1:=World.size_alloc _ _
       have HokX:Hid (OkObj x.o):=Lib.hid (Hok.out x (List.mem_of_getElem? hx))
       have HSi:Hid (OkSt (run St0 (l.take i))):=Lib.hid (okSt_run okSt0 _ (fun y hy=>Hok.out y (List.mem_of_mem_take hy)) (by show 0+_≤_;rw [List.length_take];have:=Hnl.out;omega))
       have Hrev:Hid ((run St0 (l.take i)).rev≤4194303):=Lib.hid (by have h9:=rev_run St0 (l.take i);have h8:St0.rev=0:=rfl;rw [List.length_take] at h9;have:=Hnl.out;omega)
       clear hx ec g1 g2' g3
       go_wp2_with (first | (refine wpList_store_box (by rfl) _ _ _ (by rfl) wr.heap.size #[.int .i64 x.kind,.int .i64 x.rev,.string x.o.okey.kind,.string x.o.okey.space,.string x.o.okey.name,.slice a7 n7 c7,.slice a8 n8 c8,.slice a9 n9 c9,.bool x.o.ending,.string x.o.uid,.int .i64 x.o.rev,.string x.o.doc] (by rfl) (by rfl) _ _ (by exact H7.out) (by exact Tryz.sizeStep) (by rfl) (by simp [Value.oneCell']) ?_))
       intro w5 b5 t5
       have hb5:Below wr.heap.size wr w5:=t5.below HB4.out (Nat.le_refl _)
       have hs5:w5.heap.size=wr.heap.size+1:=t5.size.trans hs4
       obtain⟨gS,hgS⟩:∃ g,wr.heap.size=g:=⟨_,rfl⟩
       rw [hgS] at b5 hE12 hKr ⊢
       have XS5:=Lib.hid b5
       have HD5:=Lib.hid (HDu.out.below hb5)
       have hgS5:gS<w5.heap.size:=by omega
       clear b5 t5 hb5 hs4 H7 HB4 f0 f1 f2 f3 f4 f5 f6 f7 f8 f9 f10 f11 hgS hs5 HDu HB
       have cS:=fun i=>cell_block XS5.out i
       have H7:=Lib.hid (heap_alloc_new w5 (.cells #[.int .i64 0,.int .i64 0,.string {data:=#[]},.string {data:=#[]},.string {data:=#[]},.slice none 0 0,.slice none 0 0,.slice none 0 0,.bool false,.string {data:=#[]},.int .i64 0,.string {data:=#[]}] 40))
       have HB4:=Lib.hid ((Below.refl w5.heap.size w5).alloc (Nat.le_refl _) (.cells #[.int .i64 0,.int .i64 0,.string {data:=#[]},.string {data:=#[]},.string {data:=#[]},.slice none 0 0,.slice none 0 0,.slice none 0 0,.bool false,.string {data:=#[]},.int .i64 0,.string {data:=#[]}] 40))
       have hs4:(w5.alloc (.cells #[.int .i64 0,.int .i64 0,.string {data:=#[]},.string {data:=#[]},.string {data:=#[]},.slice none 0 0,.slice none 0 0,.slice none 0 0,.bool false,.string {data:=#[]},.int .i64 0,.string {data:=#[]}] 40)).heap.size=w5.heap.size+1:=World.size_alloc _ _
       go_wp2_with (first | (refine wpList_store_box (by rfl) _ _ _ (by rfl) w5.heap.size #[.int .i64 x.kind,.int .i64 x.rev,.string x.o.okey.kind,.string x.o.okey.space,.string x.o.okey.name,.slice a7 n7 c7,.slice a8 n8 c8,.slice a9 n9 c9,.bool x.o.ending,.string x.o.uid,.int .i64 x.o.rev,.string x.o.doc] (by rfl) (by rfl) _ _ (by exact H7.out) (by exact Tryz.sizeStep) (by rfl) (by simp [Value.oneCell']) ?_))
       intro w6' b6 t6
       have hb6:Below w5.heap.size w5 w6':=t6.below HB4.out (Nat.le_refl _)
       have hs6':w6'.heap.size=w5.heap.size+1:=t6.size.trans hs4
       obtain⟨gM,hgM⟩:∃ g,w5.heap.size=g:=⟨_,rfl⟩
       rw [hgM] at b6 ⊢
       have XM6:=Lib.hid b6
       have XS6:=Lib.hid (below_block hb6 XS5.out)
       have HD6:=Lib.hid (HD5.out.below hb6)
       have hgM5:w5.heap.size≤gM:=by omega
       have hgM6:gM<w6'.heap.size:=by omega
       clear b6 t6 hb6 hs4 H7 HB4 hgM hs6' HD5 XS5 cS
       have cS:=fun i=>cell_block XS6.out i
       have HOb:=Lib.hid (object_any x.o (.slice a7 n7 c7) (.slice a8 n8 c8) (.slice a9 n9 c9) w6' (HRw.out.1.below stays_label HD6.out.belW) (HRw.out.2.1.below HD6.out.belW) (HRw.out.2.2.below HD6.out.belW) HokX.out)
       rw [show objW x.o (.slice a7 n7 c7) (.slice a8 n8 c8) (.slice a9 n9 c9)=.agg #[.string x.o.okey.kind,.string x.o.okey.space,.string x.o.okey.name,.slice a7 n7 c7,.slice a8 n8 c8,.slice a9 n9 c9,.bool x.o.ending,.string x.o.uid,.int .i64 x.o.rev,.string x.o.doc] from rfl] at HOb
       go_wp2_with fail
       refine HOb.out.mono ?_
       rintro E w7' ⟨EM,u1,u2,u3,rfl,hoM,hEM,hb7⟩
       obtain⟨b1,d1,rfl,-,-⟩:=hoM.labels.own.row.len
       obtain⟨b2,d2,rfl,-,-⟩:=hoM.owners.own.row.len
       obtain⟨b3,d3,rfl,-,-⟩:=hoM.holds.own.row.len
       rw [Hn7.out,Hn8.out,Hn9.out] at hoM ⊢
       have HM7:=Lib.hid hoM
       have hEM7:Hid (∀ b,EM b→w6'.heap.size≤b∧b<w7'.heap.size):=Lib.hid hEM
       have XM7:=Lib.hid (below_block hb7 XM6.out)
       have XS7:=Lib.hid (below_block hb7 XS6.out)
       have HD7:=Lib.hid (HD6.out.below hb7)
       have hs7':=hb7.size
       clear hoM hEM hb7 HOb cS XM6 XS6 HD6
       rw [show objW x.o (.slice b1 n7 d1) (.slice b2 n8 d2) (.slice b3 n9 d3)=.agg #[.string x.o.okey.kind,.string x.o.okey.space,.string x.o.okey.name,.slice b1 n7 d1,.slice b2 n8 d2,.slice b3 n9 d3,.bool x.o.ending,.string x.o.uid,.int .i64 x.o.rev,.string x.o.doc] from rfl]
       go_wp2_with (refine wpList_store_part (by rfl) _ _ _ (by rfl) gM 2 #[.string x.o.okey.kind,.string x.o.okey.space,.string x.o.okey.name,.slice b1 n7 d1,.slice b2 n8 d2,.slice b3 n9 d3,.bool x.o.ending,.string x.o.uid,.int .i64 x.o.rev,.string x.o.doc] (by rfl) (by rfl) _ _ (by exact XM7.out) (by exact Tryz.sizeObj) (by show 12≤12;decide) (by simp [Value.oneCell']) ?_)
       intro w8' bm tm
       have XM8:Hid (w8'.heap[gM]? = some (.cells #[.int .i64 x.kind,.int .i64 x.rev,.string x.o.okey.kind,.string x.o.okey.space,.string x.o.okey.name,.slice b1 n7 d1,.slice b2 n8 d2,.slice b3 n9 d3,.bool x.o.ending,.string x.o.uid,.int .i64 x.o.rev,.string x.o.doc] 40 (0,0))):=Lib.hid bm
       have hsm:w7'.heap.size≤w8'.heap.size:=by rw [tm.size];exact Nat.le_refl _
       have XS8:=Lib.hid (tm.block XS7.out (by omega))
       have HD8:=Lib.hid (HD7.out.spoil (Only.touch (D:=fun b=>b=gM) tm rfl) fun b hb=>by
        subst hb
        exact⟨by omega,fun h=>by have:=hE12.out b (.inl h);omega,fun h=>by have:=hE12.out b (.inr h);omega⟩)
       have HM8:Hid (ObjIn EM w8' (.slice b1 n7 d1) (.slice b2 n8 d2) (.slice b3 n9 d3) x.o):=Lib.hid (HM7.out.agree fun b hb=>tm.other b (by have:=(hEM7.out b hb).1;omega))
       have hbm:Below gM w7' w8':=⟨tm.os,tm.tape,tm.output,hsm,fun k hk=>tm.other k (by omega)⟩
       clear bm tm XM7 XS7 HD7 HM7
       obtain⟨T,HT⟩:∃ T,Hid (doS (run St0 (l.take i)) x=T):=⟨_,Lib.hid rfl⟩
       have HokT:Hid (OkObj T.2.1):=Lib.hid (by rw [←HT.out];exact okObj_did HSi.out HokX.out Hrev.out)
       have HST:Hid (T.1=run St0 (l.take (i+1))):=Lib.hid (by rw [take_snoc HX.out,run_snoc,HT.out])
       have HDo:=Lib.hid (do_any (w0:=w) HD8.out.a1 (HD8.out.home1 HEn.out) HSi.out Hrev.out x (.slice b1 n7 d1) (.slice b2 n8 d2) (.slice b3 n9 d3) HM8.out.rowL HM8.out.rowO HM8.out.rowH HokX.out)
       rw [HT.out,show stepW x (.slice b1 n7 d1) (.slice b2 n8 d2) (.slice b3 n9 d3)=.agg #[.int .i64 x.kind,.int .i64 x.rev,.string x.o.okey.kind,.string x.o.okey.space,.string x.o.okey.name,.slice b1 n7 d1,.slice b2 n8 d2,.slice b3 n9 d3,.bool x.o.ending,.string x.o.uid,.int .i64 x.o.rev,.string x.o.doc] from rfl] at HDo
       obtain⟨S9,O,er⟩:=T
       dsimp only at HokT HST
       have cM:=fun i=>cell_block XM8.out i
       go_wp2_with fail
       refine HDo.out.mono ?_
       rintro E w9 ⟨D1',E9,p1,p2,p3,rfl,k1,k2,k3,k4,k5⟩
       dsimp only at k1 k2 ⊢
       obtain⟨p1,p4,rfl,-,-⟩:=k2.labels.own.row.len
       obtain⟨p2,p5,rfl,-,-⟩:=k2.owners.own.row.len
       obtain⟨p3,p6,rfl,-,-⟩:=k2.holds.own.row.len
       obtain⟨m1,Hm1⟩:∃ n,Hid (O.labels.length=n):=⟨_,Lib.hid rfl⟩
       obtain⟨m2,Hm2⟩:∃ n,Hid (O.owners.length=n):=⟨_,Lib.hid rfl⟩
       obtain⟨m3,Hm3⟩:∃ n,Hid (O.holds.length=n):=⟨_,Lib.hid rfl⟩
       rw [Hm1.out,Hm2.out,Hm3.out] at k2 ⊢
       have hs9:=k5.size
       have HD9:=Lib.hid (HD8.out.did1 k1 k4 k5)
       have HP9:=Lib.hid k2
       have hE9:Hid (∀ b,E9 b→w8'.heap.size≤b∧b<w9.heap.size∧¬D1' b):=Lib.hid k3
       have hD1':Hid (∀ b,D1' b→b<gS∨w8'.heap.size≤b):=Lib.hid fun b hb=>(k4 b hb).imp (fun h=>hE12.out b (.inl h)) fun h=>h
       have XM9:=Lib.hid ((k5.block gM (by omega) fun h=>by have:=hE12.out gM (.inl h);omega).trans XM8.out)
       have XS9:=Lib.hid ((k5.block gS (by omega) fun h=>by have:=hE12.out gS (.inl h);omega).trans XS8.out)
       have HM9:Hid (ObjIn EM w9 (.slice b1 n7 d1) (.slice b2 n8 d2) (.slice b3 n9 d3) x.o):=Lib.hid (HM8.out.agree fun b hb=>k5.block b (by have:=(hEM7.out b hb).2;omega) fun h=>by have:=hE12.out b (.inl h);have:=(hEM7.out b hb).1;omega)
       clear k1 k2 k3 k4 k5 HDo cM XM8 XS8 HD8 HM8 hbm
       rw [show objW O (.slice p1 m1 p4) (.slice p2 m2 p5) (.slice p3 m3 p6)=.agg #[.string O.okey.kind,.string O.okey.space,.string O.okey.name,.slice p1 m1 p4,.slice p2 m2 p5,.slice p3 m3 p6,.bool O.ending,.string O.uid,.int .i64 O.rev,.string O.doc] from rfl]
       have h7:=Lib.hid (heap_alloc_new w9 (.cells noA 30))
       have h4:=Lib.hid ((Below.refl w9.heap.size w9).alloc (Nat.le_refl _) (.cells noA 30))
       go_wp2_with (refine wpList_store_box (by rfl) _ _ _ (by rfl) w9.heap.size #[.string O.okey.kind,.string O.okey.space,.string O.okey.name,.slice p1 m1 p4,.slice p2 m2 p5,.slice p3 m3 p6,.bool O.ending,.string O.uid,.int .i64 O.rev,.string O.doc] (by rfl) (by rfl) _ _ (by exact h7.out) (by exact Tryz.sizeObj) (by rfl) (by simp [Value.oneCell']) ?_)
       intro w10 bA tA
       have hb10:Below w9.heap.size w9 w10:=tA.below h4.out (Nat.le_refl _)
       have hs10:w10.heap.size=w9.heap.size+1:=tA.size.trans (World.size_alloc _ _)
       obtain⟨gA,hgA⟩:∃ g,w9.heap.size=g:=⟨_,rfl⟩
       rw [hgA] at bA ⊢
       have XA10:=Lib.hid bA
       have XM10:=Lib.hid (below_block hb10 XM9.out)
       have XS10:=Lib.hid (below_block hb10 XS9.out)
       have HD10:=Lib.hid (HD9.out.below hb10)
       have HP10:Hid (ObjIn E9 w10 (.slice p1 m1 p4) (.slice p2 m2 p5) (.slice p3 m3 p6) O):=Lib.hid (HP9.out.agree fun b hb=>hb10.block b (hE9.out b hb).2.1)
       have HM10:Hid (ObjIn EM w10 (.slice b1 n7 d1) (.slice b2 n8 d2) (.slice b3 n9 d3) x.o):=Lib.hid (HM9.out.agree fun b hb=>hb10.block b (by have:=(hEM7.out b hb).2;omega))
       have hgA9:w9.heap.size≤gA:=by omega
       have hgA10:gA<w10.heap.size:=by omega
       clear bA tA hb10 h7 h4 hgA hs10 XM9 XS9 HD9 HP9 HM9
       have HDo:=Lib.hid (do_any (w0:=w) HD10.out.a2 (HD10.out.home2 HEn.out) HSi.out Hrev.out x (.slice a7 n7 c7) (.slice a8 n8 c8) (.slice a9 n9 c9) (HRw.out.1.below stays_label HD10.out.belW) (HRw.out.2.1.below HD10.out.belW) (HRw.out.2.2.below HD10.out.belW) HokX.out)
       rw [HT.out,show stepW x (.slice a7 n7 c7) (.slice a8 n8 c8) (.slice a9 n9 c9)=.agg #[.int .i64 x.kind,.int .i64 x.rev,.string x.o.okey.kind,.string x.o.okey.space,.string x.o.okey.name,.slice a7 n7 c7,.slice a8 n8 c8,.slice a9 n9 c9,.bool x.o.ending,.string x.o.uid,.int .i64 x.o.rev,.string x.o.doc] from rfl] at HDo
       have cS:=fun i=>cell_block XS10.out i
       go_wp2_with fail
       refine HDo.out.mono ?_
       rintro E w11 ⟨D2',E11,r1,r2,r3,rfl,k1,k2,k3,k4,k5⟩
       dsimp only at k1 k2 ⊢
       obtain⟨r1,r4,rfl,-,-⟩:=k2.labels.own.row.len
       obtain⟨r2,r5,rfl,-,-⟩:=k2.owners.own.row.len
       obtain⟨r3,r6,rfl,-,-⟩:=k2.holds.own.row.len
       rw [Hm1.out,Hm2.out,Hm3.out] at k2 ⊢
       have hs11:=k5.size
       have HD11:=Lib.hid (HD10.out.did2 k1 k4 k5)
       have HR11:=Lib.hid k2
       have hE11:Hid (∀ b,E11 b→b<w11.heap.size):=Lib.hid fun b hb=>(k3 b hb).2.1
       have hD2':Hid (∀ b,D2' b→b<gS∨w10.heap.size≤b):=Lib.hid fun b hb=>(k4 b hb).imp (fun h=>hE12.out b (.inr h)) fun h=>h
       have XA11:=Lib.hid ((k5.block gA (by omega) fun h=>by have:=hE12.out gA (.inr h);omega).trans XA10.out)
       have XM11:=Lib.hid ((k5.block gM (by omega) fun h=>by have:=hE12.out gM (.inr h);omega).trans XM10.out)
       have XS11:=Lib.hid ((k5.block gS (by omega) fun h=>by have:=hE12.out gS (.inr h);omega).trans XS10.out)
       have HM11:Hid (ObjIn EM w11 (.slice b1 n7 d1) (.slice b2 n8 d2) (.slice b3 n9 d3) x.o):=Lib.hid (HM10.out.agree fun b hb=>k5.block b (by have:=(hEM7.out b hb).2;omega) fun h=>by have:=hE12.out b (.inr h);have:=(hEM7.out b hb).1;omega)
       have HP11:Hid (ObjIn E9 w11 (.slice p1 m1 p4) (.slice p2 m2 p5) (.slice p3 m3 p6) O):=Lib.hid (HP10.out.agree fun b hb=>k5.block b (by have:=(hE9.out b hb).2.1;omega) fun h=>by have:=hE12.out b (.inr h);have:=(hE9.out b hb).1;omega)
       clear k1 k2 k3 k4 k5 HDo cS XA10 XM10 XS10 HD10 HM10 HP10
       rw [show objW O (.slice r1 m1 r4) (.slice r2 m2 r5) (.slice r3 m3 r6)=.agg #[.string O.okey.kind,.string O.okey.space,.string O.okey.name,.slice r1 m1 r4,.slice r2 m2 r5,.slice r3 m3 r6,.bool O.ending,.string O.uid,.int .i64 O.rev,.string O.doc] from rfl]
       have h7:=Lib.hid (heap_alloc_new w11 (.cells noA 30))
       have h4:=Lib.hid ((Below.refl w11.heap.size w11).alloc (Nat.le_refl _) (.cells noA 30))
       go_wp2_with (refine wpList_store_box (by rfl) _ _ _ (by rfl) w11.heap.size #[.string O.okey.kind,.string O.okey.space,.string O.okey.name,.slice r1 m1 r4,.slice r2 m2 r5,.slice r3 m3 r6,.bool O.ending,.string O.uid,.int .i64 O.rev,.string O.doc] (by rfl) (by rfl) _ _ (by exact h7.out) (by exact Tryz.sizeObj) (by rfl) (by simp [Value.oneCell']) ?_)
       intro w12 bB tB
       have hb12:Below w11.heap.size w11 w12:=tB.below h4.out (Nat.le_refl _)
       obtain⟨gB,hgB⟩:∃ g,w11.heap.size=g:=⟨_,rfl⟩
       rw [hgB] at bB ⊢
       have XB12:=Lib.hid bB
       have XA12:=Lib.hid (below_block hb12 XA11.out)
       have XM12:=Lib.hid (below_block hb12 XM11.out)
       have XS12:=Lib.hid (below_block hb12 XS11.out)
       have HD12:=Lib.hid (HD11.out.below hb12)
       have HP12:Hid (ObjIn E9 w12 (.slice p1 m1 p4) (.slice p2 m2 p5) (.slice p3 m3 p6) O):=Lib.hid (HP11.out.agree fun b hb=>hb12.block b (by have:=(hE9.out b hb).2.1;omega))
       have HM12:Hid (ObjIn EM w12 (.slice b1 n7 d1) (.slice b2 n8 d2) (.slice b3 n9 d3) x.o):=Lib.hid (HM11.out.agree fun b hb=>hb12.block b (by have:=(hEM7.out b hb).2;omega))
       have HR12:Hid (ObjIn E11 w12 (.slice r1 m1 r4) (.slice r2 m2 r5) (.slice r3 m3 r6) O):=Lib.hid (HR11.out.agree fun b hb=>hb12.block b (hE11.out b hb))
       have hs12:=hb12.size
       clear bB tB hb12 h7 h4 hgB XA11 XM11 XS11 HD11 HP11 HM11 HR11 hE11
       have HS1:=Lib.hid (sameObj_yes O (.slice p1 m1 p4) (.slice p2 m2 p5) (.slice p3 m3 p6) (.slice r1 m1 r4) (.slice r2 m2 r5) (.slice r3 m3 r6) w12 HP12.out.rowL HP12.out.rowO HP12.out.rowH HR12.out.rowL HR12.out.rowO HR12.out.rowH HokT.out)
       rw [show objW O (.slice p1 m1 p4) (.slice p2 m2 p5) (.slice p3 m3 p6)=.agg #[.string O.okey.kind,.string O.okey.space,.string O.okey.name,.slice p1 m1 p4,.slice p2 m2 p5,.slice p3 m3 p6,.bool O.ending,.string O.uid,.int .i64 O.rev,.string O.doc] from rfl,show objW O (.slice r1 m1 r4) (.slice r2 m2 r5) (.slice r3 m3 r6)=.agg #[.string O.okey.kind,.string O.okey.space,.string O.okey.name,.slice r1 m1 r4,.slice r2 m2 r5,.slice r3 m3 r6,.bool O.ending,.string O.uid,.int .i64 O.rev,.string O.doc] from rfl] at HS1
       have q9:((er:Int) != er)=false:=by rw [bne_eq_false_iff_eq]
       have cA:=fun i=>cell_block XA12.out i
       have cB:=fun i=>cell_block XB12.out i
       go_wp2_with fail
       refine HS1.out.mono ?_
       rintro _ w13 ⟨rfl,hb13⟩
       have XA13:=Lib.hid (below_block hb13 XA12.out)
       have XM13:=Lib.hid (below_block hb13 XM12.out)
       have XS13:=Lib.hid (below_block hb13 XS12.out)
       have HD13:=Lib.hid (HD12.out.below hb13)
       have HP13:Hid (ObjIn E9 w13 (.slice p1 m1 p4) (.slice p2 m2 p5) (.slice p3 m3 p6) O):=Lib.hid (HP12.out.agree fun b hb=>hb13.block b (by have:=(hE9.out b hb).2.1;omega))
       have HM13:Hid (ObjIn EM w13 (.slice b1 n7 d1) (.slice b2 n8 d2) (.slice b3 n9 d3) x.o):=Lib.hid (HM12.out.agree fun b hb=>hb13.block b (by have:=(hEM7.out b hb).2;omega))
       have hs13:=hb13.size
       clear hb13 HS1 q9 cA cB XA12 XB12 XM12 XS12 HD12 HP12 HM12 HR12
       have HS2:=Lib.hid (sameObj_yes x.o (.slice b1 n7 d1) (.slice b2 n8 d2) (.slice b3 n9 d3) (.slice a7 n7 c7) (.slice a8 n8 c8) (.slice a9 n9 c9) w13 HM13.out.rowL HM13.out.rowO HM13.out.rowH (HRw.out.1.below stays_label HD13.out.belW) (HRw.out.2.1.below HD13.out.belW) (HRw.out.2.2.below HD13.out.belW) HokX.out)
       rw [show objW x.o (.slice b1 n7 d1) (.slice b2 n8 d2) (.slice b3 n9 d3)=.agg #[.string x.o.okey.kind,.string x.o.okey.space,.string x.o.okey.name,.slice b1 n7 d1,.slice b2 n8 d2,.slice b3 n9 d3,.bool x.o.ending,.string x.o.uid,.int .i64 x.o.rev,.string x.o.doc] from rfl,show objW x.o (.slice a7 n7 c7) (.slice a8 n8 c8) (.slice a9 n9 c9)=.agg #[.string x.o.okey.kind,.string x.o.okey.space,.string x.o.okey.name,.slice a7 n7 c7,.slice a8 n8 c8,.slice a9 n9 c9,.bool x.o.ending,.string x.o.uid,.int .i64 x.o.rev,.string x.o.doc] from rfl] at HS2
       have cM:=fun i=>cell_block XM13.out i
       have cS:=fun i=>cell_block XS13.out i
       go_wp2_with fail
       refine HS2.out.mono ?_
       rintro _ w14 ⟨rfl,hb14⟩
       have XA14:=Lib.hid (below_block hb14 XA13.out)
       have XM14:=Lib.hid (below_block hb14 XM13.out)
       have HD14:=Lib.hid (HD13.out.below hb14)
       have HP14:Hid (ObjIn E9 w14 (.slice p1 m1 p4) (.slice p2 m2 p5) (.slice p3 m3 p6) O):=Lib.hid (HP13.out.agree fun b hb=>hb14.block b (by have:=(hE9.out b hb).2.1;omega))
       have HM14:Hid (ObjIn EM w14 (.slice b1 n7 d1) (.slice b2 n8 d2) (.slice b3 n9 d3) x.o):=Lib.hid (HM13.out.agree fun b hb=>hb14.block b (by have:=(hEM7.out b hb).2;omega))
       have hs14:=hb14.size
       clear hb14 HS2 cM cS XA13 XM13 XS13 HD13 HP13 HM13
       have HSp:=Lib.hid (spoilObj_any x.o (.slice b1 n7 d1) (.slice b2 n8 d2) (.slice b3 n9 d3) w14 (LooseO.of HM14.out))
       rw [show objW x.o (.slice b1 n7 d1) (.slice b2 n8 d2) (.slice b3 n9 d3)=.agg #[.string x.o.okey.kind,.string x.o.okey.space,.string x.o.okey.name,.slice b1 n7 d1,.slice b2 n8 d2,.slice b3 n9 d3,.bool x.o.ending,.string x.o.uid,.int .i64 x.o.rev,.string x.o.doc] from rfl] at HSp
       have cM:=fun i=>cell_block XM14.out i
       go_wp2_with fail
       refine HSp.out.mono ?_
       rintro _ w15 ⟨rfl,ho15,hsh15⟩
       have hE15:Hid (∀ b,OwnB (.slice b1 n7 d1) (.slice b2 n8 d2) (.slice b3 n9 d3) b→w6'.heap.size≤b∧b<w7'.heap.size):=Lib.hid fun b hb=>hEM7.out b (OwnB.of HM14.out b hb)
       have HD15:=Lib.hid (HD14.out.spoil ho15 fun b hb=>by
        have h9:=hE15.out b hb
        exact⟨by omega,fun h=>by have:=hD1'.out b h;omega,fun h=>by have:=hD2'.out b h;omega⟩)
       have XA15:=Lib.hid ((ho15.block gA (by omega) fun h=>by have:=(hE15.out gA h).2;omega).trans XA14.out)
       have HP15:Hid (ObjIn E9 w15 (.slice p1 m1 p4) (.slice p2 m2 p5) (.slice p3 m3 p6) O):=Lib.hid (HP14.out.agree fun b hb=>ho15.block b (by have:=(hE9.out b hb).2.1;omega) fun h=>by have:=(hE15.out b h).2;have:=(hE9.out b hb).1;omega)
       have hs15:=ho15.size
       clear ho15 hsh15 HSp cM XA14 XM14 HD14 HP14 HM14
       have HSq:=Lib.hid (spoilObj_any O (.slice p1 m1 p4) (.slice p2 m2 p5) (.slice p3 m3 p6) w15 (LooseO.of HP15.out))
       rw [show objW O (.slice p1 m1 p4) (.slice p2 m2 p5) (.slice p3 m3 p6)=.agg #[.string O.okey.kind,.string O.okey.space,.string O.okey.name,.slice p1 m1 p4,.slice p2 m2 p5,.slice p3 m3 p6,.bool O.ending,.string O.uid,.int .i64 O.rev,.string O.doc] from rfl] at HSq
       have cA:=fun i=>cell_block XA15.out i
       go_wp2_with fail
       refine HSq.out.mono ?_
       rintro _ w16 ⟨rfl,ho16,hsh16⟩
       have HD16:=Lib.hid (HD15.out.spoil ho16 fun b hb=>by
        have h9:=hE9.out b (OwnB.of HP15.out b hb)
        exact⟨by omega,h9.2.2,fun h=>by have:=hD2'.out b h;omega⟩)
       have hs16:=ho16.size
       clear ho16 hsh16 HSq cA XA15 HD15 HP15
       have HSt9:Hid (OkSt S9):=Lib.hid (by rw [HST.out];exact okSt_run okSt0 _ (fun y hy=>Hok.out y (List.mem_of_mem_take hy)) (by show 0+_≤_;rw [List.length_take];have:=Hnl.out;omega))
       have HLs:=Lib.hid (list_any HD16.out.a1 HSt9.out kind ⟨#[]⟩ hkz (by decide) 0)
       go_wp2_with fail
       refine HLs.out.mono ?_
       rintro _ w17 ⟨hb17,E17,vt,L,rfl,hLT,hOX,hE17⟩
       obtain⟨ta,tc,rfl,-,-⟩:=hOX.own.row.len
       obtain⟨nt,Hnt⟩:∃ n,Hid (L.length=n):=⟨_,Lib.hid rfl⟩
       rw [Hnt.out] at hOX ⊢
       have HD17:=Lib.hid (HD16.out.below hb17)
       have HX17:=Lib.hid hOX
       have HE17:=Lib.hid hE17
       have hnt:nt≤4194304:=by rw [←Hnt.out];exact list_short9 HSt9.out hLT
       have hs17:=hb17.size
       have hE19:Hid (∀ b,E17 b→wK.heap.size≤b∧¬D1' b∧¬D2' b):=Lib.hid fun b hb=>by
        have h9:=(hE17 b hb).1
        exact⟨by omega,fun h=>by have:=HD16.out.lt1 h;omega,fun h=>by have:=HD16.out.lt2 h;omega⟩
       clear hOX hE17 hb17 HLs hLT HD16
       go_wp2_with fail
       go_loopg [179] nt (fun k9 u179 wx=>∃ m:Nat,m+k9=nt∧u179=.int .i64 (m:Int)∧Hid (Spoilt E17 (.slice ta nt tc) w17 wx))
       case atStart=>exact⟨0,by omega,rfl,Lib.hid (Spoilt.refl _ _ _)⟩
       case round=>
        obtain⟨m,hmk,rfl,HSt⟩:=hrel
        cases gk with
        | zero=>
         obtain rfl:nt=m:=by omega
         go_wp2_with fail
         go_roundg k
         case measure=>omega
         case rel=>exact⟨i+1,D1',D2',by omega,by go_num,Lib.hid (by rw [←HST.out];exact HD17.out.spoil HSt.out.only hE19.out)⟩
        | succ k2=>
         have hmt:m<nt:=by omega
         obtain⟨y,hy⟩:∃ y,L[m]? = some y:=⟨L[m]'(by rw [Hnt.out];exact hmt),List.getElem?_eq_getElem _⟩
         obtain⟨gt,y1,y2,y3,hta,hL,hEy,hcy⟩:=obj_told HX17.out HSt.out hy
         subst hta
         obtain⟨z1,j1,x1,rfl⟩:∃ a n c,y1=.slice a n c:=by rcases hL.labels with rfl | ⟨g,n,c,cs,rfl,-⟩<;>exact⟨_,_,_,rfl⟩
         obtain⟨z2,j2,x2,rfl⟩:∃ a n c,y2=.slice a n c:=by rcases hL.owners with rfl | ⟨g,n,c,cs,rfl,-⟩<;>exact⟨_,_,_,rfl⟩
         obtain⟨z3,j3,x3,rfl⟩:∃ a n c,y3=.slice a n c:=by rcases hL.holds with rfl | ⟨g,n,c,cs,rfl,-⟩<;>exact⟨_,_,_,rfl⟩
         have f0:=hcy 0 _ rfl
         have f1:=hcy 1 _ rfl
         have f2:=hcy 2 _ rfl
         have f3:=hcy 3 _ rfl
         have f4:=hcy 4 _ rfl
         have f5:=hcy 5 _ rfl
         have f6:=hcy 6 _ rfl
         have f7:=hcy 7 _ rfl
         have f8:=hcy 8 _ rfl
         have f9:=hcy 9 _ rfl
         rw [Nat.add_zero] at f0
         have q1:(0:Int)≤(m:Int):=by omega
         have q2:(m:Int)<(nt:Int):=by omega
         have HL9:=Lib.hid hL
         have HEy:=Lib.hid hEy
         obtain⟨wy,hwy⟩:∃ x,x=wr:=⟨wr,rfl⟩
         have h7:=Lib.hid (heap_alloc_new wr (.cells noA 30))
         have h4:=Lib.hid ((Below.refl wr.heap.size wr).alloc (Nat.le_refl _) (.cells noA 30))
         have htl:=Lib.hid (told_lt HX17.out)
         clear hcy hL hEy hy hwy
         go_wp2_with (refine wpList_store_box (by rfl) _ _ _ (by rfl) wr.heap.size #[.string y.okey.kind,.string y.okey.space,.string y.okey.name,.slice z1 j1 x1,.slice z2 j2 x2,.slice z3 j3 x3,.bool y.ending,.string y.uid,.int .i64 y.rev,.string y.doc] (by rfl) (by rfl) _ _ (by exact h7.out) (by exact Tryz.sizeObj) (by rfl) (by simp [Value.oneCell']) ?_)
         intro w18 bY tY
         have hb18:Below wr.heap.size wr w18:=tY.below h4.out (Nat.le_refl _)
         obtain⟨gY,hgY⟩:∃ g,wr.heap.size=g:=⟨_,rfl⟩
         rw [hgY] at bY ⊢
         have XY18:=Lib.hid bY
         have HSt18:=Lib.hid (HSt.out.below htl.out hb18)
         have HL18:=Lib.hid (HL9.out.shape (Shape.of hb18))
         clear bY tY hb18 h7 h4 hgY HSt HL9 f0 f1 f2 f3 f4 f5 f6 f7 f8 f9
         have HSy:=Lib.hid (spoilObj_any y (.slice z1 j1 x1) (.slice z2 j2 x2) (.slice z3 j3 x3) w18 HL18.out)
         rw [show objW y (.slice z1 j1 x1) (.slice z2 j2 x2) (.slice z3 j3 x3)=.agg #[.string y.okey.kind,.string y.okey.space,.string y.okey.name,.slice z1 j1 x1,.slice z2 j2 x2,.slice z3 j3 x3,.bool y.ending,.string y.uid,.int .i64 y.rev,.string y.doc] from rfl] at HSy
         have cY:=fun i=>cell_block XY18.out i
         go_wp2_with fail
         refine HSy.out.mono ?_
         rintro _ w19 ⟨rfl,ho19,hsh19⟩
         have HSt19:=Lib.hid (HSt18.out.more htl.out ho19 hsh19 HEy.out)
         clear ho19 hsh19 HSy cY XY18 HL18 HEy HSt18
         go_wp2_with fail
         go_roundg k2
         case measure=>omega
         case rel=>exact⟨m+1,by omega,by go_num,HSt19⟩
    | succ k=>
     obtain⟨q,cur,hq1,hq2⟩:∃ q cur,aq=some ⟨q,0,none⟩∧LoQ w6.heap.size wL.heap.size wr q cur nv i:=HL.out.elim (fun h9=>by omega) fun h9=>h9
     subst hq1
     have hin:i<nv:=by omega
     obtain⟨u,hu,hlu,hub⟩:=hq2.at9 i (Nat.le_refl _) hin
     have HQ:=Lib.hid hq2
     have f2:=(cell_block HQ.out.blk (i*3+2)).trans hu
     have HSp:=Lib.hid (spoil_of hlu)
     have HLu:=Lib.hid hlu
     have HUb:=Lib.hid hub
     have q1:(0:Int)≤(i:Int):=by omega
     have q2:(i:Int)<(nv:Int):=by omega
     have hq2s:=hq2.size
     clear hu hlu hub hq2 HL
     go_wp2_with fail
     refine HSp.out.mono ?_
     rintro E wy ⟨rfl,ho,hs⟩
     have HQ1:=Lib.hid (HQ.out.spoil HLu.out ho hs)
     have HO1:Hid (Only (fun b=>w6.heap.size≤b∧b<wL.heap.size) wb wy):=Lib.hid (HOn.out.trans ho fun b hb _=>HUb.out b hb)
     have XIy:=Lib.hid ((HO1.out.block gi (by omega) fun h9=>by omega).trans XIb.out)
     have hlq:=HQ.out.low
     have hz1:i*3+3≤cur.size:=by omega
     clear ho hs HSp HQ HLu HUb f2 cv9 XIx HOn
     have cv9:=fun i=>cell_block XIy.out i
     go_wp2_with (refine wpList_store_part (by rfl) _ _ _ (by rfl) q (i*3) #[.string {data:=#[]},.int .i64 0,.slice none 0 0] (by rfl) (by rfl) _ _ (by exact HQ1.out.blk) (by kernel_rfl) (by exact hz1) (by simp [Value.oneCell']) ?_)
     intro wz bz tz
     have HQ2:=Lib.hid (HQ1.out.put hin rfl tz bz)
     have HO2:Hid (Only (fun b=>w6.heap.size≤b∧b<wL.heap.size) wb wz):=Lib.hid (HO1.out.trans (Only.touch (D:=fun b=>b=q) tz rfl) fun b hb _=>by subst hb;exact hlq)
     clear bz tz HQ1 HO1 XIy cv9
     go_wp2_with fail
     go_roundg k
     case measure=>omega
     case rel=>exact⟨i+1,by omega,by go_num,Lib.hid (.inr ⟨q,_,rfl,HQ2.out⟩),HO2⟩
  | succ k=>
   have hil:i<nv:=by omega
   obtain⟨r,hr⟩:∃ r,vw.reqs[i]? = some r:=⟨vw.reqs[i]'(by rw [Hnv.out];exact hil),List.getElem?_eq_getElem _⟩
   obtain⟨b,oo,c',hva,-,-,hbs,hcell⟩:=HVr.out.form (by rw [Hnv.out];omega) (by omega)
   injection hva with e1 e2 e3
   subst e1
   clear e2 e3
   obtain⟨ds,-,hcc,v2,rfl,-,hst2⟩:=hcell i r hr
   obtain⟨a2,c2,rfl,-,-⟩:=hst2.row.len
   have f2:=(HBw.out.cell (p:=⟨b,_,none⟩) hbs).trans (hcc 2 _ rfl)
   have q1:(0:Int)≤(i:Int):=by omega
   have q2:(i:Int)<(nv:Int):=by omega
   have hrz:=HOk.out.reqs.2 r (List.mem_of_getElem? hr)
   have HT:=Lib.hid (fun (w':World) (h9:Below wr.heap.size wr w')=>texts_any (.slice a2 r.vals.length c2) r.vals w' (hst2.below (HBw.out.trans (h9.mono HBw.out.size))) hrz.2.1)
   obtain⟨q,cur,hq1,hq2⟩:∃ q cur,aq=some ⟨q,0,none⟩∧InQ w6.heap.size wr q cur vw.reqs i:=HI.out.elim (fun h9=>by rw [h9] at hr;cases hr) fun h9=>h9
   subst hq1
   have HQ:=Lib.hid hq2
   have Hr:=Lib.hid hr
   clear hq2 hcc hcell hr hst2 HI
   go_upto_region 12 with fail
   refine wp_region_relB 10 (fun jj U w'=>match jj with
    | 0=>U 0=.pointer (some ⟨gi,2,none⟩)
    | 1=>U 1=.slice (some ⟨q,0,none⟩) nv cq
    | 2=>U 2=.int .i64 (i:Int)
    | 3=>U 3=.pointer (some ⟨gv,2,none⟩)
    | 4=>U 4=.slice (some ⟨b,oo,none⟩) nv cv
    | 5=>U 5=.int .i64 (i:Int)
    | 6=>U 6=.pointer (some ⟨b,oo+i*3,none⟩)
    | 7=>U 7=.pointer (some ⟨b,oo+i*3+2,none⟩)
    | 8=>U 8=.slice a2 r.vals.length c2
    | 9=>TexA wr.heap.size w' (U 9) r.vals r.vals.length
    | _=>True)
    (fun | 1=>[0] | 4=>[3] | 6=>[4,5] | 7=>[6] | 8=>[7] | 9=>[8] | _=>[]) (by kernel_rfl) (by kernel_rfl) (fun jj U wa wb hb h=>?_) ⟨?_,?_,?_,?_,?_,?_,?_,?_,?_,?_,trivial⟩ ?_
   ·match jj,h with
    | 0,h=>exact h
    | 1,h=>exact h
    | 2,h=>exact h
    | 3,h=>exact h
    | 4,h=>exact h
    | 5,h=>exact h
    | 6,h=>exact h
    | 7,h=>exact h
    | 8,h=>exact h
    | 9,h=>exact h.below hb
    | _+10,_=>trivial
   ·intro x w' hb hd
    refine owes_here (.pointer (some ⟨gi,2,none⟩)) (by rfl) ?_ rfl
    clear hd
    simp only [putAll,List.take_succ_cons,List.take_zero]
    go_simp
   ·intro x w' hb hd
    have h0:x 0=.pointer (some ⟨gi,2,none⟩):=hd 0 (by simp)
    have hb2:Below wr.heap.size wr w':=((Below.refl wr.heap.size wr).drew).trans hb
    have cc:=fun i=>cell_block (below_block hb2 XI.out) i
    refine owes_here (.slice (some ⟨q,0,none⟩) nv cq) (by rfl) ?_ rfl
    clear hd
    simp only [putAll,List.take_succ_cons,List.take_zero]
    go_simp
   ·intro x w' hb hd
    refine owes_here (.int .i64 (i:Int)) (by rfl) ?_ rfl
    clear hd
    simp only [putAll,List.take_succ_cons,List.take_zero]
    go_simp
   ·intro x w' hb hd
    refine owes_here (.pointer (some ⟨gv,2,none⟩)) (by rfl) ?_ rfl
    clear hd
    simp only [putAll,List.take_succ_cons,List.take_zero]
    go_simp
   ·intro x w' hb hd
    have h3:x 3=.pointer (some ⟨gv,2,none⟩):=hd 3 (by simp)
    have hb2:Below wr.heap.size wr w':=((Below.refl wr.heap.size wr).drew).trans hb
    have cc:=fun i=>cell_block (below_block hb2 BVr.out) i
    refine owes_here (.slice (some ⟨b,oo,none⟩) nv cv) (by rfl) ?_ rfl
    clear hd
    simp only [putAll,List.take_succ_cons,List.take_zero]
    go_simp
   ·intro x w' hb hd
    refine owes_here (.int .i64 (i:Int)) (by rfl) ?_ rfl
    clear hd
    simp only [putAll,List.take_succ_cons,List.take_zero]
    go_simp
   ·intro x w' hb hd
    have h4:x 4=.slice (some ⟨b,oo,none⟩) nv cv:=hd 4 (by simp)
    have h5:x 5=.int .i64 (i:Int):=hd 5 (by simp)
    refine owes_here (.pointer (some ⟨b,oo+i*3,none⟩)) (by rfl) ?_ rfl
    clear hd
    simp only [putAll,List.take_succ_cons,List.take_zero]
    go_simp
   ·intro x w' hb hd
    have h6:x 6=.pointer (some ⟨b,oo+i*3,none⟩):=hd 6 (by simp)
    refine owes_here (.pointer (some ⟨b,oo+i*3+2,none⟩)) (by rfl) ?_ rfl
    clear hd
    simp only [putAll,List.take_succ_cons,List.take_zero]
    go_simp
   ·intro x w' hb hd
    have h7:x 7=.pointer (some ⟨b,oo+i*3+2,none⟩):=hd 7 (by simp)
    have hb2:Below wr.heap.size wr w':=((Below.refl wr.heap.size wr).drew).trans hb
    have g2:=(hb2.cell (p:=⟨b,oo+i*3+2,none⟩) (by have:=HBw.out.size;show b<_;omega)).trans f2
    refine owes_here (.slice a2 r.vals.length c2) (by rfl) ?_ rfl
    clear hd
    simp only [putAll,List.take_succ_cons,List.take_zero]
    go_simp
   ·intro x w' hb hd
    have h8:x 8=.slice a2 r.vals.length c2:=hd 8 (by simp)
    have hb2:Below wr.heap.size wr w':=((Below.refl wr.heap.size wr).drew).trans hb
    refine owes_call 42 #[.slice a2 r.vals.length c2] (by rfl) ?_ ((HT.out w' hb2).mono ?_)
    ·clear hd
     simp only [putAll,List.take_succ_cons,List.take_zero]
     go_simp
    ·rintro _ w2 ⟨g,rfl,hg,hc,hb3⟩
     refine⟨_,rfl,?_,hb3⟩
     show TexA wr.heap.size w2 (.slice (some ⟨g,0,none⟩) r.vals.length (r.vals.length+2)) r.vals r.vals.length
     exact⟨g,rfl,Nat.le_trans hb2.size hg,rfl,hc⟩
   ·intro x w9 hb hd9
    have hb9:Below wr.heap.size wr w9:=((Below.refl wr.heap.size wr).drew).trans hb
    have g1:x 1=.slice (some ⟨q,0,none⟩) nv cq:=hd9 1 (by omega)
    have g2:x 2=.int .i64 (i:Int):=hd9 2 (by omega)
    have g9:TexA wr.heap.size w9 (x 9) r.vals r.vals.length:=hd9 9 (by omega)
    obtain⟨u9,hu9⟩:∃ u,x 9=u:=⟨_,rfl⟩
    rw [hu9] at g9
    obtain⟨gu,e9,hgu,-,hcu⟩:=id g9
    subst e9
    have HQ9:=Lib.hid (HQ.out.below hb9)
    have hq9:=lt_of_some HQ.out.blk
    have hqs:i*3+2<cur.size:=by have:=HQ.out.size;rw [Hnv.out] at this;omega
    obtain⟨w10,hw10⟩:∃ w10,w9.setCell ⟨q,i*3+2,none⟩ (.slice (some ⟨gu,0,none⟩) r.vals.length (r.vals.length+2))=w10:=⟨_,rfl⟩
    have t10:=touch_setCell (i:=i*3+2) (v:=.slice (some ⟨gu,0,none⟩) r.vals.length (r.vals.length+2)) HQ9.out.blk
    rw [hw10] at t10
    have hg6:w6.heap.size≤gu:=by omega
    have HQ10:=Lib.hid (HQ9.out.set Hr.out (n:=r.vals.length) ⟨gu,rfl,hg6,rfl,hcu⟩ t10.2 t10.1)
    have HB10:Hid (Below w6.heap.size w8 w10):=Lib.hid (t10.2.below (HBr.out.trans (hb9.mono (by omega))) HQ.out.low)
    have cc:w9.cell? ⟨q,i*3+2,none⟩=some (cur[i*3+2]'hqs):=(cell_block HQ9.out.blk _).trans (Array.getElem?_eq_getElem hqs)
    have fc:=free_block HQ9.out.blk (i*3+2)
    clear hd9 g9 hcu t10 HQ HQ9 hb hb9
    simp only [putAll,List.take_succ_cons,List.take_zero,List.drop_succ_cons,List.drop_zero]
    go_wp2_with fail
    try rw [hw10]
    clear hw10 cc fc
    go_roundg k
    case measure=>omega
    case rel=>exact⟨i+1,by omega,by go_num,Lib.hid (.inr ⟨q,_,rfl,HQ10.out⟩),HB10⟩
end Sto
end Go.Proofs.YtnnceaapodgfbaaGreatDoor
