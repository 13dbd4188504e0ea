/- Texts of ours joined. -/
import Derived.Maps.RangeWalk
import Derived.Test.YtnnceaapodgfbaaGreatDoorAz8
set_option linter.unusedVariables false
set_option linter.unusedSimpArgs false
namespace Go.Proofs.YtnnceaapodgfbaaGreatDoor
namespace Sto
open Go.RowKit
def ReqX (D:Dom) (w:World):Rd GReq:=fun _ cs x=>∃ v2,cs = [.string x.key,.int .i64 x.kind,v2]∧OwnX StrF 1 D w 9 v2 x.vals∧(Lit.int .i64 x.kind).wf=true
theorem famReq : Fam ReqX :=
  ⟨fun _ _ _ _ _ _ h => h, fun _ _ _ cs x ⟨v2, h1, h2, _⟩ u hu => by
    rw [h1] at hu
    simp only [List.mem_cons, List.not_mem_nil, or_false] at hu
    rcases hu with rfl | rfl | rfl
    · rfl
    · rfl
    · exact own_one h2.own,
   fun _ _ _ _ _ _ ha ⟨v2, h1, h2, h3⟩ => ⟨v2, h1, h2.agree famStr ha, h3⟩, fun _ _ _ _ _ _ hd ⟨v2, h1, h2, h3⟩ => ⟨v2, h1, h2.mono famStr hd, h3⟩⟩
theorem reqs_row {D:Dom} {w:World} {v:Value} {l:List GReq} (h:OwnX ReqX 3 D w 97 v l):RowAt ReqR 3 w v l:=
 (show OwnAt ReqR 3 w 0 97 v l from h.1.imp' fun _ _ _ ⟨v2,e,hi,hk⟩=>⟨v2,e,hk,hi.own.row.strs⟩).row
structure WatchAt (w:World) (gw hm:Nat) (vr:Value) (R:Dom) (v:GView) (at9:Int) (H:GKey→Bool) (n:Nat):Prop where
 box:w.heap[gw]? = some (.cells #[.string v.kind,.string v.space,vr,.int .i64 at9,.map (some hm)] 153 (0,0))
 map:∃ m f,m≤n∧MapK keyC w hm m f∧∀ k,(f k).isSome=H k
 row:OwnX ReqX 3 R w 97 vr v.reqs
 low:∀ b,R b→b<w.heap.size∧b≠gw∧b≠hm
structure OkView (v:GView):Prop where
 kind:v.kind.size≤1048576
 space:v.space.size≤1048576
 reqs:v.reqs.length≤1048576∧∀ r∈v.reqs,okReq r
section
variable {w w' : World} {gw hm n : Nat} {vr : Value} {R D : Dom} {v : GView} {at9 : Int} {H : GKey → Bool}
theorem WatchAt.ne (h:WatchAt w gw hm vr R v at9 H n):hm≠gw:=let ⟨_,_,_,h1,_⟩:=h.map;MapK.ne h1 h.box
theorem WatchAt.lts (h:WatchAt w gw hm vr R v at9 H n):gw<w.heap.size∧hm<w.heap.size:=⟨lt_of_some h.box,let ⟨_,_,_,h1,_⟩:=h.map;MapK.lt h1⟩
theorem WatchAt.agreeX (h:WatchAt w gw hm vr R v at9 H n) (hs:w.heap.size≤w'.heap.size) (ha:∀ b,b=gw∨b=hm∨R b→w'.heap[b]? = w.heap[b]?):WatchAt w' gw hm vr R v at9 H n:=
 ⟨(ha gw (.inl rfl)).trans h.box,let ⟨m,f,h0,h1,h2⟩:=h.map;⟨m,f,h0,h1.block (ha hm (.inr (.inl rfl))),h2⟩,h.row.agree famReq fun b hb=>ha b (.inr (.inr hb)),fun b hb=>⟨Nat.lt_of_lt_of_le (h.low b hb).1 hs,(h.low b hb).2⟩⟩
theorem WatchAt.belowX (h:WatchAt w gw hm vr R v at9 H n) (hb:Below w.heap.size w w'):WatchAt w' gw hm vr R v at9 H n:=h.agreeX hb.size fun b h9=>by
 rcases h9 with rfl | rfl | h9
 ·exact hb.block _ h.lts.1
 ·exact hb.block _ h.lts.2
 ·exact hb.block _ (h.low b h9).1
end
theorem Only.thenT {D:Dom} {w w' w'':World} {g:Nat} (h:Only D w w') (t:Touch g w' w'') (hg:w.heap.size≤g):Only D w w'':=
 ⟨t.os.trans h.os,t.tape.trans h.tape,t.output.trans h.output,Nat.le_trans h.size (Nat.le_of_eq t.size.symm),fun k hk hn=>(t.other k (by omega)).trans (h.block k hk hn)⟩
theorem bne_eq_dec (a b:Int):(a != b)=decide (a≠b):=by
 rw [Bool.eq_iff_iff,bne_iff_ne,decide_eq_true_iff]
theorem Tryz.zeroIntW (w:World):(zeroValue 3).run Tryz.prog w=.ok (.int .i64 0) w:=by kernel_rfl
theorem Tryz.sizeKeyW:(Tryz.prog.info? 24).map (·.size)=some 3:=by kernel_rfl
set_option maxRecDepth 100000 in
set_option maxHeartbeats 12800000 in
theorem sees_any {w:World} {gw hm n:Nat} {vr:Value} {R:Dom} {v:GView} {at9:Int} {H:GKey→Bool} (h:WatchAt w gw hm vr R v at9 H n) (hv:OkView v) (hn:n≤1073741824) (e:GEvent) (v1 v2 v3:Value) (hl:RowAt LabelR 2 w v1 e.object.labels) (ho:StrAt w v2 e.object.owners) (hh:StrAt w v3 e.object.holds) (hok:OkObj e.object) (hm9:∃ m,MaxOK m w) :
  Calls Tryz.prog 81 #[.pointer (some ⟨gw,0,none⟩),.agg (#[.int .i64 e.kind,.int .i64 e.rev]++(objCs e.object v1 v2 v3).toArray)] w fun x w'=>x=.returned (.tuple #[.agg (#[.int .i64 ((seenK v H e).getD e.kind),.int .i64 e.rev]++(objCs e.object v1 v2 v3).toArray),.bool (seenK v H e).isSome])∧WatchAt w' gw hm vr R v at9 (seenH v H e) (n+1)∧Only (fun b=>b=hm) w w':=by
 obtain⟨ar,cr,rfl,-,-⟩:=h.row.own.row.len
 obtain⟨a1,c1,rfl,-,-⟩:=hl.len
 obtain⟨a2,c2,rfl,-,-⟩:=ho.row.len
 obtain⟨a3,c3,rfl,-,-⟩:=hh.row.len
 obtain⟨nr,Hnr⟩:∃ n,Hid (v.reqs.length=n):=⟨_,Lib.hid rfl⟩
 obtain⟨n1,Hn1⟩:∃ n,Hid (e.object.labels.length=n):=⟨_,Lib.hid rfl⟩
 obtain⟨n2,Hn2⟩:∃ n,Hid (e.object.owners.length=n):=⟨_,Lib.hid rfl⟩
 obtain⟨n3,Hn3⟩:∃ n,Hid (e.object.holds.length=n):=⟨_,Lib.hid rfl⟩
 rw [Hnr.out] at h ⊢
 rw [Hn1.out] at hl ⊢
 rw [Hn2.out] at ho ⊢
 rw [Hn3.out] at hh ⊢
 have HW:=Lib.hid h
 have HN:=Lib.hid hn
 clear hn
 have hKey:Hid (okKey e.object.okey):=Lib.hid ⟨Nat.le_trans hok.kind (by decide),Nat.le_trans hok.space (by decide),Nat.le_trans hok.name (by decide)⟩
 obtain⟨nm,f,hmn,m1,m2⟩:=h.map
 have HMN:=Lib.hid hmn
 have M2:=Lib.hid m2
 obtain⟨W,hW⟩:∃ W,W=(w.alloc (.cells #[.int .i64 e.kind,.int .i64 e.rev,.string e.object.okey.kind,.string e.object.okey.space,.string e.object.okey.name,.slice a1 n1 c1,.slice a2 n2 c2,.slice a3 n3 c3,.bool e.object.ending,.string e.object.uid,.int .i64 e.object.rev,.string e.object.doc] 56)).alloc (.cells #[.int .i64 0,.int .i64 0,.string {data:=#[]},.string {data:=#[]},.string {data:=#[]},.slice none 0 0,.slice none 0 0,.slice none 0 0,.bool false,.string {data:=#[]},.int .i64 0,.string {data:=#[]}] 56):=⟨_,rfl⟩
 obtain⟨ge,hge⟩:∃ g,g=w.heap.size:=⟨_,rfl⟩
 obtain⟨gr,hgr⟩:∃ g,g=w.heap.size+1:=⟨_,rfl⟩
 have BE:=Lib.hid (show W.heap[ge]? = some (.cells #[.int .i64 e.kind,.int .i64 e.rev,.string e.object.okey.kind,.string e.object.okey.space,.string e.object.okey.name,.slice a1 n1 c1,.slice a2 n2 c2,.slice a3 n3 c3,.bool e.object.ending,.string e.object.uid,.int .i64 e.object.rev,.string e.object.doc] 56 (0,0)) by rw [hW,hge];exact heap_alloc_old (heap_alloc_new w _))
 have BR:=Lib.hid (show W.heap[gr]? = some (.cells #[.int .i64 0,.int .i64 0,.string {data:=#[]},.string {data:=#[]},.string {data:=#[]},.slice none 0 0,.slice none 0 0,.slice none 0 0,.bool false,.string {data:=#[]},.int .i64 0,.string {data:=#[]}] 56 (0,0)) by rw [hW,hgr];exact heap_alloc_at (World.size_alloc _ _).symm)
 have hb1:Below w.heap.size w W:=by rw [hW];exact ((Below.refl _ w).alloc (Nat.le_refl _) _).alloc (by rw [World.size_alloc];omega) _
 have hs1:W.heap.size=w.heap.size+2:=by rw [hW,World.size_alloc,World.size_alloc]
 have HB1:=Lib.hid hb1
 have hwe:w.heap.size≤ge:=by omega
 have hwr:w.heap.size≤gr:=by omega
 have her:ge≠gr:=by omega
 have hWs:gr<W.heap.size:=by omega
 have hWe:ge<W.heap.size:=by omega
 have hgw:=h.lts.1
 have hhm:=h.lts.2
 have hShow:Hid (∀ w',Below w.heap.size w w'→Calls Tryz.prog 79 #[.agg #[.string v.kind,.string v.space,.slice ar nr cr],.agg #[.string e.object.okey.kind,.string e.object.okey.space,.string e.object.okey.name,.slice a1 n1 c1,.slice a2 n2 c2,.slice a3 n3 c3,.bool e.object.ending,.string e.object.uid,.int .i64 e.object.rev,.string e.object.doc]] w' fun x w''=>x=.returned (.bool (showsV v e.object))∧Below w'.heap.size w' w''):=Lib.hid fun w' hb=>by
  have hrow:=(reqs_row h.row).below stays_req hb
  exact shows_any v (.slice ar nr cr) e.object (.slice a1 n1 c1) (.slice a2 n2 c2) (.slice a3 n3 c3) w' hrow hv.reqs.1 hv.reqs.2 (hl.below stays_label hb) (ho.below hb) (hh.below hb) hok (by obtain⟨m,hm⟩:=hm9;exact⟨m,hm.below hb⟩)
 have hgx:Hid (∀ w',Below w.heap.size w w'→w'.heap[gw]? = some (.cells #[.string v.kind,.string v.space,.slice ar nr cr,.int .i64 at9,.map (some hm)] 153 (0,0))∧MapK keyC w' hm nm f):=Lib.hid fun w' hb=>⟨(hb.block gw hgw).trans h.box,m1.belowW hb⟩
 rw [show (.agg (#[Value.int .i64 e.kind,.int .i64 e.rev]++(objCs e.object (.slice a1 n1 c1) (.slice a2 n2 c2) (.slice a3 n3 c3)).toArray):Value)=.agg #[.int .i64 e.kind,.int .i64 e.rev,.string e.object.okey.kind,.string e.object.okey.space,.string e.object.okey.name,.slice a1 n1 c1,.slice a2 n2 c2,.slice a3 n3 c3,.bool e.object.ending,.string e.object.uid,.int .i64 e.object.rev,.string e.object.doc] from rfl]
 obtain⟨k9,Hk9⟩:∃ k,Hid ((seenK v H e).getD e.kind=k):=⟨_,Lib.hid rfl⟩
 obtain⟨b9,Hb9⟩:∃ b,Hid ((seenK v H e).isSome=b):=⟨_,Lib.hid rfl⟩
 rw [Hk9.out,Hb9.out]
 rw [show (.agg (#[Value.int .i64 k9,.int .i64 e.rev]++(objCs e.object (.slice a1 n1 c1) (.slice a2 n2 c2) (.slice a3 n3 c3)).toArray):Value)=.agg #[.int .i64 k9,.int .i64 e.rev,.string e.object.okey.kind,.string e.object.okey.space,.string e.object.okey.name,.slice a1 n1 c1,.slice a2 n2 c2,.slice a3 n3 c3,.bool e.object.ending,.string e.object.uid,.int .i64 e.object.rev,.string e.object.doc] from rfl]
 obtain⟨had,hhad⟩:∃ b,H e.object.okey=b:=⟨_,rfl⟩
 obtain⟨sv,hsv⟩:∃ b,showsV v e.object=b:=⟨_,rfl⟩
 rw [hsv] at hShow
 have HK9:Hid (seenK v H e=if (decide (e.kind≠3) && sv)=true then some (if had=true then 2 else 1) else if had=true then some 3 else none):=Lib.hid (by unfold seenK nowHas;rw [hhad,hsv])
 have HNow:Hid (nowHas v e=(decide (e.kind≠3) && sv)):=Lib.hid (by unfold nowHas;rw [hsv])
 have Hhad:=Lib.hid hhad
 clear h hv hl ho hh hok hm9 m1 m2 hmn hb1 hsv hhad
 go_enter Tryz.func81,Tryz.ntmps81
 go_upto_region 1 with fail
 have hex:((w.alloc (.cells #[.int .i64 e.kind,.int .i64 e.rev,.string e.object.okey.kind,.string e.object.okey.space,.string e.object.okey.name,.slice a1 n1 c1,.slice a2 n2 c2,.slice a3 n3 c3,.bool e.object.ending,.string e.object.uid,.int .i64 e.object.rev,.string e.object.doc] 56)).alloc (.cells #[.int .i64 0,.int .i64 0,.string {data:=#[]},.string {data:=#[]},.string {data:=#[]},.slice none 0 0,.slice none 0 0,.slice none 0 0,.bool false,.string {data:=#[]},.int .i64 0,.string {data:=#[]}] 56))=W:=hW.symm
 rw [hex]
 try rw [←hgr]
 rw [←hge]
 clear hW hex hge hgr hs1
 have ce:=fun i=>cell_block BE.out i
 have h7:=Lib.hid (heap_alloc_new W (.cells #[.string {data:=#[]},.string {data:=#[]},.string {data:=#[]}] 24))
 have h4:=Lib.hid ((Below.refl W.heap.size W).alloc (Nat.le_refl _) (.cells #[.string {data:=#[]},.string {data:=#[]},.string {data:=#[]}] 24))
 have h9:Hid ((W.alloc (.cells #[.string {data:=#[]},.string {data:=#[]},.string {data:=#[]}] 24)).heap.size=W.heap.size+1):=Lib.hid (World.size_alloc _ _)
 go_wp2_with (refine wpList_store_box (by rfl) _ _ _ (by rfl) W.heap.size #[.string e.object.okey.kind,.string e.object.okey.space,.string e.object.okey.name] (by rfl) (by rfl) _ _ (by exact h7.out) (by exact Tryz.sizeKeyW) (by rfl) (by simp [Value.oneCell']) ?_)
 intro w2 b2 t2
 obtain⟨gk9,hgk⟩:∃ g,W.heap.size=g:=⟨_,rfl⟩
 have hb2:=t2.below h4.out (Nat.le_refl _)
 have hs2:w2.heap.size=W.heap.size+1:=t2.size.trans h9.out
 rw [hgk] at b2 hs2 hWs hWe ⊢
 have BK:=Lib.hid b2
 have BE2:=Lib.hid (below_block hb2 BE.out)
 have BR2:=Lib.hid (below_block hb2 BR.out)
 have HB2:=Lib.hid (HB1.out.trans (hb2.mono HB1.out.size))
 have hkl:gk9<w2.heap.size:=by omega
 clear b2 t2 hb2 h7 h4 h9 BE BR HB1 ce hgk hs2
 have hlk:∀ q,(Instr.lookup 151 (.map (some hm)) (.agg #[.string e.object.okey.kind,.string e.object.okey.space,.string e.object.okey.name]) true).run Tryz.prog (w2.drewN q)=.ok (.tuple #[(f e.object.okey).getD (.int .i64 0),.bool had]) (w2.drewN q):=fun q=>by
  have hbq:Below w.heap.size w (w2.drewN q):=drewB HB2.out q
  have h9:=(MapK.look (hgx.out _ hbq).2 Tryz.underlying151 (Tryz.zeroIntW (w2.drewN q)) e.object.okey hKey.out).1
  rw [M2.out,Hhad.out] at h9
  exact h9
 obtain⟨u7,Hu7⟩:∃ u,Hid ((f e.object.okey).getD (.int .i64 0)=u):=⟨_,Lib.hid rfl⟩
 rw [Hu7.out] at hlk
 have cw:=fun i=>cell_block (hgx.out _ HB2.out).1 i
 have ck:=fun i=>cell_block BK.out i
 go_upto_region 2 with fail
 go_quiet (fail)
 have BK3:=Lib.hid (show (w2.drewN nq).heap[gk9]? = some (.cells #[.string e.object.okey.kind,.string e.object.okey.space,.string e.object.okey.name] 24 (0,0)) from BK.out)
 have BE3:=Lib.hid (show (w2.drewN nq).heap[ge]? = some (.cells #[.int .i64 e.kind,.int .i64 e.rev,.string e.object.okey.kind,.string e.object.okey.space,.string e.object.okey.name,.slice a1 n1 c1,.slice a2 n2 c2,.slice a3 n3 c3,.bool e.object.ending,.string e.object.uid,.int .i64 e.object.rev,.string e.object.doc] 56 (0,0)) from BE2.out)
 have BR3:=Lib.hid (show (w2.drewN nq).heap[gr]? = some (.cells #[.int .i64 0,.int .i64 0,.string {data:=#[]},.string {data:=#[]},.string {data:=#[]},.slice none 0 0,.slice none 0 0,.slice none 0 0,.bool false,.string {data:=#[]},.int .i64 0,.string {data:=#[]}] 56 (0,0)) from BR2.out)
 have HB3:=Lib.hid (drewB HB2.out nq)
 clear BK BE2 BR2 HB2 hlk cw ck hkl
 generalize w2.drewN nq=w3 at BK3 BE3 BR3 HB3 ⊢
 clear hWs hWe
 have hge3:=lt_of_some BE3.out
 have hgk3:=lt_of_some BK3.out
 have hgr3:=lt_of_some BR3.out
 have hgw3:gw<w3.heap.size:=Nat.lt_of_lt_of_le hgw HB3.out.size
 have hhm3:hm<w3.heap.size:=Nat.lt_of_lt_of_le hhm HB3.out.size
 obtain⟨has,Hhas⟩:∃ b,Hid (nowHas v e=b):=⟨_,Lib.hid rfl⟩
 have H3:Hid (∀ P:Prop,(∀ w4,Below w3.heap.size w3 w4→P)→(P→P)):=Lib.hid fun _ _ h=>h
 clear H3
 go_upto_region 3 with fail
 cases k3:(e.kind != 3) with
 | false=>
  have hhas:has=false:=by rw [←Hhas.out,HNow.out,show decide (e.kind≠3)=false from by rw [←k3];exact (bne_eq_dec e.kind 3).symm];rfl
  subst hhas
  refine wp_region_hold 12 (fun w'=>Below w3.heap.size w3 w') (by kernel_rfl) (by kernel_rfl) ?_ ?_
  ·exact (Below.refl _ w3).drew
  simp only [List.take_succ_cons,List.take_zero,List.drop_succ_cons,List.drop_zero]
  (first | (refine wpHold_pure (v:=?_) (by rfl) (fun w=>?_) ?_;rotate_left;focus (first | (go_simp;done) | (go_simp;with_reducible rfl))) | (refine wpHold_skip ?_ ?_;focus (go_simp;done)) | (refine wpHold_pure' (v:=?_) ?_ (fun w=>?_) ?_;rotate_left;focus (go_simp;done);focus (first | (go_simp;done) | (go_simp;with_reducible rfl))));try simp only [Act.put,List.setIfInBounds_toArray,List.set_cons_zero,List.set_cons_succ]
  refine wpHold_read (v:=.int .i64 e.kind) (by rfl) (fun w' hI=>?_) ?_
  ·have dd:=(hI.cell (p:=⟨ge,0,none⟩) hge3).trans (cell_block BE3.out 0)
   go_simp
   done
  try simp only [Act.put,List.setIfInBounds_toArray,List.set_cons_zero,List.set_cons_succ]
  refine wpHold_pure' (v:=?_) ?_ (fun w=>?_) ?_
  rotate_left
  focus (go_simp;done)
  focus (first | (go_simp;done) | (go_simp;with_reducible rfl))
  try simp only [Act.put,List.setIfInBounds_toArray,List.set_cons_zero,List.set_cons_succ]
  refine wpHold_pure' (v:=?_) ?_ (fun w=>?_) ?_
  rotate_left
  focus (go_simp;done)
  focus (first | (go_simp;done) | (go_simp;with_reducible rfl))
  try simp only [Act.put,List.setIfInBounds_toArray,List.set_cons_zero,List.set_cons_succ]
  refine wpHold_skip ?_ ?_
  focus (go_simp;done)
  try simp only [Act.put,List.setIfInBounds_toArray,List.set_cons_zero,List.set_cons_succ]
  refine wpHold_skip ?_ ?_
  focus (go_simp;done)
  try simp only [Act.put,List.setIfInBounds_toArray,List.set_cons_zero,List.set_cons_succ]
  refine wpHold_skip ?_ ?_
  focus (go_simp;done)
  try simp only [Act.put,List.setIfInBounds_toArray,List.set_cons_zero,List.set_cons_succ]
  refine wpHold_skip ?_ ?_
  focus (go_simp;done)
  try simp only [Act.put,List.setIfInBounds_toArray,List.set_cons_zero,List.set_cons_succ]
  refine wpHold_skip ?_ ?_
  focus (go_simp;done)
  try simp only [Act.put,List.setIfInBounds_toArray,List.set_cons_zero,List.set_cons_succ]
  refine wpHold_skip ?_ ?_
  focus (go_simp;done)
  try simp only [Act.put,List.setIfInBounds_toArray,List.set_cons_zero,List.set_cons_succ]
  refine wpHold_skip ?_ ?_
  focus (go_simp;done)
  try simp only [Act.put,List.setIfInBounds_toArray,List.set_cons_zero,List.set_cons_succ]
  refine wpHold_pure' (v:=?_) ?_ (fun w=>?_) ?_
  rotate_left
  focus (go_simp;done)
  focus (first | (go_simp;done) | (go_simp;with_reducible rfl))
  try simp only [Act.put,List.setIfInBounds_toArray,List.set_cons_zero,List.set_cons_succ]
  refine wpHold_nil ?_
  intro w4 hI4
  have BK4:=Lib.hid (below_block hI4 BK3.out)
  have BE4:=Lib.hid (below_block hI4 BE3.out)
  have BR4:=Lib.hid (below_block hI4 BR3.out)
  have HB4:=Lib.hid (HB3.out.trans (hI4.mono HB3.out.size))
  have hge4:=lt_of_some BE4.out
  have hgk4:=lt_of_some BK4.out
  clear hI4 BK3 BE3 BR3 HB3 HNow k3
  clear hShow
  cases had with
  | true=>
   go_upto_region 10 with fail
   refine wp_region_hold 5 (fun w'=>Below w4.heap.size w4 w') (by kernel_rfl) (by kernel_rfl) ?_ ?_
   ·exact (Below.refl _ w4).drew
   simp only [List.take_succ_cons,List.take_zero,List.drop_succ_cons,List.drop_zero]
   (first | (refine wpHold_pure (v:=?_) (by rfl) (fun w=>?_) ?_;rotate_left;focus (first | (go_simp;done) | (go_simp;with_reducible rfl))) | (refine wpHold_skip ?_ ?_;focus (go_simp;done)) | (refine wpHold_pure' (v:=?_) ?_ (fun w=>?_) ?_;rotate_left;focus (go_simp;done);focus (first | (go_simp;done) | (go_simp;with_reducible rfl))));try simp only [Act.put,List.setIfInBounds_toArray,List.set_cons_zero,List.set_cons_succ]
   (first | (refine wpHold_pure (v:=?_) (by rfl) (fun w=>?_) ?_;rotate_left;focus (first | (go_simp;done) | (go_simp;with_reducible rfl))) | (refine wpHold_skip ?_ ?_;focus (go_simp;done)) | (refine wpHold_pure' (v:=?_) ?_ (fun w=>?_) ?_;rotate_left;focus (go_simp;done);focus (first | (go_simp;done) | (go_simp;with_reducible rfl))));try simp only [Act.put,List.setIfInBounds_toArray,List.set_cons_zero,List.set_cons_succ]
   (first | (refine wpHold_pure (v:=?_) (by rfl) (fun w=>?_) ?_;rotate_left;focus (first | (go_simp;done) | (go_simp;with_reducible rfl))) | (refine wpHold_skip ?_ ?_;focus (go_simp;done)) | (refine wpHold_pure' (v:=?_) ?_ (fun w=>?_) ?_;rotate_left;focus (go_simp;done);focus (first | (go_simp;done) | (go_simp;with_reducible rfl))));try simp only [Act.put,List.setIfInBounds_toArray,List.set_cons_zero,List.set_cons_succ]
   refine wpHold_read (v:=.map (some hm)) (by rfl) (fun w' hI=>?_) ?_
   ·have hbx:=(hgx.out w' (HB4.out.trans (hI.mono HB4.out.size))).1
    have d4:=cell_block hbx 4
    go_simp
    done
   try simp only [Act.put,List.setIfInBounds_toArray,List.set_cons_zero,List.set_cons_succ]
   refine wpHold_read (v:=.agg #[.string e.object.okey.kind,.string e.object.okey.space,.string e.object.okey.name]) (by rfl) (fun w' hI=>?_) ?_
   ·have d0:=(hI.cell (p:=⟨gk9,0,none⟩) hgk4).trans (cell_block BK4.out 0)
    have d1:=(hI.cell (p:=⟨gk9,1,none⟩) hgk4).trans (cell_block BK4.out 1)
    have d2:=(hI.cell (p:=⟨gk9,2,none⟩) hgk4).trans (cell_block BK4.out 2)
    go_simp
    done
   try simp only [Act.put,List.setIfInBounds_toArray,List.set_cons_zero,List.set_cons_succ]
   refine wpHold_nil ?_
   intro w5 hI5
   have BK5:=Lib.hid (below_block hI5 BK4.out)
   have BE5:=Lib.hid (below_block hI5 BE4.out)
   have BR5:=Lib.hid (below_block hI5 BR4.out)
   have HB5:=Lib.hid (HB4.out.trans (hI5.mono HB4.out.size))
   have hge5:=lt_of_some BE5.out
   have hgr5:=lt_of_some BR5.out
   clear hI5 BK4 BE4 BR4 HB4
   obtain⟨w6,hrun,hm6,ht6⟩:=MapK.drop (hgx.out w5 HB5.out).2 Tryz.underlying151 e.object.okey hKey.out 0
   rw [show keyC.val e.object.okey=.agg #[.string e.object.okey.kind,.string e.object.okey.space,.string e.object.okey.name] from rfl] at hrun
   go_upto_region 11 with fail
   have O6:Only (fun b=>b=hm) w5 w6:=Only.turned ht6 rfl
   have BE6:=Lib.hid ((O6.block ge hge5 (by omega)).trans BE5.out)
   have BR6:=Lib.hid ((O6.block gr hgr5 (by omega)).trans BR5.out)
   have OW6:=Lib.hid (Only.after HB5.out O6)
   have M6:=Lib.hid hm6
   clear O6 hrun hm6 ht6 BK5 BE5 BR5 HB5
   have fb:=fun i=>free_block BE6.out i
   have cb:=fun i=>cell_block BE6.out i
   obtain⟨w7,hw7⟩:∃ w9,w6.setCell ⟨ge,0,none⟩ (.int .i64 3)=w9:=⟨_,rfl⟩
   have t1:=touch_setCell (i:=0) (v:=.int .i64 3) BE6.out
   rw [hw7] at t1
   have BE7:Hid (w7.heap[ge]? = some (.cells #[.int .i64 3,.int .i64 e.rev,.string e.object.okey.kind,.string e.object.okey.space,.string e.object.okey.name,.slice a1 n1 c1,.slice a2 n2 c2,.slice a3 n3 c3,.bool e.object.ending,.string e.object.uid,.int .i64 e.object.rev,.string e.object.doc] 56 (0,0))):=Lib.hid t1.1
   have BR7:=Lib.hid (t1.2.block BR6.out (Ne.symm her))
   have OW7:=Lib.hid (Only.thenT OW6.out t1.2 hwe)
   have M7:=Lib.hid (M6.out.block (t1.2.other hm (by omega)))
   go_upto_region 12 with fail
   try rw [hw7]
   clear t1 hw7 fb cb BE6 BR6 OW6 M6
   have hk9:k9=3:=by rw [←Hk9.out];unfold seenK;rw [Hhas.out,Hhad.out];rfl
   have hb9:b9=true:=by rw [←Hb9.out];unfold seenK;rw [Hhas.out,Hhad.out];rfl
   clear Hk9 Hb9
   subst hk9 hb9
   have ce:=fun i=>cell_block BE7.out i
   go_wp2_with (refine wpList_store_box (by rfl) _ _ _ (by rfl) gr #[.int .i64 3,.int .i64 e.rev,.string e.object.okey.kind,.string e.object.okey.space,.string e.object.okey.name,.slice a1 n1 c1,.slice a2 n2 c2,.slice a3 n3 c3,.bool e.object.ending,.string e.object.uid,.int .i64 e.object.rev,.string e.object.doc] (by rfl) (by rfl) _ _ (by exact BR7.out) (by exact Tryz.sizeEv) (by rfl) (by simp [Value.oneCell']) ?_)
   intro WF bF tF
   have OWF:Hid (Only (fun b=>b=hm) w WF):=Lib.hid (Only.thenT OW7.out tF hwr)
   go_wp2_with fail
   refine bodyPost_ret (v:=.tuple #[.agg #[.int .i64 3,.int .i64 e.rev,.string e.object.okey.kind,.string e.object.okey.space,.string e.object.okey.name,.slice a1 n1 c1,.slice a2 n2 c2,.slice a3 n3 c3,.bool e.object.ending,.string e.object.uid,.int .i64 e.object.rev,.string e.object.doc],.bool true]) ?_ rfl ?_
   ·exact results_two_box Tryz.results81 _ _ gr _ _ _ _ (by rfl) bF Tryz.underlying56 rfl (by exact Tryz.sizeEv)
   ·refine⟨rfl,⟨(OWF.out.block _ hgw (Ne.symm HW.out.ne)).trans HW.out.box,?_,HW.out.row.agree famReq fun b hb=>OWF.out.block b (HW.out.low b hb).1 (HW.out.low b hb).2.2,fun b hb=>⟨Nat.lt_of_lt_of_le (HW.out.low b hb).1 OWF.out.size,(HW.out.low b hb).2⟩⟩,OWF.out⟩
    refine⟨nm,_,Nat.le_succ_of_le HMN.out,M7.out.block (tF.other hm (by omega)),fun k=>?_⟩
    unfold delK seenH
    split
    next=>exact Hhas.out.symm
    next=>exact M2.out k
  | false=>
   have hk9:k9=e.kind:=by rw [←Hk9.out];unfold seenK;rw [Hhas.out,Hhad.out];rfl
   have hb9:b9=false:=by rw [←Hb9.out];unfold seenK;rw [Hhas.out,Hhad.out];rfl
   clear Hk9 Hb9
   subst hk9 hb9
   have ce:=fun i=>cell_block BE4.out i
   go_wp2_with (refine wpList_store_box (by rfl) _ _ _ (by rfl) gr #[.int .i64 e.kind,.int .i64 e.rev,.string e.object.okey.kind,.string e.object.okey.space,.string e.object.okey.name,.slice a1 n1 c1,.slice a2 n2 c2,.slice a3 n3 c3,.bool e.object.ending,.string e.object.uid,.int .i64 e.object.rev,.string e.object.doc] (by rfl) (by rfl) _ _ (by exact BR4.out) (by exact Tryz.sizeEv) (by rfl) (by simp [Value.oneCell']) ?_)
   intro WF bF tF
   have OWF:Hid (Only (fun b=>b=hm) w WF):=Lib.hid (Only.thenT (Only.of HB4.out) tF hwr)
   go_wp2_with fail
   refine bodyPost_ret (v:=.tuple #[.agg #[.int .i64 e.kind,.int .i64 e.rev,.string e.object.okey.kind,.string e.object.okey.space,.string e.object.okey.name,.slice a1 n1 c1,.slice a2 n2 c2,.slice a3 n3 c3,.bool e.object.ending,.string e.object.uid,.int .i64 e.object.rev,.string e.object.doc],.bool false]) ?_ rfl ?_
   ·exact results_two_box Tryz.results81 _ _ gr _ _ _ _ (by rfl) bF Tryz.underlying56 rfl (by exact Tryz.sizeEv)
   ·refine⟨rfl,⟨(OWF.out.block _ hgw (Ne.symm HW.out.ne)).trans HW.out.box,?_,HW.out.row.agree famReq fun b hb=>OWF.out.block b (HW.out.low b hb).1 (HW.out.low b hb).2.2,fun b hb=>⟨Nat.lt_of_lt_of_le (HW.out.low b hb).1 OWF.out.size,(HW.out.low b hb).2⟩⟩,OWF.out⟩
    refine⟨nm,f,Nat.le_succ_of_le HMN.out,(hgx.out w4 HB4.out).2.block (tF.other hm (by omega)),fun k=>?_⟩
    unfold seenH
    split
    next h=>rw [h,M2.out,Hhad.out,Hhas.out]
    next=>exact M2.out k
 | true=>
  have hhas:sv=has:=by rw [←Hhas.out,HNow.out,show decide (e.kind≠3)=true from by rw [←k3];exact (bne_eq_dec e.kind 3).symm];rfl
  subst hhas
  refine wp_region_hold 12 (fun w'=>Below w3.heap.size w3 w') (by kernel_rfl) (by kernel_rfl) ?_ ?_
  ·exact (Below.refl _ w3).drew
  simp only [List.take_succ_cons,List.take_zero,List.drop_succ_cons,List.drop_zero]
  (first | (refine wpHold_pure (v:=?_) (by rfl) (fun w=>?_) ?_;rotate_left;focus (first | (go_simp;done) | (go_simp;with_reducible rfl))) | (refine wpHold_skip ?_ ?_;focus (go_simp;done)) | (refine wpHold_pure' (v:=?_) ?_ (fun w=>?_) ?_;rotate_left;focus (go_simp;done);focus (first | (go_simp;done) | (go_simp;with_reducible rfl))));try simp only [Act.put,List.setIfInBounds_toArray,List.set_cons_zero,List.set_cons_succ]
  refine wpHold_read (v:=.int .i64 e.kind) (by rfl) (fun w' hI=>?_) ?_
  ·have dd:=(hI.cell (p:=⟨ge,0,none⟩) hge3).trans (cell_block BE3.out 0)
   go_simp
   done
  try simp only [Act.put,List.setIfInBounds_toArray,List.set_cons_zero,List.set_cons_succ]
  refine wpHold_pure' (v:=?_) ?_ (fun w=>?_) ?_
  rotate_left
  focus (go_simp;done)
  focus (first | (go_simp;done) | (go_simp;with_reducible rfl))
  try simp only [Act.put,List.setIfInBounds_toArray,List.set_cons_zero,List.set_cons_succ]
  refine wpHold_pure' (v:=?_) ?_ (fun w=>?_) ?_
  rotate_left
  focus (go_simp;done)
  focus (first | (go_simp;done) | (go_simp;with_reducible rfl))
  try simp only [Act.put,List.setIfInBounds_toArray,List.set_cons_zero,List.set_cons_succ]
  refine wpHold_pure' (v:=?_) ?_ (fun w=>?_) ?_
  rotate_left
  focus (go_simp;done)
  focus (first | (go_simp;done) | (go_simp;with_reducible rfl))
  try simp only [Act.put,List.setIfInBounds_toArray,List.set_cons_zero,List.set_cons_succ]
  refine wpHold_pure' (v:=?_) ?_ (fun w=>?_) ?_
  rotate_left
  focus (go_simp;done)
  focus (first | (go_simp;done) | (go_simp;with_reducible rfl))
  try simp only [Act.put,List.setIfInBounds_toArray,List.set_cons_zero,List.set_cons_succ]
  refine wpHold_pure' (v:=?_) ?_ (fun w=>?_) ?_
  rotate_left
  focus (go_simp;done)
  focus (first | (go_simp;done) | (go_simp;with_reducible rfl))
  try simp only [Act.put,List.setIfInBounds_toArray,List.set_cons_zero,List.set_cons_succ]
  refine wpHold_read' (v:=.agg #[.string v.kind,.string v.space,.slice ar nr cr]) (by focus (go_simp;done)) (fun w' hI=>?_) ?_
  ·have hbx:=(hgx.out w' (HB3.out.trans (hI.mono HB3.out.size))).1
   have d0:=cell_block hbx 0
   have d1:=cell_block hbx 1
   have d2:=cell_block hbx 2
   go_simp
   done
  try simp only [Act.put,List.setIfInBounds_toArray,List.set_cons_zero,List.set_cons_succ]
  refine wpHold_pure' (v:=?_) ?_ (fun w=>?_) ?_
  rotate_left
  focus (go_simp;done)
  focus (first | (go_simp;done) | (go_simp;with_reducible rfl))
  try simp only [Act.put,List.setIfInBounds_toArray,List.set_cons_zero,List.set_cons_succ]
  refine wpHold_read' (v:=.agg #[.string e.object.okey.kind,.string e.object.okey.space,.string e.object.okey.name,.slice a1 n1 c1,.slice a2 n2 c2,.slice a3 n3 c3,.bool e.object.ending,.string e.object.uid,.int .i64 e.object.rev,.string e.object.doc]) (by focus (go_simp;done)) (fun w' hI=>?_) ?_
  ·have d0:=(hI.cell (p:=⟨ge,2,none⟩) hge3).trans (cell_block BE3.out 2)
   have d1:=(hI.cell (p:=⟨ge,3,none⟩) hge3).trans (cell_block BE3.out 3)
   have d2:=(hI.cell (p:=⟨ge,4,none⟩) hge3).trans (cell_block BE3.out 4)
   have d3:=(hI.cell (p:=⟨ge,5,none⟩) hge3).trans (cell_block BE3.out 5)
   have d4:=(hI.cell (p:=⟨ge,6,none⟩) hge3).trans (cell_block BE3.out 6)
   have d5:=(hI.cell (p:=⟨ge,7,none⟩) hge3).trans (cell_block BE3.out 7)
   have d6:=(hI.cell (p:=⟨ge,8,none⟩) hge3).trans (cell_block BE3.out 8)
   have d7:=(hI.cell (p:=⟨ge,9,none⟩) hge3).trans (cell_block BE3.out 9)
   have d8:=(hI.cell (p:=⟨ge,10,none⟩) hge3).trans (cell_block BE3.out 10)
   have d9:=(hI.cell (p:=⟨ge,11,none⟩) hge3).trans (cell_block BE3.out 11)
   go_simp
   done
  try simp only [Act.put,List.setIfInBounds_toArray,List.set_cons_zero,List.set_cons_succ]
  refine wpHold_call' (v:=.bool sv) (f:=79) (args:=#[.agg #[.string v.kind,.string v.space,.slice ar nr cr],.agg #[.string e.object.okey.kind,.string e.object.okey.space,.string e.object.okey.name,.slice a1 n1 c1,.slice a2 n2 c2,.slice a3 n3 c3,.bool e.object.ending,.string e.object.uid,.int .i64 e.object.rev,.string e.object.doc]]) (by focus (go_simp;done)) (fun w'=>?_) (fun w' hI=>?_) ?_
  ·go_simp
   done
  ·exact (hShow.out w' (HB3.out.trans (hI.mono HB3.out.size))).mono fun x w'' ⟨h1,h2⟩=>⟨h1,hI.trans (h2.mono hI.size)⟩
  try simp only [Act.put,List.setIfInBounds_toArray,List.set_cons_zero,List.set_cons_succ]
  refine wpHold_pure' (v:=?_) ?_ (fun w=>?_) ?_
  rotate_left
  focus (go_simp;done)
  focus (first | (go_simp;done) | (go_simp;with_reducible rfl))
  try simp only [Act.put,List.setIfInBounds_toArray,List.set_cons_zero,List.set_cons_succ]
  refine wpHold_nil ?_
  intro w4 hI4
  have BK4:=Lib.hid (below_block hI4 BK3.out)
  have BE4:=Lib.hid (below_block hI4 BE3.out)
  have BR4:=Lib.hid (below_block hI4 BR3.out)
  have HB4:=Lib.hid (HB3.out.trans (hI4.mono HB3.out.size))
  have hge4:=lt_of_some BE4.out
  have hgk4:=lt_of_some BK4.out
  clear hI4 BK3 BE3 BR3 HB3 HNow k3
  clear hShow
  cases sv with
  | true=>
   go_upto_region 5 with fail
   refine wp_region_hold 7 (fun w'=>Below w4.heap.size w4 w') (by kernel_rfl) (by kernel_rfl) ?_ ?_
   ·exact (Below.refl _ w4).drew
   simp only [List.take_succ_cons,List.take_zero,List.drop_succ_cons,List.drop_zero]
   (first | (refine wpHold_pure (v:=?_) (by rfl) (fun w=>?_) ?_;rotate_left;focus (first | (go_simp;done) | (go_simp;with_reducible rfl))) | (refine wpHold_skip ?_ ?_;focus (go_simp;done)) | (refine wpHold_pure' (v:=?_) ?_ (fun w=>?_) ?_;rotate_left;focus (go_simp;done);focus (first | (go_simp;done) | (go_simp;with_reducible rfl))));try simp only [Act.put,List.setIfInBounds_toArray,List.set_cons_zero,List.set_cons_succ]
   (first | (refine wpHold_pure (v:=?_) (by rfl) (fun w=>?_) ?_;rotate_left;focus (first | (go_simp;done) | (go_simp;with_reducible rfl))) | (refine wpHold_skip ?_ ?_;focus (go_simp;done)) | (refine wpHold_pure' (v:=?_) ?_ (fun w=>?_) ?_;rotate_left;focus (go_simp;done);focus (first | (go_simp;done) | (go_simp;with_reducible rfl))));try simp only [Act.put,List.setIfInBounds_toArray,List.set_cons_zero,List.set_cons_succ]
   (first | (refine wpHold_pure (v:=?_) (by rfl) (fun w=>?_) ?_;rotate_left;focus (first | (go_simp;done) | (go_simp;with_reducible rfl))) | (refine wpHold_skip ?_ ?_;focus (go_simp;done)) | (refine wpHold_pure' (v:=?_) ?_ (fun w=>?_) ?_;rotate_left;focus (go_simp;done);focus (first | (go_simp;done) | (go_simp;with_reducible rfl))));try simp only [Act.put,List.setIfInBounds_toArray,List.set_cons_zero,List.set_cons_succ]
   refine wpHold_read (v:=.map (some hm)) (by rfl) (fun w' hI=>?_) ?_
   ·have hbx:=(hgx.out w' (HB4.out.trans (hI.mono HB4.out.size))).1
    have d4:=cell_block hbx 4
    go_simp
    done
   try simp only [Act.put,List.setIfInBounds_toArray,List.set_cons_zero,List.set_cons_succ]
   refine wpHold_read (v:=.agg #[.string e.object.okey.kind,.string e.object.okey.space,.string e.object.okey.name]) (by rfl) (fun w' hI=>?_) ?_
   ·have d0:=(hI.cell (p:=⟨gk9,0,none⟩) hgk4).trans (cell_block BK4.out 0)
    have d1:=(hI.cell (p:=⟨gk9,1,none⟩) hgk4).trans (cell_block BK4.out 1)
    have d2:=(hI.cell (p:=⟨gk9,2,none⟩) hgk4).trans (cell_block BK4.out 2)
    go_simp
    done
   try simp only [Act.put,List.setIfInBounds_toArray,List.set_cons_zero,List.set_cons_succ]
   (first | (refine wpHold_pure (v:=?_) (by rfl) (fun w=>?_) ?_;rotate_left;focus (first | (go_simp;done) | (go_simp;with_reducible rfl))) | (refine wpHold_skip ?_ ?_;focus (go_simp;done)) | (refine wpHold_pure' (v:=?_) ?_ (fun w=>?_) ?_;rotate_left;focus (go_simp;done);focus (first | (go_simp;done) | (go_simp;with_reducible rfl))));try simp only [Act.put,List.setIfInBounds_toArray,List.set_cons_zero,List.set_cons_succ]
   refine wpHold_read (v:=.int .i64 e.rev) (by rfl) (fun w' hI=>?_) ?_
   ·have dd:=(hI.cell (p:=⟨ge,1,none⟩) hge4).trans (cell_block BE4.out 1)
    go_simp
    done
   try simp only [Act.put,List.setIfInBounds_toArray,List.set_cons_zero,List.set_cons_succ]
   refine wpHold_nil ?_
   intro w5 hI5
   have BK5:=Lib.hid (below_block hI5 BK4.out)
   have BE5:=Lib.hid (below_block hI5 BE4.out)
   have BR5:=Lib.hid (below_block hI5 BR4.out)
   have HB5:=Lib.hid (HB4.out.trans (hI5.mono HB4.out.size))
   have hge5:=lt_of_some BE5.out
   have hgr5:=lt_of_some BR5.out
   clear hI5 BK4 BE4 BR4 HB4
   obtain⟨w6,hrun,hm6,ht6⟩:=MapK.store (hgx.out w5 HB5.out).2 Tryz.underlying151 (Nat.lt_of_le_of_lt (Nat.le_trans HMN.out HN.out) (by decide)) e.object.okey hKey.out (.int .i64 e.rev)
   rw [show keyC.val e.object.okey=.agg #[.string e.object.okey.kind,.string e.object.okey.space,.string e.object.okey.name] from rfl] at hrun
   go_upto_region 6 with fail
   have O6:Only (fun b=>b=hm) w5 w6:=Only.turned ht6 rfl
   have BE6:=Lib.hid ((O6.block ge hge5 (by omega)).trans BE5.out)
   have BR6:=Lib.hid ((O6.block gr hgr5 (by omega)).trans BR5.out)
   have OW6:=Lib.hid (Only.after HB5.out O6)
   have M6:=Lib.hid hm6
   clear O6 hrun hm6 ht6 BK5 BE5 BR5 HB5
   cases had with
   | true=>
    have fb:=fun i=>free_block BE6.out i
    have cb:=fun i=>cell_block BE6.out i
    obtain⟨w7,hw7⟩:∃ w9,w6.setCell ⟨ge,0,none⟩ (.int .i64 1)=w9:=⟨_,rfl⟩
    have t1:=touch_setCell (i:=0) (v:=.int .i64 1) BE6.out
    rw [hw7] at t1
    have BE7:Hid (w7.heap[ge]? = some (.cells #[.int .i64 1,.int .i64 e.rev,.string e.object.okey.kind,.string e.object.okey.space,.string e.object.okey.name,.slice a1 n1 c1,.slice a2 n2 c2,.slice a3 n3 c3,.bool e.object.ending,.string e.object.uid,.int .i64 e.object.rev,.string e.object.doc] 56 (0,0))):=Lib.hid t1.1
    have BR7:=Lib.hid (t1.2.block BR6.out (Ne.symm her))
    have OW7:=Lib.hid (Only.thenT OW6.out t1.2 hwe)
    have M7:=Lib.hid (M6.out.block (t1.2.other hm (by omega)))
    go_upto_region 8 with fail
    try rw [hw7]
    clear t1 hw7 fb cb BE6 BR6 OW6 M6
    have fb:=fun i=>free_block BE7.out i
    have cb:=fun i=>cell_block BE7.out i
    obtain⟨w8,hw8⟩:∃ w9,w7.setCell ⟨ge,0,none⟩ (.int .i64 2)=w9:=⟨_,rfl⟩
    have t1:=touch_setCell (i:=0) (v:=.int .i64 2) BE7.out
    rw [hw8] at t1
    have BE8:Hid (w8.heap[ge]? = some (.cells #[.int .i64 2,.int .i64 e.rev,.string e.object.okey.kind,.string e.object.okey.space,.string e.object.okey.name,.slice a1 n1 c1,.slice a2 n2 c2,.slice a3 n3 c3,.bool e.object.ending,.string e.object.uid,.int .i64 e.object.rev,.string e.object.doc] 56 (0,0))):=Lib.hid t1.1
    have BR8:=Lib.hid (t1.2.block BR7.out (Ne.symm her))
    have OW8:=Lib.hid (Only.thenT OW7.out t1.2 hwe)
    have M8:=Lib.hid (M7.out.block (t1.2.other hm (by omega)))
    go_upto_region 12 with fail
    try rw [hw8]
    clear t1 hw8 fb cb BE7 BR7 OW7 M7
    have hk9:k9=2:=by rw [←Hk9.out];unfold seenK;rw [Hhas.out,Hhad.out];rfl
    have hb9:b9=true:=by rw [←Hb9.out];unfold seenK;rw [Hhas.out,Hhad.out];rfl
    clear Hk9 Hb9
    subst hk9 hb9
    have ce:=fun i=>cell_block BE8.out i
    go_wp2_with (refine wpList_store_box (by rfl) _ _ _ (by rfl) gr #[.int .i64 2,.int .i64 e.rev,.string e.object.okey.kind,.string e.object.okey.space,.string e.object.okey.name,.slice a1 n1 c1,.slice a2 n2 c2,.slice a3 n3 c3,.bool e.object.ending,.string e.object.uid,.int .i64 e.object.rev,.string e.object.doc] (by rfl) (by rfl) _ _ (by exact BR8.out) (by exact Tryz.sizeEv) (by rfl) (by simp [Value.oneCell']) ?_)
    intro WF bF tF
    have OWF:Hid (Only (fun b=>b=hm) w WF):=Lib.hid (Only.thenT OW8.out tF hwr)
    go_wp2_with fail
    refine bodyPost_ret (v:=.tuple #[.agg #[.int .i64 2,.int .i64 e.rev,.string e.object.okey.kind,.string e.object.okey.space,.string e.object.okey.name,.slice a1 n1 c1,.slice a2 n2 c2,.slice a3 n3 c3,.bool e.object.ending,.string e.object.uid,.int .i64 e.object.rev,.string e.object.doc],.bool true]) ?_ rfl ?_
    ·exact results_two_box Tryz.results81 _ _ gr _ _ _ _ (by rfl) bF Tryz.underlying56 rfl (by exact Tryz.sizeEv)
    ·refine⟨rfl,⟨(OWF.out.block _ hgw (Ne.symm HW.out.ne)).trans HW.out.box,?_,HW.out.row.agree famReq fun b hb=>OWF.out.block b (HW.out.low b hb).1 (HW.out.low b hb).2.2,fun b hb=>⟨Nat.lt_of_lt_of_le (HW.out.low b hb).1 OWF.out.size,(HW.out.low b hb).2⟩⟩,OWF.out⟩
     refine⟨nm+1,_,Nat.succ_le_succ HMN.out,M8.out.block (tF.other hm (by omega)),fun k=>?_⟩
     unfold updK seenH
     split
     next=>exact Hhas.out.symm
     next=>exact M2.out k
   | false=>
    have fb:=fun i=>free_block BE6.out i
    have cb:=fun i=>cell_block BE6.out i
    obtain⟨w7,hw7⟩:∃ w9,w6.setCell ⟨ge,0,none⟩ (.int .i64 1)=w9:=⟨_,rfl⟩
    have t1:=touch_setCell (i:=0) (v:=.int .i64 1) BE6.out
    rw [hw7] at t1
    have BE7:Hid (w7.heap[ge]? = some (.cells #[.int .i64 1,.int .i64 e.rev,.string e.object.okey.kind,.string e.object.okey.space,.string e.object.okey.name,.slice a1 n1 c1,.slice a2 n2 c2,.slice a3 n3 c3,.bool e.object.ending,.string e.object.uid,.int .i64 e.object.rev,.string e.object.doc] 56 (0,0))):=Lib.hid t1.1
    have BR7:=Lib.hid (t1.2.block BR6.out (Ne.symm her))
    have OW7:=Lib.hid (Only.thenT OW6.out t1.2 hwe)
    have M7:=Lib.hid (M6.out.block (t1.2.other hm (by omega)))
    go_upto_region 12 with fail
    try rw [hw7]
    clear t1 hw7 fb cb BE6 BR6 OW6 M6
    have hk9:k9=1:=by rw [←Hk9.out];unfold seenK;rw [Hhas.out,Hhad.out];rfl
    have hb9:b9=true:=by rw [←Hb9.out];unfold seenK;rw [Hhas.out,Hhad.out];rfl
    clear Hk9 Hb9
    subst hk9 hb9
    have ce:=fun i=>cell_block BE7.out i
    go_wp2_with (refine wpList_store_box (by rfl) _ _ _ (by rfl) gr #[.int .i64 1,.int .i64 e.rev,.string e.object.okey.kind,.string e.object.okey.space,.string e.object.okey.name,.slice a1 n1 c1,.slice a2 n2 c2,.slice a3 n3 c3,.bool e.object.ending,.string e.object.uid,.int .i64 e.object.rev,.string e.object.doc] (by rfl) (by rfl) _ _ (by exact BR7.out) (by exact Tryz.sizeEv) (by rfl) (by simp [Value.oneCell']) ?_)
    intro WF bF tF
    have OWF:Hid (Only (fun b=>b=hm) w WF):=Lib.hid (Only.thenT OW7.out tF hwr)
    go_wp2_with fail
    refine bodyPost_ret (v:=.tuple #[.agg #[.int .i64 1,.int .i64 e.rev,.string e.object.okey.kind,.string e.object.okey.space,.string e.object.okey.name,.slice a1 n1 c1,.slice a2 n2 c2,.slice a3 n3 c3,.bool e.object.ending,.string e.object.uid,.int .i64 e.object.rev,.string e.object.doc],.bool true]) ?_ rfl ?_
    ·exact results_two_box Tryz.results81 _ _ gr _ _ _ _ (by rfl) bF Tryz.underlying56 rfl (by exact Tryz.sizeEv)
    ·refine⟨rfl,⟨(OWF.out.block _ hgw (Ne.symm HW.out.ne)).trans HW.out.box,?_,HW.out.row.agree famReq fun b hb=>OWF.out.block b (HW.out.low b hb).1 (HW.out.low b hb).2.2,fun b hb=>⟨Nat.lt_of_lt_of_le (HW.out.low b hb).1 OWF.out.size,(HW.out.low b hb).2⟩⟩,OWF.out⟩
     refine⟨nm+1,_,Nat.succ_le_succ HMN.out,M7.out.block (tF.other hm (by omega)),fun k=>?_⟩
     unfold updK seenH
     split
     next=>exact Hhas.out.symm
     next=>exact M2.out k
  | false=>
   cases had with
   | true=>
    go_upto_region 10 with fail
    refine wp_region_hold 5 (fun w'=>Below w4.heap.size w4 w') (by kernel_rfl) (by kernel_rfl) ?_ ?_
    ·exact (Below.refl _ w4).drew
    simp only [List.take_succ_cons,List.take_zero,List.drop_succ_cons,List.drop_zero]
    (first | (refine wpHold_pure (v:=?_) (by rfl) (fun w=>?_) ?_;rotate_left;focus (first | (go_simp;done) | (go_simp;with_reducible rfl))) | (refine wpHold_skip ?_ ?_;focus (go_simp;done)) | (refine wpHold_pure' (v:=?_) ?_ (fun w=>?_) ?_;rotate_left;focus (go_simp;done);focus (first | (go_simp;done) | (go_simp;with_reducible rfl))));try simp only [Act.put,List.setIfInBounds_toArray,List.set_cons_zero,List.set_cons_succ]
    (first | (refine wpHold_pure (v:=?_) (by rfl) (fun w=>?_) ?_;rotate_left;focus (first | (go_simp;done) | (go_simp;with_reducible rfl))) | (refine wpHold_skip ?_ ?_;focus (go_simp;done)) | (refine wpHold_pure' (v:=?_) ?_ (fun w=>?_) ?_;rotate_left;focus (go_simp;done);focus (first | (go_simp;done) | (go_simp;with_reducible rfl))));try simp only [Act.put,List.setIfInBounds_toArray,List.set_cons_zero,List.set_cons_succ]
    (first | (refine wpHold_pure (v:=?_) (by rfl) (fun w=>?_) ?_;rotate_left;focus (first | (go_simp;done) | (go_simp;with_reducible rfl))) | (refine wpHold_skip ?_ ?_;focus (go_simp;done)) | (refine wpHold_pure' (v:=?_) ?_ (fun w=>?_) ?_;rotate_left;focus (go_simp;done);focus (first | (go_simp;done) | (go_simp;with_reducible rfl))));try simp only [Act.put,List.setIfInBounds_toArray,List.set_cons_zero,List.set_cons_succ]
    refine wpHold_read (v:=.map (some hm)) (by rfl) (fun w' hI=>?_) ?_
    ·have hbx:=(hgx.out w' (HB4.out.trans (hI.mono HB4.out.size))).1
     have d4:=cell_block hbx 4
     go_simp
     done
    try simp only [Act.put,List.setIfInBounds_toArray,List.set_cons_zero,List.set_cons_succ]
    refine wpHold_read (v:=.agg #[.string e.object.okey.kind,.string e.object.okey.space,.string e.object.okey.name]) (by rfl) (fun w' hI=>?_) ?_
    ·have d0:=(hI.cell (p:=⟨gk9,0,none⟩) hgk4).trans (cell_block BK4.out 0)
     have d1:=(hI.cell (p:=⟨gk9,1,none⟩) hgk4).trans (cell_block BK4.out 1)
     have d2:=(hI.cell (p:=⟨gk9,2,none⟩) hgk4).trans (cell_block BK4.out 2)
     go_simp
     done
    try simp only [Act.put,List.setIfInBounds_toArray,List.set_cons_zero,List.set_cons_succ]
    refine wpHold_nil ?_
    intro w5 hI5
    have BK5:=Lib.hid (below_block hI5 BK4.out)
    have BE5:=Lib.hid (below_block hI5 BE4.out)
    have BR5:=Lib.hid (below_block hI5 BR4.out)
    have HB5:=Lib.hid (HB4.out.trans (hI5.mono HB4.out.size))
    have hge5:=lt_of_some BE5.out
    have hgr5:=lt_of_some BR5.out
    clear hI5 BK4 BE4 BR4 HB4
    obtain⟨w6,hrun,hm6,ht6⟩:=MapK.drop (hgx.out w5 HB5.out).2 Tryz.underlying151 e.object.okey hKey.out 0
    rw [show keyC.val e.object.okey=.agg #[.string e.object.okey.kind,.string e.object.okey.space,.string e.object.okey.name] from rfl] at hrun
    go_upto_region 11 with fail
    have O6:Only (fun b=>b=hm) w5 w6:=Only.turned ht6 rfl
    have BE6:=Lib.hid ((O6.block ge hge5 (by omega)).trans BE5.out)
    have BR6:=Lib.hid ((O6.block gr hgr5 (by omega)).trans BR5.out)
    have OW6:=Lib.hid (Only.after HB5.out O6)
    have M6:=Lib.hid hm6
    clear O6 hrun hm6 ht6 BK5 BE5 BR5 HB5
    have fb:=fun i=>free_block BE6.out i
    have cb:=fun i=>cell_block BE6.out i
    obtain⟨w7,hw7⟩:∃ w9,w6.setCell ⟨ge,0,none⟩ (.int .i64 3)=w9:=⟨_,rfl⟩
    have t1:=touch_setCell (i:=0) (v:=.int .i64 3) BE6.out
    rw [hw7] at t1
    have BE7:Hid (w7.heap[ge]? = some (.cells #[.int .i64 3,.int .i64 e.rev,.string e.object.okey.kind,.string e.object.okey.space,.string e.object.okey.name,.slice a1 n1 c1,.slice a2 n2 c2,.slice a3 n3 c3,.bool e.object.ending,.string e.object.uid,.int .i64 e.object.rev,.string e.object.doc] 56 (0,0))):=Lib.hid t1.1
    have BR7:=Lib.hid (t1.2.block BR6.out (Ne.symm her))
    have OW7:=Lib.hid (Only.thenT OW6.out t1.2 hwe)
    have M7:=Lib.hid (M6.out.block (t1.2.other hm (by omega)))
    go_upto_region 12 with fail
    try rw [hw7]
    clear t1 hw7 fb cb BE6 BR6 OW6 M6
    have hk9:k9=3:=by rw [←Hk9.out];unfold seenK;rw [Hhas.out,Hhad.out];rfl
    have hb9:b9=true:=by rw [←Hb9.out];unfold seenK;rw [Hhas.out,Hhad.out];rfl
    clear Hk9 Hb9
    subst hk9 hb9
    have ce:=fun i=>cell_block BE7.out i
    go_wp2_with (refine wpList_store_box (by rfl) _ _ _ (by rfl) gr #[.int .i64 3,.int .i64 e.rev,.string e.object.okey.kind,.string e.object.okey.space,.string e.object.okey.name,.slice a1 n1 c1,.slice a2 n2 c2,.slice a3 n3 c3,.bool e.object.ending,.string e.object.uid,.int .i64 e.object.rev,.string e.object.doc] (by rfl) (by rfl) _ _ (by exact BR7.out) (by exact Tryz.sizeEv) (by rfl) (by simp [Value.oneCell']) ?_)
    intro WF bF tF
    have OWF:Hid (Only (fun b=>b=hm) w WF):=Lib.hid (Only.thenT OW7.out tF hwr)
    go_wp2_with fail
    refine bodyPost_ret (v:=.tuple #[.agg #[.int .i64 3,.int .i64 e.rev,.string e.object.okey.kind,.string e.object.okey.space,.string e.object.okey.name,.slice a1 n1 c1,.slice a2 n2 c2,.slice a3 n3 c3,.bool e.object.ending,.string e.object.uid,.int .i64 e.object.rev,.string e.object.doc],.bool true]) ?_ rfl ?_
    ·exact results_two_box Tryz.results81 _ _ gr _ _ _ _ (by rfl) bF Tryz.underlying56 rfl (by exact Tryz.sizeEv)
    ·refine⟨rfl,⟨(OWF.out.block _ hgw (Ne.symm HW.out.ne)).trans HW.out.box,?_,HW.out.row.agree famReq fun b hb=>OWF.out.block b (HW.out.low b hb).1 (HW.out.low b hb).2.2,fun b hb=>⟨Nat.lt_of_lt_of_le (HW.out.low b hb).1 OWF.out.size,(HW.out.low b hb).2⟩⟩,OWF.out⟩
     refine⟨nm,_,Nat.le_succ_of_le HMN.out,M7.out.block (tF.other hm (by omega)),fun k=>?_⟩
     unfold delK seenH
     split
     next=>exact Hhas.out.symm
     next=>exact M2.out k
   | false=>
    have hk9:k9=e.kind:=by rw [←Hk9.out];unfold seenK;rw [Hhas.out,Hhad.out];rfl
    have hb9:b9=false:=by rw [←Hb9.out];unfold seenK;rw [Hhas.out,Hhad.out];rfl
    clear Hk9 Hb9
    subst hk9 hb9
    have ce:=fun i=>cell_block BE4.out i
    go_wp2_with (refine wpList_store_box (by rfl) _ _ _ (by rfl) gr #[.int .i64 e.kind,.int .i64 e.rev,.string e.object.okey.kind,.string e.object.okey.space,.string e.object.okey.name,.slice a1 n1 c1,.slice a2 n2 c2,.slice a3 n3 c3,.bool e.object.ending,.string e.object.uid,.int .i64 e.object.rev,.string e.object.doc] (by rfl) (by rfl) _ _ (by exact BR4.out) (by exact Tryz.sizeEv) (by rfl) (by simp [Value.oneCell']) ?_)
    intro WF bF tF
    have OWF:Hid (Only (fun b=>b=hm) w WF):=Lib.hid (Only.thenT (Only.of HB4.out) tF hwr)
    go_wp2_with fail
    refine bodyPost_ret (v:=.tuple #[.agg #[.int .i64 e.kind,.int .i64 e.rev,.string e.object.okey.kind,.string e.object.okey.space,.string e.object.okey.name,.slice a1 n1 c1,.slice a2 n2 c2,.slice a3 n3 c3,.bool e.object.ending,.string e.object.uid,.int .i64 e.object.rev,.string e.object.doc],.bool false]) ?_ rfl ?_
    ·exact results_two_box Tryz.results81 _ _ gr _ _ _ _ (by rfl) bF Tryz.underlying56 rfl (by exact Tryz.sizeEv)
    ·refine⟨rfl,⟨(OWF.out.block _ hgw (Ne.symm HW.out.ne)).trans HW.out.box,?_,HW.out.row.agree famReq fun b hb=>OWF.out.block b (HW.out.low b hb).1 (HW.out.low b hb).2.2,fun b hb=>⟨Nat.lt_of_lt_of_le (HW.out.low b hb).1 OWF.out.size,(HW.out.low b hb).2⟩⟩,OWF.out⟩
     refine⟨nm,f,Nat.le_succ_of_le HMN.out,(hgx.out w4 HB4.out).2.block (tF.other hm (by omega)),fun k=>?_⟩
     unfold seenH
     split
     next h=>rw [h,M2.out,Hhad.out,Hhas.out]
     next=>exact M2.out k
end Sto
end Go.Proofs.YtnnceaapodgfbaaGreatDoor
namespace Go.Proofs.YtnnceaapodgfbaaGreatDoor
namespace Sto
open Go.RowKit
def intC:KeyCode Tryz.prog 3 Int:=⟨Value.int .i64,Lit.int .i64,fun x=>(Lit.int .i64 x).wf=true,Maps.int_keyed Tryz.underlying3,fun _ h=>Maps.keyOf_int_mk Tryz.underlying3 h,
 fun h=>by obtain⟨x,h1,h2,h3⟩:=Maps.keyOf_int_inv Tryz.underlying3 h;exact⟨x,h3,h1,h2⟩,fun h=>by injection h⟩
theorem Tryz.zeroWatchP (w:World):(zeroValue 150).run Tryz.prog w=.ok (.pointer none) w:=by kernel_rfl
def ptrO (o:Option Nat):Value:=.pointer (o.map fun g=>⟨g,0,none⟩)
structure HubAt (w:World) (gh gs om:Nat) (M:Int→Option Nat) (made:Int) (n:Nat):Prop where
 box:w.heap[gh]? = some (.cells #[.pointer (some ⟨gs,0,none⟩),.map (some om),.int .i64 made] 148 (0,0))
 map:∃ m f,m≤n∧MapK intC w om m f∧∀ k,f k=(M k).map fun g=>.pointer (some ⟨g,0,none⟩)
section
variable {w w' : World} {gh gs om n : Nat} {M : Int → Option Nat} {made : Int}
theorem HubAt.ne (h:HubAt w gh gs om M made n):om≠gh:=let ⟨_,_,_,h1,_⟩:=h.map;MapK.ne h1 h.box
theorem HubAt.lts (h:HubAt w gh gs om M made n):gh<w.heap.size∧om<w.heap.size:=⟨lt_of_some h.box,let ⟨_,_,_,h1,_⟩:=h.map;MapK.lt h1⟩
theorem HubAt.agreeX (h:HubAt w gh gs om M made n) (ha:∀ b,b=gh∨b=om→w'.heap[b]? = w.heap[b]?):HubAt w' gh gs om M made n:=
 ⟨(ha gh (.inl rfl)).trans h.box,let ⟨m,f,h0,h1,h2⟩:=h.map;⟨m,f,h0,h1.block (ha om (.inr rfl)),h2⟩⟩
theorem HubAt.belowX (h:HubAt w gh gs om M made n) (hb:Below w.heap.size w w'):HubAt w' gh gs om M made n:=h.agreeX fun b h9=>by
 rcases h9 with rfl | rfl
 ·exact hb.block _ h.lts.1
 ·exact hb.block _ h.lts.2
theorem HubAt.look (h:HubAt w gh gs om M made n) (id:Int) (hid:(Lit.int .i64 id).wf=true) :
  (Instr.lookup 146 (.map (some om)) (.int .i64 id) false).run Tryz.prog w=.ok (ptrO (M id)) w:=by
 obtain⟨m,f,h0,h1,h2⟩:=h.map
 have h9:=(MapK.look h1 Tryz.underlying146 (Tryz.zeroWatchP w) id hid).2
 rw [h2 id] at h9
 cases hM:M id with
 | none=>rw [hM] at h9;exact h9
 | some g=>rw [hM] at h9;exact h9
end
set_option maxRecDepth 100000 in
theorem hub_any (w:World) (gs:Nat):Calls Tryz.prog 33 #[.pointer (some ⟨gs,0,none⟩)] w fun e w'=>∃ gh om,e=.returned (.pointer (some ⟨gh,0,none⟩))∧HubAt w' gh gs om (fun _=>none) 0 0∧w.heap.size≤gh∧w.heap.size≤om∧Below w.heap.size w w':=by
 have hmm:=@run_makeMap Tryz.prog
 go_enter Tryz.func33,Tryz.ntmps33
 go_wp2_with fail
 go_ret
 have h1:=mapK_made intC w
 have hb1:Below w.heap.size w (w.alloc (.map #[] 0)):=(Below.refl _ _).alloc (Nat.le_refl _) _
 have hs1:(w.alloc (.map #[] 0)).heap.size=w.heap.size+1:=World.size_alloc _ _
 have h2:=heap_alloc_new (w.alloc (.map #[] 0)) (.cells #[.pointer (some ⟨gs,0,none⟩),.map (some w.heap.size),.int .i64 0] 148)
 rw [hs1] at h2
 refine⟨_,w.heap.size,rfl,⟨?_,0,_,Nat.le_refl _,h1.alloc _,fun _=>rfl⟩,Nat.le_succ _,Nat.le_refl _,hb1.alloc (by rw [hs1];omega) _⟩
 exact h2
end Sto
end Go.Proofs.YtnnceaapodgfbaaGreatDoor
namespace Go.Proofs.YtnnceaapodgfbaaGreatDoor
namespace Sto
open Go.RowKit
def takeG (v:GView) (most:Nat):List GEvent→List GEvent→(GKey→Bool)→Int→List GEvent × (GKey→Bool) × Int
 | [],out,H,at9=>(out,H,at9)
 | x :: l,out,H,at9=>if out.length=most then (out,H,at9) else takeG v most l (out++seenE v H x) (seenH v H x) x.rev
def takeN (v:GView) (most:Nat):List GEvent→List GEvent→(GKey→Bool)→Nat
 | [],_,_=>0
 | x :: l,out,H=>if out.length=most then 0 else takeN v most l (out++seenE v H x) (seenH v H x)+1
theorem since_mem {S:St} {r:Int} {x:GEvent} (h:x∈sinceL S r):x∈S.log:=by
 unfold sinceL at h
 split at h
 ·exact List.mem_of_mem_drop h
 ·cases h
theorem since_len (S:St) (r:Int):(sinceL S r).length≤S.log.length:=by
 unfold sinceL
 split
 ·rw [List.length_drop];omega
 ·exact Nat.zero_le _
theorem drop_one9 {α:Type} {l:List α} {i:Nat} {x:α} (h:l[i]? = some x):l.drop i=x :: l.drop (i+1):=by
 obtain⟨h1,h2⟩:=List.getElem?_eq_some_iff.1 h
 rw [List.drop_eq_getElem_cons h1,h2]
theorem WatchAt.moved {w w':World} {gw hm n:Nat} {vr:Value} {R:Dom} {v:GView} {at9 a2:Int} {H:GKey→Bool} (h:WatchAt w gw hm vr R v at9 H n) (t:Touch gw w w') (hb:w'.heap[gw]? = some (.cells #[.string v.kind,.string v.space,vr,.int .i64 a2,.map (some hm)] 153 (0,0))):WatchAt w' gw hm vr R v a2 H n:=
 ⟨hb,let ⟨m,f,h0,h1,h2⟩:=h.map;⟨m,f,h0,h1.block (t.other hm h.ne),h2⟩,h.row.agree famReq fun b hb=>t.other b (h.low b hb).2.1,fun b hb=>⟨by rw [t.size];exact (h.low b hb).1,(h.low b hb).2⟩⟩
theorem WatchAt.more {w:World} {gw hm n n':Nat} {vr:Value} {R:Dom} {v:GView} {at9:Int} {H:GKey→Bool} (h:WatchAt w gw hm vr R v at9 H n) (hn:n≤n'):WatchAt w gw hm vr R v at9 H n':=
 ⟨h.box,let ⟨m,f,h0,h1,h2⟩:=h.map;⟨m,f,Nat.le_trans h0 hn,h1,h2⟩,h.row,h.low⟩
def Took (w:World) (gh gs om gw hm n nw:Nat) (vr:Value) (R:Dom) (v:GView) (made:Int) (M:Int→Option Nat) (id se:Int) (G:List GEvent × (GKey→Bool) × Int) (e:Ending) (w':World):Prop:=
 (se≠0∧e=.returned (.tuple #[.slice none 0 0,.int .i64 se])∧HubAt w' gh gs om (fun k=>if k=id then none else M k) made n∧Only (fun b=>b=om) w w')∨
 (se=0∧∃ E u,e=.returned (.tuple #[u,.int .i64 0])∧OwnX EvX 12 E w' 56 u G.1∧(∀ b,E b→w.heap.size≤b∧b<w'.heap.size)∧WatchAt w' gw hm vr R v G.2.2 G.2.1 nw∧Only (fun b=>b=hm∨b=gw) w w')
set_option maxRecDepth 100000 in
set_option maxHeartbeats 12800000 in
theorem take_any {D:Dom} {w0 w:World} {gh gs om gw hm n nw:Nat} {vr:Value} {R:Dom} {v:GView} {at9 made id:Int} {M:Int→Option Nat} {H:GKey→Bool} {S:St} (hst:StoreAt D w gs S) (hS:OkSt S) (hh:HubAt w gh gs om M made n) (hid:(Lit.int .i64 id).wf=true) (hM:M id=some gw) (hw:WatchAt w gw hm vr R v at9 H nw) (hv:OkView v)
  (hnw:nw+S.log.length≤1073741824) (most:Nat) (h1:1≤most) (h50:most≤50) (hmx:∃ m,MaxOK m w0) (hb0:Below w0.heap.size w0 w) (hg0:w0.heap.size≤gw∧w0.heap.size≤hm) :
  Calls Tryz.prog 37 #[.pointer (some ⟨gh,0,none⟩),.int .i64 id,.int .i64 (most:Int)] w (Took w gh gs om gw hm n (nw+takeN v most (sinceL S at9) [] H) vr R v made M id (sinceE S at9) (takeG v most (sinceL S at9) [] H at9)):=by
 have HW:=Lib.hid hw
 have HH:=Lib.hid hh
 have HA:=Lib.hid hst
 have HS:=Lib.hid hS
 have HV:=Lib.hid hv
 have HMx:=Lib.hid hmx
 have HB0:=Lib.hid hb0
 have hgh:=hh.lts.1
 have hom:=hh.lts.2
 have hgw:=hw.lts.1
 have hhm:=hw.lts.2
 obtain⟨hgw0,hhm0⟩:=hg0
 have hl:=hh.look id hid
 rw [hM] at hl
 have hl2:(Instr.lookup 146 (.map (some om)) (.int .i64 id) false).run Tryz.prog w=.ok (.pointer (some ⟨gw,0,none⟩)) w:=hl
 have cc:=fun i=>cell_block hh.box i
 have cw:=fun i=>cell_block hw.box i
 have hln:=since_len S at9
 have HMem:Hid (∀ x∈sinceL S at9,OkObj x.object):=Lib.hid fun x hx=>hS.obj x (since_mem hx)
 obtain⟨G,HG⟩:∃ G,Hid (takeG v most (sinceL S at9) [] H at9=G):=⟨_,Lib.hid rfl⟩
 obtain⟨N,HN⟩:∃ N,Hid (takeN v most (sinceL S at9) [] H=N):=⟨_,Lib.hid rfl⟩
 rw [HN.out]
 obtain⟨se,Hse⟩:∃ e,Hid (sinceE S at9=e):=⟨_,Lib.hid rfl⟩
 obtain⟨L,HL⟩:∃ L,Hid (sinceL S at9=L):=⟨_,Lib.hid rfl⟩
 rw [HG.out,Hse.out]
 rw [HL.out] at HG HN HMem hln
 obtain⟨m,Hm⟩:∃ m,Hid (L.length=m):=⟨_,Lib.hid rfl⟩
 rw [Hm.out] at hln
 obtain⟨nS,HnS⟩:∃ n,Hid (S.log.length=n):=⟨_,Lib.hid rfl⟩
 rw [HnS.out] at hln hnw
 have q1:decide ((most:Int)<1)=false:=decide_eq_false (by omega)
 have q2:decide ((50:Int)<(most:Int))=false:=decide_eq_false (by omega)
 have HMid:=Lib.hid hM
 have Hid9:=Lib.hid hid
 clear hst hS hh hw hv hmx hb0 hl hM hid
 go_enter Tryz.func37,Tryz.ntmps37
 go_upto_region 6 with fail
 clear cc cw hl2 q1 q2
 refine wp_region_relB 13 (fun ii U w'=>match ii with
  | 0=>U 0=.pointer (some ⟨gh,0,none⟩)
  | 1=>U 1=.pointer (some ⟨gh,0,none⟩)
  | 2=>U 2=.pointer (some ⟨gh,0,none⟩)
  | 3=>U 3=.pointer (some ⟨gs,0,none⟩)
  | 4=>U 4=.pointer (some ⟨gw,0,none⟩)
  | 5=>U 5=.pointer (some ⟨gw,0,none⟩)
  | 6=>U 6=.pointer (some ⟨gw,3,none⟩)
  | 7=>U 7=.int .i64 at9
  | 8=>∃ E v2,U 8=.tuple #[v2,.int .i64 se]∧OwnX EvX 12 E w' 56 v2 L∧∀ b,E b→w.heap.size≤b∧b<w'.heap.size
  | 9=>∃ E v2,U 9=.tuple #[v2,.int .i64 se]∧OwnX EvX 12 E w' 56 v2 L∧∀ b,E b→w.heap.size≤b∧b<w'.heap.size
  | 10=>∃ E,OwnX EvX 12 E w' 56 (U 10) L∧∀ b,E b→w.heap.size≤b∧b<w'.heap.size
  | 11=>U 11=.int .i64 se
  | 12=>∃ E,OwnX EvX 12 E w' 56 (U 12) L∧∀ b,E b→w.heap.size≤b∧b<w'.heap.size
  | _=>True)
  (fun | 1=>[0] | 2=>[1] | 3=>[2] | 5=>[4] | 6=>[5] | 7=>[6] | 8=>[3,7] | 9=>[8] | 10=>[9] | 11=>[9] | 12=>[10] | _=>[]) (by kernel_rfl) (by kernel_rfl) ?_ ⟨?_,?_,?_,?_,?_,?_,?_,?_,?_,?_,?_,?_,?_,trivial⟩ ?_
 ·intro j u w1 w2 hb h
  match j,h with
  | 0,h=>exact h
  | 1,h=>exact h
  | 2,h=>exact h
  | 3,h=>exact h
  | 4,h=>exact h
  | 5,h=>exact h
  | 6,h=>exact h
  | 7,h=>exact h
  | 8,h=>obtain⟨E,v2,e1,e2,e3⟩:=h;exact⟨E,v2,e1,e2.agree famEv fun b hb9=>hb.block b (e3 b hb9).2,fun b hb9=>⟨(e3 b hb9).1,Nat.lt_of_lt_of_le (e3 b hb9).2 hb.size⟩⟩
  | 9,h=>obtain⟨E,v2,e1,e2,e3⟩:=h;exact⟨E,v2,e1,e2.agree famEv fun b hb9=>hb.block b (e3 b hb9).2,fun b hb9=>⟨(e3 b hb9).1,Nat.lt_of_lt_of_le (e3 b hb9).2 hb.size⟩⟩
  | 10,h=>obtain⟨E,e2,e3⟩:=h;exact⟨E,e2.agree famEv fun b hb9=>hb.block b (e3 b hb9).2,fun b hb9=>⟨(e3 b hb9).1,Nat.lt_of_lt_of_le (e3 b hb9).2 hb.size⟩⟩
  | 11,h=>exact h
  | 12,h=>obtain⟨E,e2,e3⟩:=h;exact⟨E,e2.agree famEv fun b hb9=>hb.block b (e3 b hb9).2,fun b hb9=>⟨(e3 b hb9).1,Nat.lt_of_lt_of_le (e3 b hb9).2 hb.size⟩⟩
  | _+13,h=>trivial
 ·intro x w' hb hd
  have hb6:Below w.heap.size w w':=(Below.refl w.heap.size w).drew.trans hb
  refine owes_here (.pointer (some ⟨gh,0,none⟩)) (by rfl) ?_ rfl
  simp only [putAll,List.take_succ_cons,List.take_zero]
  go_simp
 ·intro x w' hb hd
  have hb6:Below w.heap.size w w':=(Below.refl w.heap.size w).drew.trans hb
  have h0:x 0=.pointer (some ⟨gh,0,none⟩):=hd 0 (by simp)
  refine owes_here (.pointer (some ⟨gh,0,none⟩)) (by rfl) ?_ rfl
  simp only [putAll,List.take_succ_cons,List.take_zero]
  go_simp
 ·intro x w' hb hd
  have hb6:Below w.heap.size w w':=(Below.refl w.heap.size w).drew.trans hb
  have h1:x 1=.pointer (some ⟨gh,0,none⟩):=hd 1 (by simp)
  refine owes_here (.pointer (some ⟨gh,0,none⟩)) (by rfl) ?_ rfl
  simp only [putAll,List.take_succ_cons,List.take_zero]
  go_simp
 ·intro x w' hb hd
  have hb6:Below w.heap.size w w':=(Below.refl w.heap.size w).drew.trans hb
  have h2:x 2=.pointer (some ⟨gh,0,none⟩):=hd 2 (by simp)
  have d0:=(hb6.cell (p:=⟨gh,0,none⟩) hgh).trans (cell_block HH.out.box 0)
  refine owes_here (.pointer (some ⟨gs,0,none⟩)) (by rfl) ?_ rfl
  simp only [putAll,List.take_succ_cons,List.take_zero]
  go_simp
 ·intro x w' hb hd
  have hb6:Below w.heap.size w w':=(Below.refl w.heap.size w).drew.trans hb
  refine owes_here (.pointer (some ⟨gw,0,none⟩)) (by rfl) ?_ rfl
  simp only [putAll,List.take_succ_cons,List.take_zero]
  go_simp
 ·intro x w' hb hd
  have hb6:Below w.heap.size w w':=(Below.refl w.heap.size w).drew.trans hb
  have h4:x 4=.pointer (some ⟨gw,0,none⟩):=hd 4 (by simp)
  refine owes_here (.pointer (some ⟨gw,0,none⟩)) (by rfl) ?_ rfl
  simp only [putAll,List.take_succ_cons,List.take_zero]
  go_simp
 ·intro x w' hb hd
  have hb6:Below w.heap.size w w':=(Below.refl w.heap.size w).drew.trans hb
  have h5:x 5=.pointer (some ⟨gw,0,none⟩):=hd 5 (by simp)
  refine owes_here (.pointer (some ⟨gw,3,none⟩)) (by rfl) ?_ rfl
  simp only [putAll,List.take_succ_cons,List.take_zero]
  go_simp
 ·intro x w' hb hd
  have hb6:Below w.heap.size w w':=(Below.refl w.heap.size w).drew.trans hb
  have h6:x 6=.pointer (some ⟨gw,3,none⟩):=hd 6 (by simp)
  have d0:=(hb6.cell (p:=⟨gw,3,none⟩) hgw).trans (cell_block HW.out.box 3)
  refine owes_here (.int .i64 at9) (by rfl) ?_ rfl
  simp only [putAll,List.take_succ_cons,List.take_zero]
  go_simp
 ·intro x w' hb hd
  have hb6:Below w.heap.size w w':=(Below.refl w.heap.size w).drew.trans hb
  have h3:x 3=.pointer (some ⟨gs,0,none⟩):=hd 3 (by simp)
  have h7:x 7=.int .i64 at9:=hd 7 (by simp)
  refine owes_call 25 #[.pointer (some ⟨gs,0,none⟩),.int .i64 at9] (by rfl) ?_ ((since_any (StoreAt.belowW HA.out hb6) HS.out at9).mono ?_)
  ·simp only [putAll,List.take_succ_cons,List.take_zero]
   go_simp
  ·rintro _ w2 ⟨hb3,E,v2,rfl,e2,e3⟩
   rw [Hse.out,HL.out] at *
   exact⟨_,rfl,⟨E,v2,rfl,e2,fun b hb9=>⟨Nat.le_trans hb6.size (e3 b hb9).1,(e3 b hb9).2⟩⟩,hb3⟩
 ·intro x w' hb hd
  have hb6:Below w.heap.size w w':=(Below.refl w.heap.size w).drew.trans hb
  have h8:∃ E v2,x 8=.tuple #[v2,.int .i64 se]∧OwnX EvX 12 E w' 56 v2 L∧∀ b,E b→w.heap.size≤b∧b<w'.heap.size:=hd 8 (by simp)
  obtain⟨E,v2,e1,e2,e3⟩:=h8
  refine owes_here (.tuple #[v2,.int .i64 se]) (by rfl) ?_ ⟨E,v2,rfl,e2,e3⟩
  simp only [putAll,List.take_succ_cons,List.take_zero]
  go_simp
 ·intro x w' hb hd
  have hb6:Below w.heap.size w w':=(Below.refl w.heap.size w).drew.trans hb
  have h9:∃ E v2,x 9=.tuple #[v2,.int .i64 se]∧OwnX EvX 12 E w' 56 v2 L∧∀ b,E b→w.heap.size≤b∧b<w'.heap.size:=hd 9 (by simp)
  obtain⟨E,v2,e1,e2,e3⟩:=h9
  refine owes_here v2 (by rfl) ?_ ⟨E,e2,e3⟩
  simp only [putAll,List.take_succ_cons,List.take_zero]
  go_simp
 ·intro x w' hb hd
  have hb6:Below w.heap.size w w':=(Below.refl w.heap.size w).drew.trans hb
  have h9:∃ E v2,x 9=.tuple #[v2,.int .i64 se]∧OwnX EvX 12 E w' 56 v2 L∧∀ b,E b→w.heap.size≤b∧b<w'.heap.size:=hd 9 (by simp)
  obtain⟨E,v2,e1,e2,e3⟩:=h9
  refine owes_here (.int .i64 se) (by rfl) ?_ rfl
  simp only [putAll,List.take_succ_cons,List.take_zero]
  go_simp
 ·intro x w' hb hd
  have hb6:Below w.heap.size w w':=(Below.refl w.heap.size w).drew.trans hb
  have h10:∃ E,OwnX EvX 12 E w' 56 (x 10) L∧∀ b,E b→w.heap.size≤b∧b<w'.heap.size:=hd 10 (by simp)
  obtain⟨E,e2,e3⟩:=h10
  obtain⟨va,vc,hv2,-,-⟩:=e2.own.row.len
  rw [Hm.out] at hv2
  rw [hv2] at e2
  refine owes_here (.slice va m vc) (by rfl) ?_ ⟨E,e2,e3⟩
  simp only [putAll,List.take_succ_cons,List.take_zero]
  go_simp
 ·intro x w' hb hR
  have hb6:Below w.heap.size w w':=(Below.refl w.heap.size w).drew.trans hb
  have h10:∃ E,OwnX EvX 12 E w' 56 (x 12) L∧∀ b,E b→w.heap.size≤b∧b<w'.heap.size:=hR 12 (by omega)
  have h11:x 11=.int .i64 se:=hR 11 (by omega)
  obtain⟨E,e2,e3⟩:=h10
  obtain⟨w1,hw1⟩:∃ w1,w'=w1:=⟨_,rfl⟩
  rw [hw1] at hb6 e2 e3 ⊢
  clear hw1
  obtain⟨va,vc,hv2,-,-⟩:=e2.own.row.len
  rw [Hm.out] at hv2
  rw [hv2] at e2
  have HA1:Hid (Below w.heap.size w w1):=Lib.hid hb6
  have HT:=Lib.hid e2
  have HE:Hid (∀ b,E b→w.heap.size≤b∧b<w1.heap.size):=Lib.hid e3
  have hs1:=hb6.size
  clear hb hR hb6 e2 e3
  simp only [putAll,List.take_succ_cons,List.take_zero,List.drop_succ_cons,List.drop_zero]
  rw [h11,hv2]
  clear h11 hv2
  try simp only [Act.put,List.setIfInBounds_toArray,List.set_cons_zero,List.set_cons_succ]
  by_cases hse:se=0
  ·subst hse
   go_upto_region 11 with fail
   go_wp2_with fail
   go_loopg [54,11] m (fun k u54 u11 wr=>∃ (i:Nat) (ati:Int) (Hi:GKey→Bool) (out:List GEvent),i+k=m∧u54=.int .i64 (i:Int)∧Hid (OutX EvX 12 w.heap.size wr 56 u11 out)∧Hid (∀ b,u11.ownBlock=some b→w1.heap.size≤b)∧Hid (WatchAt wr gw hm vr R v ati Hi (nw+i))∧Hid (takeG v most (L.drop i) out Hi ati=G)∧Hid (takeN v most (L.drop i) out Hi+i=N)∧Hid (Only (fun b=>b=hm∨b=gw) w1 wr)∧out.length≤most)
   case atStart=>exact⟨0,at9,H,[],by omega,rfl,Lib.hid OutX.nil,Lib.hid (fun b hb=>by cases hb),Lib.hid (HW.out.belowX HA1.out),HG,Lib.hid HN.out,Lib.hid (Only.refl _ _),Nat.zero_le _⟩
   case round=>
    clear HG HN
    obtain⟨i,ati,Hi,out,hik,rfl,HO,HOb,HWr,HGi,HNi,HOn,hol⟩:=hrel
    have hsr:=HOn.out.size
    obtain⟨ua,uc,hu11,-,-⟩:=(HO.out.own famEv).own.row.len
    obtain⟨no,Hno⟩:∃ n,Hid (out.length=n):=⟨_,Lib.hid rfl⟩
    rw [Hno.out] at hu11 hol
    subst hu11
    cases gk with
    | zero=>
     obtain rfl:m=i:=by omega
     have hG9:G=(out,Hi,ati):=by rw [←HGi.out,List.drop_of_length_le (Nat.le_of_eq Hm.out)];rfl
     subst hG9
     have hN9:m=N:=by have h9:=HNi.out;rw [List.drop_of_length_le (Nat.le_of_eq Hm.out)] at h9;have h8:takeN v most [] out Hi=0:=rfl;omega
     have HN9:=Lib.hid hN9
     clear hN9
     have hout:out.length=no:=Hno.out
     go_wp2_with fail
     go_ret2
     exact .inr ⟨rfl,_,_,rfl,HO.out.own famEv,fun b hb=>hb,HWr.out.more (by have:=HN9.out;omega),Only.after HA1.out HOn.out⟩
    | succ k=>
     have hil:i<m:=by omega
     obtain⟨x,hx⟩:∃ x,L[i]? = some x:=⟨L[i]'(by rw [Hm.out];exact hil),List.getElem?_eq_getElem _⟩
     have hrx:OwnX EvX 12 E wr 56 (.slice va m vc) L:=HT.out.agree famEv fun b hb=>HOn.out.block b (HE.out b hb).2 (by have:=(HE.out b hb).1;omega)
     obtain⟨b,o,v1,v3,v4,hva,hobj,ec⟩:=ev_cells hrx.own.row Hm.out (Below.refl _ _) hx
     subst hva
     obtain⟨a1,c1,rfl,-,-⟩:=hobj.rowL.len
     obtain⟨a2,c2,rfl,-,-⟩:=hobj.rowO.row.len
     obtain⟨a3,c3,rfl,-,-⟩:=hobj.rowH.row.len
     obtain⟨n1,Hn1⟩:∃ n,Hid (x.object.labels.length=n):=⟨_,Lib.hid rfl⟩
     obtain⟨n2,Hn2⟩:∃ n,Hid (x.object.owners.length=n):=⟨_,Lib.hid rfl⟩
     obtain⟨n3,Hn3⟩:∃ n,Hid (x.object.holds.length=n):=⟨_,Lib.hid rfl⟩
     rw [Hn1.out,Hn2.out,Hn3.out] at hobj ec
     have f0:=ec 0 _ rfl
     have f1:=ec 1 _ rfl
     have f2:=ec 2 _ rfl
     have f3:=ec 3 _ rfl
     have f4:=ec 4 _ rfl
     have f5:=ec 5 _ rfl
     have f6:=ec 6 _ rfl
     have f7:=ec 7 _ rfl
     have f8:=ec 8 _ rfl
     have f9:=ec 9 _ rfl
     have f10:=ec 10 _ rfl
     have f11:=ec 11 _ rfl
     rw [Nat.add_zero] at f0
     have q1:(0:Int)≤(i:Int):=by omega
     have q2:(i:Int)<(m:Int):=by omega
     have Hx:=Lib.hid hx
     have Hok:Hid (OkObj x.object):=Lib.hid (HMem.out x (List.mem_of_getElem? hx))
     have Hobj:=Lib.hid hobj
     have H7:=Lib.hid (heap_alloc_new wr (.cells #[.int .i64 0,.int .i64 0,.string {data:=#[]},.string {data:=#[]},.string {data:=#[]},.slice none 0 0,.slice none 0 0,.slice none 0 0,.bool false,.string {data:=#[]},.int .i64 0,.string {data:=#[]}] 56))
     have hb4:=Lib.hid ((Below.refl wr.heap.size wr).alloc (Nat.le_refl _) (.cells #[.int .i64 0,.int .i64 0,.string {data:=#[]},.string {data:=#[]},.string {data:=#[]},.slice none 0 0,.slice none 0 0,.slice none 0 0,.bool false,.string {data:=#[]},.int .i64 0,.string {data:=#[]}] 56))
     have hs4:Hid ((wr.alloc (.cells #[.int .i64 0,.int .i64 0,.string {data:=#[]},.string {data:=#[]},.string {data:=#[]},.slice none 0 0,.slice none 0 0,.slice none 0 0,.bool false,.string {data:=#[]},.int .i64 0,.string {data:=#[]}] 56)).heap.size=wr.heap.size+1):=Lib.hid (World.size_alloc _ _)
     clear hx ec hobj hrx
     go_wp2_with (refine wpList_store_box (by rfl) _ _ _ (by rfl) wr.heap.size #[.int .i64 x.kind,.int .i64 x.rev,.string x.object.okey.kind,.string x.object.okey.space,.string x.object.okey.name,.slice a1 n1 c1,.slice a2 n2 c2,.slice a3 n3 c3,.bool x.object.ending,.string x.object.uid,.int .i64 x.object.rev,.string x.object.doc] (by rfl) (by rfl) _ _ (by exact H7.out) (by exact Tryz.sizeEv) (by rfl) (by simp [Value.oneCell']) ?_)
     intro w5 b5 t5
     have hb5:Below wr.heap.size wr w5:=t5.below hb4.out (Nat.le_refl _)
     have hs5:w5.heap.size=wr.heap.size+1:=t5.size.trans hs4.out
     obtain⟨ge,hge⟩:∃ ge,wr.heap.size=ge:=⟨_,rfl⟩
     have hger:wr.heap.size≤ge:=by omega
     rw [hge] at b5 ⊢
     have hgl:ge<w5.heap.size:=by omega
     have hgw9:w.heap.size≤ge:=by omega
     have B5:=Lib.hid b5
     have HB5:=Lib.hid hb5
     have HO5:=Lib.hid (HO.out.belowX famEv hb5)
     have HW5:=Lib.hid (HWr.out.belowX hb5)
     have HOb5:Hid (∀ b,(Value.slice ua no uc).ownBlock=some b→w1.heap.size≤b∧b<ge):=Lib.hid fun b hb=>⟨HOb.out b hb,by rw [←hge];exact (HO.out.at hb).2⟩
     have hs5':wr.heap.size≤w5.heap.size:=by omega
     clear b5 t5 hb5 hb4 hs4 H7 HO HWr HOb f0 f1 f2 f3 f4 f5 f6 f7 f8 f9 f10 f11 hge hs5 q1 q2
     have hd:L.drop i=x :: L.drop (i+1):=drop_one9 Hx.out
     have HGx:Hid ((if out.length=most then (out,Hi,ati) else takeG v most (L.drop (i+1)) (out++seenE v Hi x) (seenH v Hi x) x.rev)=G):=Lib.hid (by rw [←HGi.out,hd];rfl)
     have HNx:Hid ((if out.length=most then 0 else takeN v most (L.drop (i+1)) (out++seenE v Hi x) (seenH v Hi x)+1)+i=N):=Lib.hid (by rw [←HNi.out,hd];rfl)
     clear hd HGi HNi
     by_cases hno:no=most
     ·have hG9:G=(out,Hi,ati):=by rw [←HGx.out,if_pos (Hno.out.trans hno)]
      subst hG9
      have HN9:Hid (i=N):=Lib.hid (by have h9:=HNx.out;rw [if_pos (Hno.out.trans hno)] at h9;omega)
      subst hno
      go_wp2_with fail
      go_ret2
      exact .inr ⟨rfl,_,_,rfl,HO5.out.own famEv,fun b hb=>hb,HW5.out.more (by have:=HN9.out;omega),(Only.after HA1.out HOn.out).then HB5.out⟩
     ·have HG7:Hid (takeG v most (L.drop (i+1)) (out++seenE v Hi x) (seenH v Hi x) x.rev=G):=Lib.hid (by rw [←HGx.out,if_neg (by rw [Hno.out];exact hno)])
      have HN7:Hid (takeN v most (L.drop (i+1)) (out++seenE v Hi x) (seenH v Hi x)+1+i=N):=Lib.hid (by have h9:=HNx.out;rw [if_neg (by rw [Hno.out];exact hno)] at h9;exact h9)
      have hnol:no<most:=by omega
      have qn:((no:Int) == (most:Int))=false:=by rw [beq_eq_false_iff_ne];omega
      clear HGx HNx
      have ce:=fun i=>cell_block B5.out i
      have cw:=fun i=>cell_block HW5.out.box i
      have fw:=fun i=>free_block HW5.out.box i
      obtain⟨w6,hw6⟩:∃ w9,w5.setCell ⟨gw,3,none⟩ (.int .i64 x.rev)=w9:=⟨_,rfl⟩
      have t1:=touch_setCell (i:=3) (v:=.int .i64 x.rev) HW5.out.box
      rw [hw6] at t1
      have hgeg:ge≠gw:=by omega
      have HW6:Hid (WatchAt w6 gw hm vr R v x.rev Hi (nw+i)):=Lib.hid (HW5.out.moved t1.2 t1.1)
      have B6:=Lib.hid (t1.2.block B5.out hgeg)
      have HO6:Hid (OutX EvX 12 w.heap.size w6 56 (.slice ua no uc) out):=Lib.hid (HO5.out.agreeX famEv (by rw [t1.2.size];exact Nat.le_refl _) fun b h1 h2=>t1.2.other b (by omega))
      have HOn6:Hid (Only (fun b=>b=hm∨b=gw) w1 w6):=Lib.hid ((HOn.out.then HB5.out).trans (Only.touch (D:=fun b=>b=hm∨b=gw) t1.2 (.inr rfl)) fun b hb _=>hb)
      have Hobj6:Hid (ObjIn E w6 (.slice a1 n1 c1) (.slice a2 n2 c2) (.slice a3 n3 c3) x.object):=Lib.hid (Hobj.out.agree fun b hb=>(t1.2.other b (by have:=(HE.out b hb).1;omega)).trans (HB5.out.block b (by have:=(HE.out b hb).2;omega)))
      have hs6:w6.heap.size=w5.heap.size:=t1.2.size
      have hs6a:ge<w6.heap.size:=by omega
      have hs6b:w1.heap.size≤w6.heap.size:=by omega
      clear hs6
      go_upto_region 17 with fail
      try rw [hw6]
      clear t1 hw6 ce cw fw B5 HW5 HO5 HOn HB5 Hobj qn
      obtain⟨k9,Hk9⟩:∃ k,Hid ((seenK v Hi x).getD x.kind=k):=⟨_,Lib.hid rfl⟩
      obtain⟨b9,Hb9⟩:∃ b,Hid ((seenK v Hi x).isSome=b):=⟨_,Lib.hid rfl⟩
      have HB06:Hid (Below w0.heap.size w0 w6):=Lib.hid ((HB0.out.trans (HA1.out.mono HB0.out.size)).trans (HOn6.out.below (fun b hb=>by rcases hb with rfl | rfl<;>assumption) (by have:=HB0.out.size;omega)))
      have HSees:Hid (Calls Tryz.prog 81 #[.pointer (some ⟨gw,0,none⟩),.agg #[.int .i64 x.kind,.int .i64 x.rev,.string x.object.okey.kind,.string x.object.okey.space,.string x.object.okey.name,.slice a1 n1 c1,.slice a2 n2 c2,.slice a3 n3 c3,.bool x.object.ending,.string x.object.uid,.int .i64 x.object.rev,.string x.object.doc]] w6 fun e w7=>e=.returned (.tuple #[.agg #[.int .i64 k9,.int .i64 x.rev,.string x.object.okey.kind,.string x.object.okey.space,.string x.object.okey.name,.slice a1 n1 c1,.slice a2 n2 c2,.slice a3 n3 c3,.bool x.object.ending,.string x.object.uid,.int .i64 x.object.rev,.string x.object.doc],.bool b9])∧WatchAt w7 gw hm vr R v x.rev (seenH v Hi x) (nw+i+1)∧Only (fun b=>b=hm) w6 w7):=Lib.hid (by
       have h9:=sees_any HW6.out HV.out (by omega) x _ _ _ Hobj6.out.rowL Hobj6.out.rowO Hobj6.out.rowH Hok.out (by obtain⟨m9,hm9⟩:=HMx.out;exact⟨m9,hm9.below HB06.out⟩)
       rw [Hk9.out,Hb9.out] at h9
       exact h9)
      have ce:=fun i=>cell_block B6.out i
      clear HB06
      go_wp2_with fail
      refine HSees.out.mono ?_
      rintro e7 w7 ⟨rfl,hw7,ho7⟩
      have HW7:=Lib.hid hw7
      have HOn7:Hid (Only (fun b=>b=hm∨b=gw) w1 w7):=Lib.hid (HOn6.out.trans ho7 fun b hb _=>.inl hb)
      have HO7:Hid (OutX EvX 12 w.heap.size w7 56 (.slice ua no uc) out):=Lib.hid (HO6.out.agreeX famEv ho7.size fun b h1 h2=>ho7.block b h2 (by omega))
      have Hobj7:Hid (ObjIn E w7 (.slice a1 n1 c1) (.slice a2 n2 c2) (.slice a3 n3 c3) x.object):=Lib.hid (Hobj6.out.agree fun b hb=>ho7.block b (by have:=(HE.out b hb).2;omega) (by have:=(HE.out b hb).1;omega))
      have hs7:=ho7.size
      clear hw7 ho7 HSees ce B6 HW6 HO6 HOn6 Hobj6
      have H7:=Lib.hid (heap_alloc_new w7 (.cells #[.int .i64 0,.int .i64 0,.string {data:=#[]},.string {data:=#[]},.string {data:=#[]},.slice none 0 0,.slice none 0 0,.slice none 0 0,.bool false,.string {data:=#[]},.int .i64 0,.string {data:=#[]}] 56))
      have hb4:=Lib.hid ((Below.refl w7.heap.size w7).alloc (Nat.le_refl _) (.cells #[.int .i64 0,.int .i64 0,.string {data:=#[]},.string {data:=#[]},.string {data:=#[]},.slice none 0 0,.slice none 0 0,.slice none 0 0,.bool false,.string {data:=#[]},.int .i64 0,.string {data:=#[]}] 56))
      have hs4:Hid ((w7.alloc (.cells #[.int .i64 0,.int .i64 0,.string {data:=#[]},.string {data:=#[]},.string {data:=#[]},.slice none 0 0,.slice none 0 0,.slice none 0 0,.bool false,.string {data:=#[]},.int .i64 0,.string {data:=#[]}] 56)).heap.size=w7.heap.size+1):=Lib.hid (World.size_alloc _ _)
      go_wp2_with (refine wpList_store_box (by rfl) _ _ _ (by rfl) w7.heap.size #[.int .i64 k9,.int .i64 x.rev,.string x.object.okey.kind,.string x.object.okey.space,.string x.object.okey.name,.slice a1 n1 c1,.slice a2 n2 c2,.slice a3 n3 c3,.bool x.object.ending,.string x.object.uid,.int .i64 x.object.rev,.string x.object.doc] (by rfl) (by rfl) _ _ (by exact H7.out) (by exact Tryz.sizeEv) (by rfl) (by simp [Value.oneCell']) ?_)
      intro w8 b8 t8
      have hb8:Below w7.heap.size w7 w8:=t8.below hb4.out (Nat.le_refl _)
      have hs8:w8.heap.size=w7.heap.size+1:=t8.size.trans hs4.out
      obtain⟨gy,hgy⟩:∃ g,w7.heap.size=g:=⟨_,rfl⟩
      rw [hgy] at b8 ⊢
      have B8:=Lib.hid b8
      have HW8:=Lib.hid (HW7.out.belowX hb8)
      have HOn8:=Lib.hid (HOn7.out.then hb8)
      have HO8:=Lib.hid (HO7.out.belowX famEv hb8)
      have Hobj8:Hid (ObjIn E w8 (.slice a1 n1 c1) (.slice a2 n2 c2) (.slice a3 n3 c3) x.object):=Lib.hid (Hobj7.out.agree fun b hb=>hb8.block b (by have:=(HE.out b hb).2;omega))
      have hgy1:gy<w8.heap.size:=by omega
      have hgy2:ge<gy:=by omega
      have hgy3:w1.heap.size≤gy:=by omega
      clear b8 t8 hb8 hb4 hs4 H7 HW7 HO7 HOn7 Hobj7 hgy hs8 hs7
      cases b9 with
      | false=>
       have hsn:seenE v Hi x = []:=by
        unfold seenE
        cases hsk:seenK v Hi x with
        | none=>rfl
        | some k=>exact absurd (by rw [←Hb9.out,hsk];rfl) Bool.false_ne_true
       have HG8:Hid (takeG v most (L.drop (i+1)) out (seenH v Hi x) x.rev=G):=Lib.hid (by have h9:=HG7.out;rw [hsn,List.append_nil] at h9;exact h9)
       have HN8:Hid (takeN v most (L.drop (i+1)) out (seenH v Hi x)+(i+1)=N):=Lib.hid (by have h9:=HN7.out;rw [hsn,List.append_nil] at h9;omega)
       clear hsn HG7 HN7
       have hnl:out.length≤most:=by rw [Hno.out];omega
       have HOb8:Hid (∀ b,(Value.slice ua no uc).ownBlock=some b→w1.heap.size≤b):=Lib.hid fun b hb=>(HOb5.out b hb).1
       go_wp2_with fail
       go_roundg k
       case measure=>omega
       case rel=>exact⟨i+1,x.rev,seenH v Hi x,out,by omega,by go_num,HO8,HOb8,HW8,HG8,HN8,HOn8,hnl⟩
      | true=>
       have hsk:seenE v Hi x = [{x with kind:=k9}]:=by
        unfold seenE
        cases hsk:seenK v Hi x with
        | none=>exact absurd (by rw [←Hb9.out,hsk];rfl) Bool.false_ne_true
        | some k=>have h9:=Hk9.out;rw [hsk] at h9;obtain rfl:k=k9:=h9;rfl
       have HG8:Hid (takeG v most (L.drop (i+1)) (out++[{x with kind:=k9}]) (seenH v Hi x) x.rev=G):=Lib.hid (by have h9:=HG7.out;rw [hsk] at h9;exact h9)
       have HN8:Hid (takeN v most (L.drop (i+1)) (out++[{x with kind:=k9}]) (seenH v Hi x)+(i+1)=N):=Lib.hid (by have h9:=HN7.out;rw [hsk] at h9;omega)
       clear hsk HG7 HN7
       have cf:=fun i=>cell_block B8.out i
       obtain⟨gl,hgz⟩:∃ gl,w8.heap.size=gl:=⟨_,rfl⟩
       obtain⟨w9,hw9⟩:∃ w9,w9=w8.alloc (.cells #[.int .i64 k9,.int .i64 x.rev,.string x.object.okey.kind,.string x.object.okey.space,.string x.object.okey.name,.slice a1 n1 c1,.slice a2 n2 c2,.slice a3 n3 c3,.bool x.object.ending,.string x.object.uid,.int .i64 x.object.rev,.string x.object.doc] 56):=⟨_,rfl⟩
       have hb9:Below w8.heap.size w8 w9:=by rw [hw9];exact (Below.refl _ w8).alloc (Nat.le_refl _) _
       have hs9:w9.heap.size=w8.heap.size+1:=by rw [hw9,World.size_alloc]
       have HO9:=Lib.hid (HO8.out.belowX famEv hb9)
       have HW9:=Lib.hid (HW8.out.belowX hb9)
       have HOn9:=Lib.hid (HOn8.out.then hb9)
       have HRow:Hid (RowAt (EvX (OutD w.heap.size w9 (.slice ua no uc)) w9) 12 w9 (.slice (some ⟨gl,0,none⟩) 1 1) [{x with kind:=k9}]):=Lib.hid (RowAt.one (R:=(EvX (OutD w.heap.size w9 (.slice ua no uc)) w9)) (k:=12) (cs:=#[.int .i64 k9,.int .i64 x.rev,.string x.object.okey.kind,.string x.object.okey.space,.string x.object.okey.name,.slice a1 n1 c1,.slice a2 n2 c2,.slice a3 n3 c3,.bool x.object.ending,.string x.object.uid,.int .i64 x.object.rev,.string x.object.doc]) (x:={x with kind:=k9}) (by rw [hw9,←hgz];exact heap_alloc_new w8 _) rfl ⟨_,_,_,rfl,(Hobj8.out.agree fun b hb=>hb9.block b (by have:=(HE.out b hb).2;omega)).mono fun b hb=>⟨(HE.out b hb).1,by have:=(HE.out b hb).2;omega,fun e9=>by have:=(HOb5.out b e9).1;have:=(HE.out b hb).2;omega⟩⟩)
       have hbase:w.heap.size≤w9.heap.size:=by omega
       have hnl:(out++[{x with kind:=k9}]).length≤most:=by rw [List.length_append,Hno.out];exact hnol
       obtain⟨i0,hi0,hy0,hy1,hy2⟩:=info_parts Tryz.infoEv
       have hsl:w9.heap.size=gl+1:=by omega
       have hgl9:w1.heap.size≤gl:=by omega
       clear hb9 hs9 HO8 HW8 HOn8 Hobj8 B8
       go_wp2_with (at_builtin;rw [←hw9];refine wpList_append_ownAt (R:=(EvX (OutD w.heap.size w9 (.slice ua no uc)) w9)) (k:=12) (e:=56) (B:=w.heap.size) (l:=out) (m:=[{x with kind:=k9}]) _ (by rfl) _ _ _ (by rfl) i0 _ 184 Tryz.underlying51 hi0 hy0 hy1 hy2 rfl (by omega) (famEv.flat _ _) (famEv.one _ _) _ (by rfl) HO9.out _ (by rfl) HRow.out (by rw [Hno.out,List.length_singleton];unfold maxLen;omega) (by rw [Hno.out,List.length_singleton];omega) hbase ?_)
       intro v' wA p1 p2 p3 p4
       rw [←hw9] at p1 p2
       rw [show gl+1=w9.heap.size from hsl.symm] at p4
       have HOA:=Lib.hid (OutX.appended famEv p1 p2 p4)
       have HWA:Hid (WatchAt wA gw hm vr R v x.rev (seenH v Hi x) (nw+i+1)):=Lib.hid (HW9.out.agreeX p2.size fun b hb=>p2.block b (by
        rcases hb with rfl | rfl | hb
        ·exact HW9.out.lts.1
        ·exact HW9.out.lts.2
        ·exact (HW9.out.low b hb).1) fun e9=>by
        have h9:=(HOb5.out b e9.symm).1
        rcases hb with rfl | rfl | hb
        ·omega
        ·omega
        ·have:=(HW.out.low b hb).1;omega)
       have HOnA:Hid (Only (fun b=>b=hm∨b=gw) w1 wA):=Lib.hid ⟨p2.os.trans HOn9.out.os,p2.tape.trans HOn9.out.tape,p2.output.trans HOn9.out.output,Nat.le_trans HOn9.out.size p2.size,fun b hb hn=>(p2.block b (Nat.lt_of_lt_of_le hb HOn9.out.size) fun e9=>by have:=(HOb5.out b e9.symm).1;omega).trans (HOn9.out.block b hb hn)⟩
       have HObA:Hid (∀ b,v'.ownBlock=some b→w1.heap.size≤b):=Lib.hid fun b hb=>by
        rcases p4 with h8 | h8
        ·exact (HOb5.out b (h8▸hb)).1
        ·rw [h8] at hb;injection hb with hb;omega
       clear p1 p2 p3 p4 cf HO9 HRow HW9 HOn9 hw9 hsl hgz
       go_wp2_with fail
       go_roundg k
       case measure=>omega
       case rel=>exact⟨i+1,x.rev,seenH v Hi x,_,by omega,by go_num,HOA,HObA,HWA,HG8,HN8,HOnA,hnl⟩
  ·have qs:(se != 0)=true:=by rw [bne_iff_ne];exact hse
   have HH1:=Lib.hid (HH.out.belowX HA1.out)
   obtain⟨nm,f,hm0,hm1,hm2⟩:=HH1.out.map
   obtain⟨w2,hrun,hmm2,ht2⟩:=MapK.drop hm1 Tryz.underlying146 id Hid9.out 0
   rw [show intC.val id=.int .i64 id from rfl] at hrun
   have HM2:=Lib.hid hmm2
   have HF:=Lib.hid hm2
   have H0:=Lib.hid hm0
   have HO:Hid (Only (fun b=>b=om) w1 w2):=Lib.hid (Only.turned ht2 rfl)
   have cc:=fun i=>cell_block HH1.out.box i
   clear hm0 hm1 hm2 hmm2 ht2
   go_wp2_with fail
   go_ret2
   refine .inl ⟨hse,rfl,⟨(HO.out.block _ HH1.out.lts.1 (Ne.symm HH1.out.ne)).trans HH1.out.box,nm,_,H0.out,HM2.out,fun k=>?_⟩,Only.after HA1.out HO.out⟩
   unfold delK
   split
   ·rfl
   ·exact HF.out k
end Sto
end Go.Proofs.YtnnceaapodgfbaaGreatDoor
namespace Go.Proofs.YtnnceaapodgfbaaGreatDoor
namespace Sto
open Go.RowKit
theorem space_is (s:ByteArray):spaceE s=if s.toList.isEmpty=true then 0 else chk s:=by
 unfold spaceE chk
 rw [show s.toList=s.data.toList from ByteArray.toList_eq s]
 cases h:s.data.toList with
 | nil=>rfl
 | cons a l=>rfl
def viewE (v:GView):Int:=says (chk v.kind) (says (spaceE v.space) (reqsE v.reqs))
set_option maxRecDepth 100000 in
set_option maxHeartbeats 3200000 in
theorem vcheck_any {w:World} {va:Value} {v:GView} (hr:RowAt ReqR 3 w va v.reqs) (hv:OkView v) (hm9:∃ m,MaxOK m w) :
  Calls Tryz.prog 76 #[.agg #[.string v.kind,.string v.space,va]] w fun e w'=>e=.returned (.int .i64 (viewE v))∧Below w.heap.size w w':=by
 obtain⟨ar,cr,rfl,-,-⟩:=hr.len
 obtain⟨nr,Hnr⟩:∃ n,Hid (v.reqs.length=n):=⟨_,Lib.hid rfl⟩
 rw [Hnr.out] at hr ⊢
 obtain⟨k1,Hk1⟩:∃ x,Hid (chk v.kind=x):=⟨_,Lib.hid rfl⟩
 obtain⟨k2,Hk2⟩:∃ x,Hid (chk v.space=x):=⟨_,Lib.hid rfl⟩
 obtain⟨k3,Hk3⟩:∃ x,Hid (reqsE v.reqs=x):=⟨_,Lib.hid rfl⟩
 obtain⟨R,HR⟩:∃ x,Hid (viewE v=x):=⟨_,Lib.hid rfl⟩
 rw [HR.out]
 have HC1:Hid (∀ w',Calls Tryz.prog 89 #[.string v.kind] w' fun e w2=>e=.returned (.int .i64 k1)∧w'=w2):=Lib.hid fun w'=>by
  have h9:=check_any v.kind w' (Nat.le_trans hv.kind (by decide))
  rw [show NameP.check v.kind.data.toList=k1 from Hk1.out] at h9
  exact h9
 have HC2:Hid (∀ w',Calls Tryz.prog 89 #[.string v.space] w' fun e w2=>e=.returned (.int .i64 k2)∧w'=w2):=Lib.hid fun w'=>by
  have h9:=check_any v.space w' (Nat.le_trans hv.space (by decide))
  rw [show NameP.check v.space.data.toList=k2 from Hk2.out] at h9
  exact h9
 have HC3:Hid (∀ w',Below w.heap.size w w'→Calls Tryz.prog 109 #[.slice ar nr cr] w' fun e w2=>e=.returned (.int .i64 k3)∧Below w'.heap.size w' w2):=Lib.hid fun w' hb=>by
  obtain⟨m,hm⟩:=hm9
  have h9:=checks_any (.slice ar nr cr) v.reqs m w' (hr.below stays_req hb) hv.reqs.1 hv.reqs.2 (hm.below hb)
  rw [Hk3.out] at h9
  exact h9
 have hRx:R=says k1 (says (if v.space.toList.isEmpty=true then 0 else k2) k3):=by
  rw [←HR.out]
  unfold viewE
  rw [Hk1.out,Hk3.out,show spaceE v.space=if v.space.toList.isEmpty=true then 0 else k2 from by rw [←Hk2.out];exact space_is v.space]
 have HRx:=Lib.hid hRx
 obtain⟨W,hW⟩:∃ W,W=w.alloc (.cells #[.string v.kind,.string v.space,.slice ar nr cr] 80):=⟨_,rfl⟩
 obtain⟨gv,hgv⟩:∃ g,g=w.heap.size:=⟨_,rfl⟩
 have BV:=Lib.hid (show W.heap[gv]? = some (.cells #[.string v.kind,.string v.space,.slice ar nr cr] 80 (0,0)) by rw [hW,hgv];exact heap_alloc_new w _)
 have HB1:Hid (Below w.heap.size w W):=Lib.hid (by rw [hW];exact (Below.refl _ w).alloc (Nat.le_refl _) _)
 have cv:=fun i=>cell_block BV.out i
 clear hr hv hm9 hRx
 go_enter Tryz.func76,Tryz.ntmps76
 go_upto_region 1 with fail
 rw [←hW]
 try rw [←hgv]
 clear hW hgv
 go_wp2_with fail
 refine (HC1.out W).mono ?_
 rintro E w2 ⟨rfl,rfl⟩
 by_cases h1:k1=0
 ·subst h1
  cases eb:v.space.toList.isEmpty with
  | true=>
   have hR3:R=k3:=by rw [HRx.out,eb];rfl
   subst hR3
   go_wp2_with fail
   refine (HC3.out W HB1.out).mono ?_
   rintro E w3 ⟨rfl,hb3⟩
   have HB3:=Lib.hid (HB1.out.trans (hb3.mono HB1.out.size))
   clear hb3
   go_wp2_with fail
   go_ret
   exact⟨rfl,HB3.out⟩
  | false=>
   go_wp2_with fail
   refine (HC2.out W).mono ?_
   rintro E w2 ⟨rfl,rfl⟩
   by_cases h2:k2=0
   ·subst h2
    have hR3:R=k3:=by rw [HRx.out,eb];rfl
    subst hR3
    go_wp2_with fail
    refine (HC3.out W HB1.out).mono ?_
    rintro E w3 ⟨rfl,hb3⟩
    have HB3:=Lib.hid (HB1.out.trans (hb3.mono HB1.out.size))
    clear hb3
    go_wp2_with fail
    go_ret
    exact⟨rfl,HB3.out⟩
   ·have q2:(k2 != 0)=true:=by rw [bne_iff_ne];exact h2
    have hR3:R=k2:=by rw [HRx.out,eb];exact if_neg h2
    subst hR3
    clear h2
    go_wp2_with fail
    go_ret
    exact⟨rfl,HB1.out⟩
 ·have q1:(k1 != 0)=true:=by rw [bne_iff_ne];exact h1
  have hR3:R=k1:=by rw [HRx.out];exact if_neg h1
  subst hR3
  clear h1
  go_wp2_with fail
  go_ret
  exact⟨rfl,HB1.out⟩
end Sto
end Go.Proofs.YtnnceaapodgfbaaGreatDoor
namespace Go.Proofs.YtnnceaapodgfbaaGreatDoor
namespace Sto
open Go.RowKit
theorem i64_wfW {n:Int} (h1 : -9223372036854775808≤n) (h2:n≤9223372036854775807):(Lit.int .i64 n).wf=true:=by show (decide _ && decide _)=true;rw [Bool.and_eq_true];exact⟨decide_eq_true h1,decide_eq_true h2⟩
theorem Tryz.sizeReqW:(Tryz.prog.info? 97).map (·.size)=some 3:=by kernel_rfl
theorem Tryz.infoReqW:(Tryz.prog.info? 97).map (fun i=>(i.zero,i.size,i.bytes))=some (some (.agg #[.string ByteArray.empty,.int .i64 0,.slice none 0 0]),3,48):=by kernel_rfl
theorem one_reqW:OneR ReqR:=fun w cs x h u hu=>by
 obtain⟨v2,rfl,_,h2⟩:=h
 simp only [List.mem_cons,List.not_mem_nil,or_false] at hu
 rcases hu with rfl | rfl | rfl
 ·rfl
 ·rfl
 ·obtain⟨a,c,h9,-,-⟩:=h2.row.len
  rw [h9]
  rfl
set_option maxRecDepth 100000 in
theorem cloneReqW_any {R:Rd GReq} (hf:Flat R) (h1:OneR R) (v:Value) (l:List GReq) (w:World) (h:RowAt R 3 w v l) (hl:l.length≤1048576) :
  Calls Tryz.prog 77 #[v] w fun e w'=>∃ v',e=.returned v'∧OwnAt R 3 w' w.heap.size 97 v' l∧Below w.heap.size w w':=by
 obtain⟨i0,hi0,hz0,hz1,hz2⟩:=info_parts Tryz.infoReqW
 have hn:=fun (w:World) (a:Option Addr) (n c:Nat)=>Lib.run_eql_slice_nil (P:=Tryz.prog) w 78 97 a n c 0 0 Tryz.underlying78
 rcases h with ⟨rfl,rfl⟩ | ⟨a,c,rfl,g1,g2,g3⟩
 ·go_enter Tryz.func77,Tryz.ntmps77
  go_wp2_with fail
  go_ret
  exact⟨_,rfl,OwnAt.nil _,Below.refl _ _⟩
 ·have hrow:RowAt R 3 w (.slice (some a) l.length c) l:=.inr ⟨a,c,rfl,g1,g2,g3⟩
  have Hrow:=Lib.hid (hrow.below hf.stays ((Below.refl _ w).alloc (Nat.le_refl _) (.cells #[] 97)))
  clear hrow g1 g2 g3
  go_enter Tryz.func77,Tryz.ntmps77
  go_wp2_with (at_builtin;refine wpList_append_ownAt (R:=R) (k:=3) (e:=97) (B:=w.heap.size) (l:=[]) (m:=l) _ (by rfl) _ _ _ (by rfl) i0 _ 48 Tryz.underlying78 hi0 hz0 hz1 hz2 rfl (by omega) hf h1 _ (by rfl) (own_empty w 3 _ (Nat.le_refl _)) _ (by rfl) Hrow.out (by unfold maxLen;simp;omega) (by simp;omega) (by simp) ?_)
  intro v' w' hv' hg hr _
  have hb:Below w.heap.size w w':=below_of_grown ((Below.refl _ _).alloc (Nat.le_refl _) _) (by simp) hg hr
  go_wp2_with fail
  go_ret
  exact⟨_,rfl,by simpa using hv',hb⟩
def flagL:Nat→List GReq→List (GReq × Bool)
 | _,[]=>[]
 | 0,a :: l=>(a,false) :: flagL 0 l
 | i+1,a :: l=>(a,true) :: flagL i l
theorem flagL_at:∀ (l:List GReq) (i:Nat) (x:GReq),l[i]? = some x→(flagL i l)[i]? = some (x,false)∧(flagL i l).set i (x,true)=flagL (i+1) l
 | [],i,x,h=>by simp at h
 | a :: l,0,x,h=>by
  have h9:a=x:=by simpa using h
  subst h9
  exact⟨rfl,rfl⟩
 | a :: l,i+1,x,h=>by
  have h9:=flagL_at l i x (by simpa using h)
  exact⟨by show ((a,true) :: flagL i l)[i+1]? = _;rw [List.getElem?_cons_succ];exact h9.1,by show ((a,true) :: flagL i l).set (i+1) _=(a,true) :: flagL (i+1) l;rw [List.set_cons_succ,h9.2]⟩
theorem flagL_zero:∀ l:List GReq,flagL 0 l=l.map fun x=>(x,false)
 | []=>rfl
 | a :: l=>by show (a,false) :: flagL 0 l=_;rw [flagL_zero l];rfl
theorem flagL_all:∀ l:List GReq,flagL l.length l=l.map fun x=>(x,true)
 | []=>rfl
 | a :: l=>by show (a,true) :: flagL l.length l=_;rw [flagL_all l];rfl
theorem flagL_len:∀ (l:List GReq) (i:Nat),(flagL i l).length=l.length
 | [],_=>rfl
 | a :: l,0=>by show (flagL 0 l).length+1=_;rw [flagL_len l 0];rfl
 | a :: l,i+1=>by show (flagL i l).length+1=_;rw [flagL_len l i];rfl
theorem OwnAt.mapL9 {α β:Type} {R:Rd α} {R':Rd β} {k B:Nat} {w:World} {e:TypeId} {v:Value} {l:List α} (h:OwnAt R k w B e v l) (f:α→β) (hi:∀ cs x,x∈l→R w cs x→R' w cs (f x)):OwnAt R' k w B e v (l.map f):=by
 obtain⟨css,h1,h2,h3,h4⟩:=h
 refine⟨css,by rw [List.length_map];exact h1,h2,by rw [List.length_map];exact h3,fun j cs x hcs hx=>?_⟩
 rw [List.getElem?_map] at hx
 cases hl:l[j]? with
 | none=>rw [hl] at hx;cases hx
 | some y=>
  rw [hl] at hx
  injection hx with hx
  subst hx
  exact hi cs y (List.mem_of_getElem? hl) (h4 j cs y hcs hl)
def ReqB (D:Dom) (w:World):Rd (GReq × Bool):=fun _ cs y=>∃ v2,cs = [.string y.1.key,.int .i64 y.1.kind,v2]∧v2.oneCell'=true∧(Lit.int .i64 y.1.kind).wf=true∧(y.2=true→OwnX StrF 1 D w 9 v2 y.1.vals)
theorem famReqB : Fam ReqB :=
  ⟨fun _ _ _ _ _ _ h => h, fun _ _ _ cs x ⟨v2, h1, h2, _, _⟩ u hu => by
    rw [h1] at hu
    simp only [List.mem_cons, List.not_mem_nil, or_false] at hu
    rcases hu with rfl | rfl | rfl
    · rfl
    · rfl
    · exact h2,
   fun _ _ _ _ _ _ ha ⟨v2, h1, h2, h3, h4⟩ => ⟨v2, h1, h2, h3, fun e => (h4 e).agree famStr ha⟩, fun _ _ _ _ _ _ hd ⟨v2, h1, h2, h3, h4⟩ => ⟨v2, h1, h2, h3, fun e => (h4 e).mono famStr hd⟩⟩
def openE (v:GView) (S:St):Int:=says (viewE v) (sinceE S 0)
def Opened (w:World) (gh gs om n mk:Nat) (v:GView) (M:Int→Option Nat) (oe:Int) (e:Ending) (w':World):Prop:=
 (oe≠0∧e=.returned (.tuple #[.int .i64 0,.int .i64 oe])∧Below w.heap.size w w')∨
 (oe=0∧∃ gw hm vr R,e=.returned (.tuple #[.int .i64 ((mk:Int)+1),.int .i64 0])∧HubAt w' gh gs om (fun k=>if k=(mk:Int)+1 then some gw else M k) ((mk:Int)+1) (n+1)∧WatchAt w' gw hm vr R v 0 (fun _=>false) 0∧(∀ b,b=gw∨b=hm∨R b→w.heap.size≤b)∧Only (fun b=>b=gh∨b=om) w w')
set_option maxRecDepth 100000 in
set_option maxHeartbeats 12800000 in
theorem open_any {D:Dom} {w:World} {gh gs om n mk:Nat} {va:Value} {v:GView} {M:Int→Option Nat} {S:St} (hst:StoreAt D w gs S) (hS:OkSt S) (hh:HubAt w gh gs om M (mk:Int) n) (hn:n<8) (hmk:mk≤1000) (hr:RowAt ReqR 3 w va v.reqs) (hv:OkView v) (hm9:∃ m,MaxOK m w) :
  Calls Tryz.prog 34 #[.pointer (some ⟨gh,0,none⟩),.agg #[.string v.kind,.string v.space,va],.int .i64 0] w (Opened w gh gs om n mk v M (openE v S)):=by
 obtain⟨ar,cr,rfl,-,-⟩:=hr.len
 obtain⟨nr,Hnr⟩:∃ n,Hid (v.reqs.length=n):=⟨_,Lib.hid rfl⟩
 rw [Hnr.out] at hr ⊢
 have HR:=Lib.hid hr
 have HH:=Lib.hid hh
 have HA:Hid (StoreAt D w gs S):=Lib.hid hst
 have HS:=Lib.hid hS
 have HV:=Lib.hid hv
 have HMx:=Lib.hid hm9
 have hgh:=hh.lts.1
 have hom:=hh.lts.2
 have hgo:=hh.ne
 obtain⟨k1,Hk1⟩:∃ x,Hid (viewE v=x):=⟨_,Lib.hid rfl⟩
 obtain⟨k2,Hk2⟩:∃ x,Hid (sinceE S 0=x):=⟨_,Lib.hid rfl⟩
 obtain⟨oe,Hoe9⟩:∃ x,Hid (openE v S=x):=⟨_,Lib.hid rfl⟩
 have Hoe:Hid (oe=says k1 k2):=Lib.hid (by rw [←Hoe9.out];unfold openE;rw [Hk1.out,Hk2.out])
 rw [Hoe9.out]
 clear Hoe9
 obtain⟨W,hW⟩:∃ W,W=w.alloc (.cells #[.string v.kind,.string v.space,.slice ar nr cr] 80):=⟨_,rfl⟩
 obtain⟨gv,hgv⟩:∃ g,g=w.heap.size:=⟨_,rfl⟩
 have BV:=Lib.hid (show W.heap[gv]? = some (.cells #[.string v.kind,.string v.space,.slice ar nr cr] 80 (0,0)) by rw [hW,hgv];exact heap_alloc_new w _)
 have HB1:Hid (Below w.heap.size w W):=Lib.hid (by rw [hW];exact (Below.refl _ w).alloc (Nat.le_refl _) _)
 have hwv:w.heap.size≤gv:=by omega
 have hvW:gv<W.heap.size:=lt_of_some BV.out
 have HC1:=Lib.hid (vcheck_any (HR.out.below stays_req HB1.out) hv (by obtain⟨m,hm⟩:=hm9;exact⟨m,hm.below HB1.out⟩))
 rw [Hk1.out] at HC1
 have cv:=fun i=>cell_block BV.out i
 clear hst hS hh hr hv hm9
 go_enter Tryz.func34,Tryz.ntmps34
 go_upto_region 1 with fail
 rw [←hW]
 try rw [←hgv]
 clear hW hgv
 go_wp2_with fail
 refine HC1.out.mono ?_
 rintro E w2 ⟨rfl,hb2⟩
 have HB2:=Lib.hid (HB1.out.trans (hb2.mono HB1.out.size))
 have BV2:=Lib.hid (below_block hb2 BV.out)
 have hv2:gv<w2.heap.size:=lt_of_some BV2.out
 clear hb2 HC1 HB1 BV cv hvW
 by_cases h1:k1=0
 ·subst h1
  have HC2:=Lib.hid (since_any (StoreAt.belowW HA.out HB2.out) HS.out 0)
  rw [Hk2.out] at HC2
  have ch:=fun i=>cell_block (HH.out.belowX HB2.out).box i
  go_wp2_with fail
  refine HC2.out.mono ?_
  rintro E w3 ⟨hb3,E2,v2,rfl,-,-⟩
  have HB3:=Lib.hid (HB2.out.trans (hb3.mono HB2.out.size))
  have BV3:=Lib.hid (below_block hb3 BV2.out)
  have hv3:gv<w3.heap.size:=lt_of_some BV3.out
  clear hb3 HC2 HB2 BV2 ch hv2
  by_cases h2:k2=0
  ·subst h2
   have HH3:=Lib.hid (HH.out.belowX HB3.out)
   obtain⟨nm,f,hm0,hm1,hm2⟩:=HH3.out.map
   obtain⟨ks,-,-,hk3,hk4⟩:=MapK.keys hm1
   obtain⟨kl,hkl⟩:∃ n,ks.length=n:=⟨_,rfl⟩
   have hlen:=fun ty=>hk4 146 150 ty Tryz.underlying146
   rw [hkl] at hk3 hlen
   have q8:((kl:Int) == 8)=false:=by rw [beq_eq_false_iff_ne];omega
   have ch:=fun i=>cell_block HH3.out.box i
   have cv:=fun i=>cell_block BV3.out i
   have hmm:=@run_makeMap Tryz.prog
   clear hk4 hm0 hm1 hm2 hk3 hkl
   obtain⟨hm,hhm⟩:∃ g,g=w3.heap.size:=⟨_,rfl⟩
   obtain⟨gw,hgw⟩:∃ g,g=w3.heap.size+1:=⟨_,rfl⟩
   obtain⟨w4,hw4⟩:∃ w4,w4=(w3.alloc (.map #[] 0)).alloc (.cells #[.string v.kind,.string v.space,.slice ar nr cr,.int .i64 0,.map (some hm)] 153):=⟨_,rfl⟩
   have hs4:w4.heap.size=w3.heap.size+2:=by rw [hw4,World.size_alloc,World.size_alloc]
   have BW4:=Lib.hid (show w4.heap[gw]? = some (.cells #[.string v.kind,.string v.space,.slice ar nr cr,.int .i64 0,.map (some hm)] 153 (0,0)) by rw [hw4,hgw];exact heap_alloc_at (World.size_alloc _ _).symm)
   have MK4:Hid (MapK keyC w4 hm 0 fun _=>none):=Lib.hid (by rw [hw4,hhm];exact (mapK_made keyC w3).alloc _)
   have hb4:Below w3.heap.size w3 w4:=by rw [hw4];exact ((Below.refl _ w3).alloc (Nat.le_refl _) _).alloc (by rw [World.size_alloc];omega) _
   have HB4:=Lib.hid (HB3.out.trans (hb4.mono HB3.out.size))
   have BV4:=Lib.hid (below_block hb4 BV3.out)
   have hwhm:w.heap.size≤hm:=by have:=HB3.out.size;omega
   have hhg:hm<gw:=by omega
   have hvm:gv<hm:=by omega
   have hg4:gw<w4.heap.size:=by omega
   go_upto_region 9 with fail
   rw [←hgw,←hhm,←hw4]
   clear hw4 hgw hs4 hb4 HB3 BV3 ch cv hmm hlen q8 HH3 hhm hv3
   have HCl:=Lib.hid (cloneReqW_any (flat_atW w ReqR) (one_atW w one_reqW) (.slice ar nr cr) v.reqs w4 (HR.out.atW HB4.out) HV.out.reqs.1)
   have cv:=fun i=>cell_block BV4.out i
   have cw:=fun i=>cell_block BW4.out i
   go_wp2_with fail
   refine HCl.out.mono ?_
   rintro E w5 ⟨vn,rfl,ho5,hb5⟩
   obtain⟨an,cn,hvn,-,-⟩:=ho5.row.len
   rw [Hnr.out] at hvn
   subst hvn
   have HB5:=Lib.hid (HB4.out.trans (hb5.mono HB4.out.size))
   have BV5:=Lib.hid (below_block hb5 BV4.out)
   have BW5:=Lib.hid (below_block hb5 BW4.out)
   have MK5:=Lib.hid (MK4.out.belowW hb5)
   have HN5:Hid (∀ b,(Value.slice an nr cn).ownBlock=some b→gw<b):=Lib.hid fun b hb=>by have:=(ho5.at hb).1;omega
   have HO5:Hid (OwnAt (ReqB (OutD (gw+1) w5 (.slice an nr cn)) w5) 3 w5 (gw+1) 97 (.slice an nr cn) (flagL 0 v.reqs)):=Lib.hid (by
    rw [flagL_zero]
    exact (OwnAt.mapL9 (ho5.mono hg4) (fun x=>(x,false)) fun cs x _ ⟨v2,e1,e2,e3⟩=>⟨v2,e1,by obtain⟨a,c,h9,-,-⟩:=e3.row.len;rw [h9];rfl,e2,fun e9=>by cases e9⟩))
   clear cv cw ho5 hb5 HCl HB4 BV4 BW4 MK4 hg4
   obtain⟨w6,hw6⟩:∃ w9,w5.setCell ⟨gw,2,none⟩ (.slice an nr cn)=w9:=⟨_,rfl⟩
   have t1:=touch_setCell (i:=2) (v:=.slice an nr cn) BW5.out
   rw [hw6] at t1
   have cw:=fun i=>cell_block BW5.out i
   have fw:=fun i=>free_block BW5.out i
   have BW6:Hid (w6.heap[gw]? = some (.cells #[.string v.kind,.string v.space,.slice an nr cn,.int .i64 0,.map (some hm)] 153 (0,0))):=Lib.hid t1.1
   have BV6:=Lib.hid (t1.2.block BV5.out (by omega))
   have MK6:=Lib.hid (MK5.out.block (t1.2.other hm (by omega)))
   have HB6:=Lib.hid (t1.2.below HB5.out (by omega))
   have HO6:Hid (OwnAt (ReqB (OutD (gw+1) w6 (.slice an nr cn)) w6) 3 w6 (gw+1) 97 (.slice an nr cn) (flagL 0 v.reqs)):=Lib.hid (by
    have h9:=HO5.out.stay (w':=w6) (famReqB.flat _ _) fun b hb=>t1.2.other b (by have:=HN5.out b hb;omega)
    exact h9.imp' fun cs y hy=>fun ⟨v2,e1,e2,e3,e4⟩=>⟨v2,e1,e2,e3,fun e9=>by
     rw [flagL_zero] at hy
     obtain⟨z,-,rfl⟩:=List.mem_map.1 hy
     cases e9⟩)
   go_upto_region 10 with fail
   try rw [hw6]
   clear t1 hw6 cw fw BW5 BV5 MK5 HB5 HO5
   have cv:=fun i=>cell_block BV6.out i
   go_wp2_with fail
   clear cv
   go_loopg [57] nr (fun k u57 wr=>∃ i:Nat,i+k=nr∧u57=.int .i64 (i:Int)∧Hid (Below w.heap.size w wr)∧Hid (wr.heap[gw]? = some (.cells #[.string v.kind,.string v.space,.slice an nr cn,.int .i64 0,.map (some hm)] 153 (0,0)))∧Hid (MapK keyC wr hm 0 fun _=>none)∧Hid (OwnAt (ReqB (OutD (gw+1) wr (.slice an nr cn)) wr) 3 wr (gw+1) 97 (.slice an nr cn) (flagL i v.reqs)))
   case atStart=>exact⟨0,by omega,rfl,HB6,BW6,MK6,HO6⟩
   case round=>
    clear HB6 BW6 MK6 HO6 BV6
    obtain⟨i,hik,rfl,HB,BW,MK,HO⟩:=hrel
    have hsr:=HB.out.size
    cases gk with
    | zero=>
     obtain rfl:nr=i:=by omega
     have HX:Hid (OwnX ReqX 3 (fun b=>gw<b∧b<wr.heap.size) wr 97 (.slice an nr cn) v.reqs):=Lib.hid (by
      have h9:=HO.out
      rw [←Hnr.out,flagL_all] at h9
      have h8:=OwnAt.mapL9 (R':=ReqX (fun b=>gw<b∧b<wr.heap.size) wr) h9 Prod.fst (fun cs y hy h7=>by
       obtain⟨z,-,rfl⟩:=List.mem_map.1 hy
       obtain⟨v2,e1,-,e3,e4⟩:=h7
       exact⟨v2,e1,(e4 rfl).mono famStr fun b hb=>⟨hb.1,hb.2.1⟩,e3⟩)
      rw [List.map_map,show (Prod.fst ∘ fun x:GReq=>(x,true))=id from rfl,List.map_id] at h8
      rw [Hnr.out] at h8
      exact⟨h8.mono (Nat.zero_le _),fun b hb=>⟨(h8.at hb).1,(h8.at hb).2.1⟩⟩)
     clear HO
     have HHr:=Lib.hid (HH.out.belowX HB.out)
     have hnw:(Lit.int .i64 ((mk:Int)+1)).wf=true:=i64_wfW (by omega) (by omega)
     have cc:=fun i=>cell_block HHr.out.box i
     have fc:=fun i=>free_block HHr.out.box i
     obtain⟨w7,hw7⟩:∃ w9,wr.setCell ⟨gh,2,none⟩ (.int .i64 ((mk:Int)+1))=w9:=⟨_,rfl⟩
     have t1:=touch_setCell (i:=2) (v:=.int .i64 ((mk:Int)+1)) HHr.out.box
     rw [hw7] at t1
     have HH7:Hid (HubAt w7 gh gs om M ((mk:Int)+1) n):=Lib.hid ⟨t1.1,let ⟨m9,f9,h0,h1,h2⟩:=HHr.out.map;⟨m9,f9,h0,h1.block (t1.2.other om hgo),h2⟩⟩
     have hgwr:gw<wr.heap.size:=lt_of_some BW.out
     have hwgw:w.heap.size≤gw:=by omega
     have HW7:Hid (WatchAt w7 gw hm (.slice an nr cn) (fun b=>gw<b∧b<wr.heap.size) v 0 (fun _=>false) 0):=Lib.hid ⟨t1.2.block BW.out (by omega),⟨0,_,Nat.le_refl _,MK.out.block (t1.2.other hm (by omega)),fun _=>rfl⟩,HX.out.agree famReq fun b hb=>t1.2.other b (by have:=hb.1;omega),fun b hb=>⟨by rw [t1.2.size];exact hb.2,by have:=hb.1;omega,by have:=hb.1;omega⟩⟩
     have HO7:Hid (Only (fun b=>b=gh∨b=om) w w7):=Lib.hid (Only.after HB.out (Only.touch (D:=fun b=>b=gh∨b=om) t1.2 (.inl rfl)))
     have hs7:wr.heap.size≤w7.heap.size:=by rw [t1.2.size];exact Nat.le_refl _
     go_upto_region 24 with fail
     try rw [hw7]
     clear t1 hw7 cc fc HHr HX BW MK
     refine wp_region_hold 9 (fun w'=>Below w7.heap.size w7 w') (by kernel_rfl) (by kernel_rfl) ?_ ?_
     ·exact (Below.refl _ w7).drew
     simp only [List.take_succ_cons,List.take_zero,List.drop_succ_cons,List.drop_zero]
     (first | (refine wpHold_pure (v:=?_) (by rfl) (fun w=>?_) ?_;rotate_left;focus (first | (go_simp;done) | (go_simp;with_reducible rfl))) | (refine wpHold_skip ?_ ?_;focus (go_simp;done)) | (refine wpHold_pure' (v:=?_) ?_ (fun w=>?_) ?_;rotate_left;focus (go_simp;done);focus (first | (go_simp;done) | (go_simp;with_reducible rfl))));try simp only [Act.put,List.setIfInBounds_toArray,List.set_cons_zero,List.set_cons_succ]
     (first | (refine wpHold_pure (v:=?_) (by rfl) (fun w=>?_) ?_;rotate_left;focus (first | (go_simp;done) | (go_simp;with_reducible rfl))) | (refine wpHold_skip ?_ ?_;focus (go_simp;done)) | (refine wpHold_pure' (v:=?_) ?_ (fun w=>?_) ?_;rotate_left;focus (go_simp;done);focus (first | (go_simp;done) | (go_simp;with_reducible rfl))));try simp only [Act.put,List.setIfInBounds_toArray,List.set_cons_zero,List.set_cons_succ]
     (first | (refine wpHold_pure (v:=?_) (by rfl) (fun w=>?_) ?_;rotate_left;focus (first | (go_simp;done) | (go_simp;with_reducible rfl))) | (refine wpHold_skip ?_ ?_;focus (go_simp;done)) | (refine wpHold_pure' (v:=?_) ?_ (fun w=>?_) ?_;rotate_left;focus (go_simp;done);focus (first | (go_simp;done) | (go_simp;with_reducible rfl))));try simp only [Act.put,List.setIfInBounds_toArray,List.set_cons_zero,List.set_cons_succ]
     refine wpHold_read (v:=.map (some om)) (by rfl) (fun w' hI=>?_) ?_
     ·have d1:=cell_block (HH7.out.belowX hI).box 1
      go_simp
      done
     try simp only [Act.put,List.setIfInBounds_toArray,List.set_cons_zero,List.set_cons_succ]
     (first | (refine wpHold_pure (v:=?_) (by rfl) (fun w=>?_) ?_;rotate_left;focus (first | (go_simp;done) | (go_simp;with_reducible rfl))) | (refine wpHold_skip ?_ ?_;focus (go_simp;done)) | (refine wpHold_pure' (v:=?_) ?_ (fun w=>?_) ?_;rotate_left;focus (go_simp;done);focus (first | (go_simp;done) | (go_simp;with_reducible rfl))));try simp only [Act.put,List.setIfInBounds_toArray,List.set_cons_zero,List.set_cons_succ]
     (first | (refine wpHold_pure (v:=?_) (by rfl) (fun w=>?_) ?_;rotate_left;focus (first | (go_simp;done) | (go_simp;with_reducible rfl))) | (refine wpHold_skip ?_ ?_;focus (go_simp;done)) | (refine wpHold_pure' (v:=?_) ?_ (fun w=>?_) ?_;rotate_left;focus (go_simp;done);focus (first | (go_simp;done) | (go_simp;with_reducible rfl))));try simp only [Act.put,List.setIfInBounds_toArray,List.set_cons_zero,List.set_cons_succ]
     (first | (refine wpHold_pure (v:=?_) (by rfl) (fun w=>?_) ?_;rotate_left;focus (first | (go_simp;done) | (go_simp;with_reducible rfl))) | (refine wpHold_skip ?_ ?_;focus (go_simp;done)) | (refine wpHold_pure' (v:=?_) ?_ (fun w=>?_) ?_;rotate_left;focus (go_simp;done);focus (first | (go_simp;done) | (go_simp;with_reducible rfl))));try simp only [Act.put,List.setIfInBounds_toArray,List.set_cons_zero,List.set_cons_succ]
     refine wpHold_read (v:=.int .i64 ((mk:Int)+1)) (by rfl) (fun w' hI=>?_) ?_
     ·have d2:=cell_block (HH7.out.belowX hI).box 2
      go_simp
      done
     try simp only [Act.put,List.setIfInBounds_toArray,List.set_cons_zero,List.set_cons_succ]
     (first | (refine wpHold_pure (v:=?_) (by rfl) (fun w=>?_) ?_;rotate_left;focus (first | (go_simp;done) | (go_simp;with_reducible rfl))) | (refine wpHold_skip ?_ ?_;focus (go_simp;done)) | (refine wpHold_pure' (v:=?_) ?_ (fun w=>?_) ?_;rotate_left;focus (go_simp;done);focus (first | (go_simp;done) | (go_simp;with_reducible rfl))));try simp only [Act.put,List.setIfInBounds_toArray,List.set_cons_zero,List.set_cons_succ]
     refine wpHold_nil ?_
     intro w8 hI8
     have HH8:=Lib.hid (HH7.out.belowX hI8)
     have HW8:=Lib.hid (HW7.out.belowX hI8)
     have HO8:=Lib.hid (HO7.out.then hI8)
     clear hI8 HH7 HW7 HO7
     obtain⟨m9,f9,h0,h1,h2⟩:=HH8.out.map
     obtain⟨w9,hrun,hm9,ht9⟩:=MapK.store h1 Tryz.underlying146 (Nat.lt_of_le_of_lt (m:=8) (by omega) (by decide)) ((mk:Int)+1) hnw (.pointer (some ⟨gw,0,none⟩))
     rw [show intC.val ((mk:Int)+1)=.int .i64 ((mk:Int)+1) from rfl] at hrun
     go_upto_region 25 with fail
     have O9:Only (fun b=>b=om) w8 w9:=Only.turned ht9 rfl
     have HB9:=Lib.hid ((O9.block gh HH8.out.lts.1 (Ne.symm hgo)).trans HH8.out.box)
     have HM9:Hid (HubAt w9 gh gs om (fun k=>if k=(mk:Int)+1 then some gw else M k) ((mk:Int)+1) (n+1)):=Lib.hid ⟨HB9.out,m9+1,_,Nat.succ_le_succ h0,hm9,fun k=>by
      unfold updK
      split
      ·rfl
      ·exact h2 k⟩
     have HW9:Hid (WatchAt w9 gw hm (.slice an nr cn) (fun b=>gw<b∧b<wr.heap.size) v 0 (fun _=>false) 0):=Lib.hid (HW8.out.agreeX O9.size fun b hb=>O9.block b (by
      rcases hb with rfl | rfl | hb
      ·exact HW8.out.lts.1
      ·exact HW8.out.lts.2
      ·exact (HW8.out.low b hb).1) (by
      rcases hb with rfl | rfl | hb
      ·omega
      ·omega
      ·have:=hb.1;omega))
     have HO9:Hid (Only (fun b=>b=gh∨b=om) w w9):=Lib.hid (HO8.out.trans O9 fun b hb _=>.inr hb)
     have hoe:oe=0:=Hoe.out.trans (by rfl)
     have cc:=fun i=>cell_block HB9.out i
     clear hrun hm9 ht9 h0 h1 h2 O9 HH8 HW8 HO8 Hoe
     subst hoe
     go_wp2_with fail
     go_ret2
     exact .inr ⟨rfl,gw,hm,_,_,rfl,HM9.out,HW9.out,fun b hb=>(by
      rcases hb with rfl | rfl | hb
      ·omega
      ·omega
      ·have:=hb.1;omega),HO9.out⟩
    | succ k=>
     have hil:i<nr:=by omega
     have hnrb:nr≤1048576:=by rw [←Hnr.out];exact HV.out.reqs.1
     obtain⟨x,hx⟩:∃ x,v.reqs[i]? = some x:=⟨v.reqs[i]'(by rw [Hnr.out];exact hil),List.getElem?_eq_getElem _⟩
     obtain⟨b,o,c',hva,-,-,hbs,hcell⟩:=HR.out.form (by rw [Hnr.out];omega) (by omega)
     injection hva with u1 u2 u3
     subst u1
     clear u2 u3
     obtain⟨ds,-,hcc,vx,rfl,hwf,hsx⟩:=hcell i x hx
     obtain⟨ax,cx,rfl,-,-⟩:=hsx.row.len
     obtain⟨nx,Hnx⟩:∃ n,Hid (x.vals.length=n):=⟨_,Lib.hid rfl⟩
     rw [Hnx.out] at hcc hsx
     have f0:=(HB.out.cell (p:=⟨b,_,none⟩) hbs).trans (hcc 0 _ rfl)
     have f1:=(HB.out.cell (p:=⟨b,_,none⟩) hbs).trans (hcc 1 _ rfl)
     have f2:=(HB.out.cell (p:=⟨b,_,none⟩) hbs).trans (hcc 2 _ rfl)
     rw [Nat.add_zero] at f0
     have q1:(0:Int)≤(i:Int):=by omega
     have q2:(i:Int)<(nr:Int):=by omega
     have Hx:=Lib.hid hx
     have Hxl:Hid (x.vals.length≤1048576):=Lib.hid (HV.out.reqs.2 x (List.mem_of_getElem? hx)).2.1
     have Hsx:=Lib.hid hsx
     have Hwf:=Lib.hid hwf
     have H7:=Lib.hid (heap_alloc_new wr (.cells #[.string {data:=#[]},.int .i64 0,.slice none 0 0] 97))
     have hb4:=Lib.hid ((Below.refl wr.heap.size wr).alloc (Nat.le_refl _) (.cells #[.string {data:=#[]},.int .i64 0,.slice none 0 0] 97))
     have hs4:Hid ((wr.alloc (.cells #[.string {data:=#[]},.int .i64 0,.slice none 0 0] 97)).heap.size=wr.heap.size+1):=Lib.hid (World.size_alloc _ _)
     clear hx hcc hcell hsx hwf
     obtain⟨nb,han⟩:∃ nb,an=some ⟨nb,0,none⟩:=by
      rcases HO.out.form with ⟨-,e9⟩ | ⟨nb,cb,e9,-⟩
      ·have h9:=flagL_len v.reqs i
       rw [e9,Hnr.out] at h9
       have h8:0=nr:=h9
       omega
      ·injection e9 with e9;exact⟨nb,e9⟩
     subst han
     go_wp2_with (refine wpList_store_box (by rfl) _ _ _ (by rfl) wr.heap.size #[.string x.key,.int .i64 x.kind,.slice ax nx cx] (by rfl) (by rfl) _ _ (by exact H7.out) (by exact Tryz.sizeReqW) (by rfl) (by simp [Value.oneCell']) ?_)
     intro wr5 b5 t5
     have hb5:Below wr.heap.size wr wr5:=t5.below hb4.out (Nat.le_refl _)
     have hs5:wr5.heap.size=wr.heap.size+1:=t5.size.trans hs4.out
     obtain⟨gx,hgx⟩:∃ g,wr.heap.size=g:=⟨_,rfl⟩
     have hgxr:wr.heap.size≤gx:=by omega
     rw [hgx] at b5 ⊢
     have hgx5:gx<wr5.heap.size:=by omega
     have BX5:=Lib.hid b5
     have HB5:=Lib.hid (HB.out.trans (hb5.mono HB.out.size))
     have BW5:=Lib.hid (below_block hb5 BW.out)
     have MK5:=Lib.hid (MK.out.belowW hb5)
     have hnbr:nb<wr.heap.size:=(HO.out.at (g:=nb) rfl).2.1
     have hnbw:gw+1≤nb:=(HO.out.at (g:=nb) rfl).1
     have hgnb:gw<nb:=HN5.out nb rfl
     have HO5:Hid (OwnAt (ReqB (OutD (gw+1) wr5 (.slice (some ⟨nb,0,none⟩) nr cn)) wr5) 3 wr5 (gw+1) 97 (.slice (some ⟨nb,0,none⟩) nr cn) (flagL i v.reqs)):=Lib.hid (OutX.belowX famReqB HO.out hb5)
     have HSx:Hid (StrAt wr5 (.slice ax nx cx) x.vals):=Lib.hid ((Hsx.out.below HB.out).below hb5)
     have hgw5:gw<wr5.heap.size:=lt_of_some BW5.out
     have hq5:(i:Int)<(nr:Int):=by omega
     have hq6:(0:Int)≤(i:Int):=by omega
     clear b5 t5 hb5 hb4 hs4 H7 HB BW MK HO f0 f1 f2 hgx hs5 q1 q2
     go_upto_region 13 with fail
     refine wp_region_relB 11 (fun ii U w'=>match ii with
      | 0=>U 0=.pointer (some ⟨gw,0,none⟩)
      | 1=>U 1=.pointer (some ⟨gw,0,none⟩)
      | 2=>U 2=.pointer (some ⟨gw,0,none⟩)
      | 3=>U 3=.pointer (some ⟨gw,2,none⟩)
      | 4=>U 4=.slice (some ⟨nb,0,none⟩) nr cn
      | 5=>U 5=.int .i64 (i:Int)
      | 6=>U 6=.pointer (some ⟨gx,2,none⟩)
      | 7=>U 7=.slice ax nx cx
      | 8=>OwnAt RString 1 w' wr5.heap.size 9 (U 8) x.vals
      | 9=>U 9=.pointer (some ⟨nb,i*3,none⟩)
      | 10=>U 10=.pointer (some ⟨nb,i*3+2,none⟩)
      | _=>True)
      (fun | 1=>[0] | 2=>[1] | 3=>[2] | 4=>[3] | 7=>[6] | 8=>[7] | 9=>[4,5] | 10=>[9] | _=>[]) (by kernel_rfl) (by kernel_rfl) ?_ ⟨?_,?_,?_,?_,?_,?_,?_,?_,?_,?_,?_,trivial⟩ ?_
     ·intro j u w1 w2 hb h
      match j,h with
      | 0,h=>exact h
      | 1,h=>exact h
      | 2,h=>exact h
      | 3,h=>exact h
      | 4,h=>exact h
      | 5,h=>exact h
      | 6,h=>exact h
      | 7,h=>exact h
      | 8,h=>exact OwnAt.below stays_string h hb
      | 9,h=>exact h
      | 10,h=>exact h
      | _+11,h=>trivial
     ·intro y w' hb hd
      have hb6:Below wr5.heap.size wr5 w':=(Below.refl wr5.heap.size wr5).drew.trans hb
      refine owes_here (.pointer (some ⟨gw,0,none⟩)) (by rfl) ?_ rfl
      simp only [putAll,List.take_succ_cons,List.take_zero]
      go_simp
     ·intro y w' hb hd
      have hb6:Below wr5.heap.size wr5 w':=(Below.refl wr5.heap.size wr5).drew.trans hb
      have h0:y 0=.pointer (some ⟨gw,0,none⟩):=hd 0 (by simp)
      refine owes_here (.pointer (some ⟨gw,0,none⟩)) (by rfl) ?_ rfl
      simp only [putAll,List.take_succ_cons,List.take_zero]
      go_simp
     ·intro y w' hb hd
      have hb6:Below wr5.heap.size wr5 w':=(Below.refl wr5.heap.size wr5).drew.trans hb
      have h1:y 1=.pointer (some ⟨gw,0,none⟩):=hd 1 (by simp)
      refine owes_here (.pointer (some ⟨gw,0,none⟩)) (by rfl) ?_ rfl
      simp only [putAll,List.take_succ_cons,List.take_zero]
      go_simp
     ·intro y w' hb hd
      have hb6:Below wr5.heap.size wr5 w':=(Below.refl wr5.heap.size wr5).drew.trans hb
      have h2:y 2=.pointer (some ⟨gw,0,none⟩):=hd 2 (by simp)
      refine owes_here (.pointer (some ⟨gw,2,none⟩)) (by rfl) ?_ rfl
      simp only [putAll,List.take_succ_cons,List.take_zero]
      go_simp
     ·intro y w' hb hd
      have hb6:Below wr5.heap.size wr5 w':=(Below.refl wr5.heap.size wr5).drew.trans hb
      have h3:y 3=.pointer (some ⟨gw,2,none⟩):=hd 3 (by simp)
      have d0:=(hb6.cell (p:=⟨gw,2,none⟩) hgw5).trans (cell_block BW5.out 2)
      refine owes_here (.slice (some ⟨nb,0,none⟩) nr cn) (by rfl) ?_ rfl
      simp only [putAll,List.take_succ_cons,List.take_zero]
      go_simp
     ·intro y w' hb hd
      have hb6:Below wr5.heap.size wr5 w':=(Below.refl wr5.heap.size wr5).drew.trans hb
      refine owes_here (.int .i64 (i:Int)) (by rfl) ?_ rfl
      simp only [putAll,List.take_succ_cons,List.take_zero]
      go_simp
     ·intro y w' hb hd
      have hb6:Below wr5.heap.size wr5 w':=(Below.refl wr5.heap.size wr5).drew.trans hb
      refine owes_here (.pointer (some ⟨gx,2,none⟩)) (by rfl) ?_ rfl
      simp only [putAll,List.take_succ_cons,List.take_zero]
      go_simp
     ·intro y w' hb hd
      have hb6:Below wr5.heap.size wr5 w':=(Below.refl wr5.heap.size wr5).drew.trans hb
      have h6:y 6=.pointer (some ⟨gx,2,none⟩):=hd 6 (by simp)
      have d0:=(hb6.cell (p:=⟨gx,2,none⟩) hgx5).trans (cell_block BX5.out 2)
      refine owes_here (.slice ax nx cx) (by rfl) ?_ rfl
      simp only [putAll,List.take_succ_cons,List.take_zero]
      go_simp
     ·intro y w' hb hd
      have hb6:Below wr5.heap.size wr5 w':=(Below.refl wr5.heap.size wr5).drew.trans hb
      have h7:y 7=.slice ax nx cx:=hd 7 (by simp)
      refine owes_call 78 #[.slice ax nx cx] (by rfl) ?_ ((cloneStrs_any (.slice ax nx cx) x.vals w' (HSx.out.below hb6) (Nat.le_trans Hxl.out (by decide))).mono ?_)
      ·simp only [putAll,List.take_succ_cons,List.take_zero]
       go_simp
      ·rintro _ w2 ⟨v2,rfl,ho,hb3⟩
       exact⟨v2,rfl,ho.mono hb6.size,hb3⟩
     ·intro y w' hb hd
      have hb6:Below wr5.heap.size wr5 w':=(Below.refl wr5.heap.size wr5).drew.trans hb
      have h4:y 4=.slice (some ⟨nb,0,none⟩) nr cn:=hd 4 (by simp)
      have h5:y 5=.int .i64 (i:Int):=hd 5 (by simp)
      refine owes_here (.pointer (some ⟨nb,i*3,none⟩)) (by rfl) ?_ rfl
      simp only [putAll,List.take_succ_cons,List.take_zero]
      go_simp
     ·intro y w' hb hd
      have hb6:Below wr5.heap.size wr5 w':=(Below.refl wr5.heap.size wr5).drew.trans hb
      have h9:y 9=.pointer (some ⟨nb,i*3,none⟩):=hd 9 (by simp)
      refine owes_here (.pointer (some ⟨nb,i*3+2,none⟩)) (by rfl) ?_ rfl
      simp only [putAll,List.take_succ_cons,List.take_zero]
      go_simp
     intro y w' hb hR
     have hb6:Below wr5.heap.size wr5 w':=(Below.refl wr5.heap.size wr5).drew.trans hb
     have h8:OwnAt RString 1 w' wr5.heap.size 9 (y 8) x.vals:=hR 8 (by omega)
     have h10:y 10=.pointer (some ⟨nb,i*3+2,none⟩):=hR 10 (by omega)
     obtain⟨ay,cy,hy8,-,-⟩:=h8.row.len
     rw [Hnx.out] at hy8
     rw [hy8] at h8
     obtain⟨wq,hwq⟩:∃ wq,w'=wq:=⟨_,rfl⟩
     rw [hwq] at hb6 h8 ⊢
     clear hwq
     have HY:=Lib.hid h8
     have HBq:=Lib.hid (HB5.out.trans (hb6.mono HB5.out.size))
     have BWq:=Lib.hid (below_block hb6 BW5.out)
     have MKq:=Lib.hid (MK5.out.belowW hb6)
     have HOq:Hid (OwnAt (ReqB (OutD (gw+1) wq (.slice (some ⟨nb,0,none⟩) nr cn)) wq) 3 wq (gw+1) 97 (.slice (some ⟨nb,0,none⟩) nr cn) (flagL i v.reqs)):=Lib.hid (OutX.belowX famReqB HO5.out hb6)
     have hsq:=hb6.size
     clear hb hR hb6 h8 HB5 BW5 MK5 HO5 BX5 HSx hgw5
     simp only [putAll,List.take_succ_cons,List.take_zero,List.drop_succ_cons,List.drop_zero]
     rw [h10,hy8]
     clear h10 hy8
     try simp only [Act.put,List.setIfInBounds_toArray,List.set_cons_zero,List.set_cons_succ]
     obtain⟨hj1,hj2⟩:=flagL_at v.reqs i x Hx.out
     obtain⟨gg',oo',cc',hvv,-,-,hgs',hcell⟩:=HOq.out.row.form (by rw [flagL_len,Hnr.out];omega) (by omega)
     injection hvv with u1 u2 u3
     cases u1
     obtain⟨ds,-,hcc,v9,rfl,hone,hwf9,-⟩:=hcell i (x,false) hj1
     have f2:wq.cell? ⟨nb,i*3+2,none⟩=some v9:=by have h9:=hcc 2 _ rfl;simpa using h9
     obtain⟨_,_,cur,hblk⟩:=HOq.out.at rfl
     have fz:=fun i=>free_block hblk i
     obtain⟨w7,hw7⟩:∃ w9,wq.setCell ⟨nb,i*3+2,none⟩ (.slice ay nx cy)=w9:=⟨_,rfl⟩
     obtain⟨o7,t7⟩:=OwnAt.store (famReqB.flat _ _) HOq.out hj1 (i:=2) (by omega) (.slice ay nx cy) (x':=(x,true)) (by
      rintro cs ⟨v2,rfl,-,e3,-⟩
      exact⟨_,rfl,rfl,e3,fun _=>OwnX.ofFlat HY.out fun b hb=>⟨by have:=(HY.out.at hb).1;omega,(HY.out.at hb).2.1,fun e9=>by have e8:nb=b:=Option.some.inj e9;have:=(HY.out.at hb).1;omega⟩⟩)
     rw [hw7] at o7 t7
     rw [hj2] at o7
     have HO7:Hid (OwnAt (ReqB (OutD (gw+1) w7 (.slice (some ⟨nb,0,none⟩) nr cn)) w7) 3 w7 (gw+1) 97 (.slice (some ⟨nb,0,none⟩) nr cn) (flagL (i+1) v.reqs)):=Lib.hid (o7.imp' fun cs y _ h9=>famReqB.mono _ _ _ _ _ _ (fun b hb=>⟨hb.1,by rw [t7.size];exact hb.2.1,hb.2.2⟩) (famReqB.agree _ _ _ _ _ _ (fun b hb=>t7.other b fun e9=>hb.2.2 (by rw [e9];rfl)) h9))
     have HB7:=Lib.hid (t7.below HBq.out (by omega))
     have BW7:=Lib.hid (t7.block BWq.out (by omega))
     have MK7:=Lib.hid (MKq.out.block (t7.other hm (by omega)))
     clear o7 t7 hblk hcc hcell hj1 hj2 HOq HBq BWq MKq u2 u3 hgs'
     go_wp2_with fail
     try rw [hw7]
     go_roundg k
     case measure=>omega
     case rel=>exact⟨i+1,by omega,by go_num,HB7,BW7,MK7,HO7⟩
  ·have hoe:oe=k2:=Hoe.out.trans (if_pos rfl)
   have q1:(k2 == 0)=false:=by rw [beq_eq_false_iff_ne];exact h2
   have q2:(k2 != 0)=true:=by rw [bne_iff_ne];exact h2
   clear Hoe
   subst hoe
   have H2:=Lib.hid h2
   clear h2
   go_wp2_with fail
   go_ret2
   exact .inl ⟨H2.out,rfl,HB3.out⟩
 ·have hoe:oe=k1:=Hoe.out.trans (if_neg h1)
  have q1:(k1 == 0)=false:=by rw [beq_eq_false_iff_ne];exact h1
  have q2:(k1 != 0)=true:=by rw [bne_iff_ne];exact h1
  clear Hoe
  subst hoe
  have H2:=Lib.hid h1
  clear h1
  go_wp2_with fail
  go_ret2
  exact .inl ⟨H2.out,rfl,HB2.out⟩
end Sto
end Go.Proofs.YtnnceaapodgfbaaGreatDoor
