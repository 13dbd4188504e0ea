/- Texts of ours joined. -/
import Derived.Deep.LoopGhost
import Derived.Laws.StructEq
import Derived.WalkSpells
import Derived.Deep.DeepCutAuto
import Derived.Test.YtnnceaapodgfbaaGreatDoorAz7
set_option linter.unusedVariables false
set_option linter.unusedSimpArgs false
namespace Go.Proofs.YtnnceaapodgfbaaGreatDoor
namespace Sto
open Go.RowKit
structure Home (w0:World) (D:Dom) (w:World):Prop where
 tab:TabOK w0
 max:∃ m,MaxOK m w0
 bel:Below w0.heap.size w0 w
 own:∀ b,D b→w0.heap.size≤b
theorem Home.only {w0 w w':World} {D D':Dom} (h:Home w0 D w) (hO:Only D w w') (hD:∀ b,D' b→D b∨w.heap.size≤b):Home w0 D' w':=
 ⟨h.tab,h.max,h.bel.trans (hO.below h.own h.bel.size),fun b hb=>(hD b hb).elim (h.own b) fun h9=>by have:=h.bel.size;omega⟩
theorem Home.below {w0 w w':World} {D:Dom} (h:Home w0 D w) (hb:Below w.heap.size w w'):Home w0 D w':=h.only (Only.of hb) fun _ h=>.inl h
theorem Home.tabs {w0 w:World} {D:Dom} (h:Home w0 D w):TabOK w:=h.tab.below h.bel
theorem Home.maxs {w0 w:World} {D:Dom} (h:Home w0 D w):∃ m,MaxOK m w:=let ⟨m,hm⟩:=h.max;⟨m,hm.below h.bel⟩
def Did (D:Dom) (w:World) (g:Nat) (T:Told) (e:Ending) (w':World):Prop:=
 ∃ D' E u1 u2 u3,e=.returned (.tuple #[objW T.2.1 u1 u2 u3,.int .i64 T.2.2])∧StoreAt D' w' g T.1∧ObjIn E w' u1 u2 u3 T.2.1∧(∀ b,E b→w.heap.size≤b∧b<w'.heap.size∧¬D' b)∧(∀ b,D' b→D b∨w.heap.size≤b)∧Only D w w'
theorem objIn_no (w:World):ObjIn (fun _=>False) w nilS nilS nilS noObj:=⟨OwnX.nil,OwnX.nil,OwnX.nil⟩
theorem did_no {D:Dom} {w w':World} {g:Nat} {S:St} {er:Int} (h:StoreAt D w g S) (hb:Below w.heap.size w w') {T:Told} (hT:T=(S,noObj,er)):Did D w g T (.returned (.tuple #[.agg noA,.int .i64 er])) w':=by
 subst hT
 exact⟨D,fun _=>False,nilS,nilS,nilS,rfl,h.belowW hb,objIn_no _,fun b hb=>hb.elim,fun b hb=>.inl hb,Only.of hb⟩
theorem put_did {D M I J:Dom} {w w7 w8 w9:World} {g mb nn gr:Nat} {f:GKey→Option Value} {vlog:Value} {S:St} {kind:Int} {o:GObject} (h:StoreIn M I w g mb nn f vlog S) (hD:∀ b,D b↔M b∨I b) (hb7:Below w.heap.size w w7) (hgr:w.heap.size≤gr∧gr<w7.heap.size) (hJ:∀ b,J b→I b∨(w.heap.size≤b∧b≠gr∧b<w7.heap.size))
  {E:Dom} {u1 u2 u3:Value} {M':Dom} {n':Nat} {f':GKey→Option Value} {vlog':Value} (p1:ObjIn E w8 u1 u2 u3 (putO (S.rev+1) kind o)) (p2:∀ b,E b→w7.heap.size≤b∧b<w8.heap.size) (p3:StoreIn M' (fun b=>I b∨J b) w8 g mb n' f' vlog' (put S kind o)) (p4:∀ b,M' b→M b∨(w7.heap.size≤b∧¬E b)) (p5:Only M w7 w8) (t9:Touch gr w8 w9) :
  Did D w g (doPut S kind o) (.returned (.tuple #[objW (putO (S.rev+1) kind o) u1 u2 u3,.int .i64 0])) w9:=by
 have s7:=hb7.size
 have s8:=p5.size
 have s9:=t9.size
 have hlow:=h.low
 refine⟨fun b=>M' b∨I b∨J b,E,u1,u2,u3,rfl,⟨M',fun b=>I b∨J b,mb,n',f',vlog',p3.agree (fun b hb=>t9.other b fun e=>?_) (by omega),fun b=>Iff.rfl⟩,p1.agree fun b hb=>t9.other b fun e=>by have:=(p2 b hb).1;omega,fun b hb=>⟨by have:=(p2 b hb).1;omega,by have:=(p2 b hb).2;omega,fun h9=>?_⟩,fun b hb=>?_,?_⟩
 ·subst e
  rcases hb with hb | hb | hb
  ·rcases p4 b hb with h1 | h1
   ·have:=hlow b (.inl h1);omega
   ·omega
  ·have:=hlow b (.inr hb);omega
  ·rcases hJ b hb with h1 | h1
   ·have:=hlow b (.inr h1);omega
   ·exact h1.2.1 rfl
 ·have he:=p2 b hb
  rcases h9 with h9 | h9 | h9
  ·rcases p4 b h9 with h1 | h1
   ·have:=hlow b (.inl h1);omega
   ·exact h1.2 hb
  ·have:=hlow b (.inr h9);omega
  ·rcases hJ b h9 with h1 | h1
   ·have:=hlow b (.inr h1);omega
   ·omega
 ·rcases hb with hb | hb | hb
  ·rcases p4 b hb with h1 | h1
   ·exact .inl ((hD b).2 (.inl h1))
   ·exact .inr (by omega)
  ·exact .inl ((hD b).2 (.inr hb))
  ·rcases hJ b hb with h1 | h1
   ·exact .inl ((hD b).2 (.inr h1))
   ·exact .inr h1.1
 ·have x1:Only D w w8:=Only.after hb7 (p5.mono fun b hb=>(hD b).2 (.inl hb))
  exact x1.trans (Only.touch (D:=fun b=>b=gr) t9 rfl) fun b hb hl=>by omega
theorem results_two_obj {fn:Func} {p q:Tmp} (h:fn.results=#[.cell p 30,.tmp q]) (tmps:Array Value) (w:World) (g:Nat) (cs:Array Value) (hp:tmps.getD p undef=.pointer (some ⟨g,0,none⟩)) (hg:w.heap[g]? = some (.cells cs 30 (0,0))) (hs:cs.size=10) :
  (results fn tmps).run Tryz.prog w=.ok (.tuple #[.agg cs,tmps.getD q undef]) w:=
 results_two_box h tmps w g _ cs (0,0) _ hp hg Tryz.underlying30 rfl (by rw [hs];exact Tryz.sizeObj)
theorem okObj_kept {o:GObject} (h:OkObj o):OkObj (keptO o):=
 ⟨h.kind,h.space,h.name,h.labels,h.owners,h.holds,by show (0:Nat)≤_;omega,h.rev,by
  show (mkB _).size≤_
  rw [mkB_size]
  have:=JP.canonT_le o.doc.data.toList
  omega⟩
theorem okKey_of {o:GObject} (h:OkObj o):okKey o.okey:=⟨by have:=h.kind;unfold maxLen;omega,by have:=h.space;unfold maxLen;omega,by have:=h.name;unfold maxLen;omega⟩
theorem cur_mem {l:List GEvent} {k:GKey} {o:GObject} (h:cur l k=some o):∃ e∈l,e.object=o:=by
 unfold cur at h
 cases hg:(hits l k).getLast? with
 | none=>rw [hg] at h;cases h
 | some e=>
  rw [hg] at h
  dsimp only at h
  split at h
  ·cases h
  ·cases h
   have:=List.mem_of_getLast? hg
   unfold hits at this
   exact⟨e,(List.mem_filter.1 this).1,rfl⟩
theorem live_low {S:St} (h:Good S) : -4194304≤live S.log∧live S.log≤4194304:=by
 have h1:=h.full
 have h2:=live_keys h.fitAll [] List.nodup_nil (fun _ h=>by cases h)
 have h3:(([]:List GKey).length:Int)=0:=rfl
 omega
set_option maxRecDepth 100000 in
set_option maxHeartbeats 6400000 in
theorem create_any {D:Dom} {w0 w:World} {g:Nat} {S:St} (h:StoreAt D w g S) (hH:Home w0 D w) (hS:OkSt S) (hrv:S.rev≤4194303) (o:GObject) (v1 v2 v3:Value) (hl:RowAt LabelR 2 w v1 o.labels) (ho:StrAt w v2 o.owners) (hh:StrAt w v3 o.holds) (hok:OkObj o) :
  Calls Tryz.prog 60 #[.pointer (some ⟨g,0,none⟩),objW o v1 v2 v3] w (Did D w g (create S o)):=by
 obtain⟨M,I,mb,nn,f,vlog,hin,hD⟩:=h
 obtain⟨a1,c1,rfl,-,-⟩:=hl.len
 obtain⟨a2,c2,rfl,-,-⟩:=ho.row.len
 obtain⟨a3,c3,rfl,-,-⟩:=hh.row.len
 obtain⟨n1,Hn1⟩:∃ n,Hid (o.labels.length=n):=⟨_,Lib.hid rfl⟩
 obtain⟨n2,Hn2⟩:∃ n,Hid (o.owners.length=n):=⟨_,Lib.hid rfl⟩
 obtain⟨n3,Hn3⟩:∃ n,Hid (o.holds.length=n):=⟨_,Lib.hid rfl⟩
 rw [Hn1.out] at hl
 rw [Hn2.out] at ho
 rw [Hn3.out] at hh
 rw [Hn1.out,Hn2.out,Hn3.out]
 obtain⟨er,Her⟩:∃ x,Hid (objE o=x):=⟨_,Lib.hid rfl⟩
 obtain⟨T,HT⟩:∃ T,Hid (create S o=T):=⟨_,Lib.hid rfl⟩
 rw [HT.out]
 have HIn:=Lib.hid hin
 have HD:=Lib.hid hD
 have HH:=Lib.hid hH
 have HS:=Lib.hid hS
 have Hok:=Lib.hid hok
 obtain⟨w1,hw1⟩:∃ w1,w1=(w.alloc (.cells #[.string o.okey.kind,.string o.okey.space,.string o.okey.name,.slice a1 n1 c1,.slice a2 n2 c2,.slice a3 n3 c3,.bool o.ending,.string o.uid,.int .i64 o.rev,.string o.doc] 30)).alloc (.cells noA 30):=⟨_,rfl⟩
 obtain⟨gb,hgb⟩:∃ gb,gb=w.heap.size:=⟨_,rfl⟩
 obtain⟨gr,hgr⟩:∃ gr,gr=w.heap.size+1:=⟨_,rfl⟩
 have B1:Hid (w1.heap[gb]? = some (.cells #[.string o.okey.kind,.string o.okey.space,.string o.okey.name,.slice a1 n1 c1,.slice a2 n2 c2,.slice a3 n3 c3,.bool o.ending,.string o.uid,.int .i64 o.rev,.string o.doc] 30 (0,0))):=Lib.hid (by rw [hw1,hgb];exact heap_alloc_old (heap_alloc_new w _))
 have R1:Hid (w1.heap[gr]? = some (.cells noA 30 (0,0))):=Lib.hid (by rw [hw1,hgr];exact heap_alloc_at (World.size_alloc _ _).symm)
 have hb1:Below w.heap.size w w1:=by rw [hw1];exact ((Below.refl _ w).alloc (Nat.le_refl _) _).alloc (by rw [World.size_alloc];omega) _
 have hs1:w1.heap.size=w.heap.size+2:=by rw [hw1,World.size_alloc,World.size_alloc]
 have Hb1:=Lib.hid hb1
 have hne:gb≠gr:=by omega
 have hwb:w.heap.size≤gb:=by omega
 have hwr:w.heap.size≤gr:=by omega
 have hrl:gr<w.heap.size+2:=by omega
 have hbl:gb<w.heap.size+2:=by omega
 have HC:=Lib.hid (checkObj_any o (.slice a1 n1 c1) (.slice a2 n2 c2) (.slice a3 n3 c3) w1 (hl.below stays_label hb1) (ho.below hb1) (hh.below hb1) hok (hH.below hb1).tabs (hH.below hb1).maxs)
 rw [Her.out,show objW o (.slice a1 n1 c1) (.slice a2 n2 c2) (.slice a3 n3 c3)=.agg #[.string o.okey.kind,.string o.okey.space,.string o.okey.name,.slice a1 n1 c1,.slice a2 n2 c2,.slice a3 n3 c3,.bool o.ending,.string o.uid,.int .i64 o.rev,.string o.doc] from rfl] at HC
 have HL:=Lib.hid hl
 have HO:=Lib.hid ho
 have HHh:=Lib.hid hh
 have hgl:=hin.low g (.inl hin.gM)
 clear hl ho hh hok hb1 hin hD hH hS
 rw [show objW o (.slice a1 n1 c1) (.slice a2 n2 c2) (.slice a3 n3 c3)=.agg #[.string o.okey.kind,.string o.okey.space,.string o.okey.name,.slice a1 n1 c1,.slice a2 n2 c2,.slice a3 n3 c3,.bool o.ending,.string o.uid,.int .i64 o.rev,.string o.doc] from rfl]
 go_enter Tryz.func60,Tryz.ntmps60
 go_upto_region 1 with fail
 have hex:((w.alloc (.cells #[.string o.okey.kind,.string o.okey.space,.string o.okey.name,.slice a1 n1 c1,.slice a2 n2 c2,.slice a3 n3 c3,.bool o.ending,.string o.uid,.int .i64 o.rev,.string o.doc] 30)).alloc (.cells #[.string {data:=#[]},.string {data:=#[]},.string {data:=#[]},.slice none 0 0,.slice none 0 0,.slice none 0 0,.bool false,.string {data:=#[]},.int .i64 0,.string {data:=#[]}] 30))=w1:=hw1.symm
 rw [hex]
 try rw [←hgr]
 rw [←hgb]
 clear hw1 hex hgb hgr
 have cc:=fun i=>cell_block B1.out i
 go_wp2_with fail
 refine HC.out.mono ?_
 rintro E w2 ⟨rfl,hb2⟩
 have B2:=Lib.hid (below_block hb2 B1.out)
 have R2:=Lib.hid (below_block hb2 R1.out)
 have Hb2:=Lib.hid (Hb1.out.trans (hb2.mono (by omega)))
 have hs2:=hb2.size
 clear hb2 HC cc B1 R1
 by_cases her:er=0
 ·subst her
  have cc:=fun i=>cell_block B2.out i
  have HLa:=Lib.hid (last_any (HIn.out.belowW Hb2.out) o.okey (okKey_of Hok.out) HS.out.rev)
  go_wp2_with fail
  refine HLa.out.mono ?_
  rintro E w3 ⟨hb3,hlast⟩
  have B3:=Lib.hid (below_block hb3 B2.out)
  have R3:=Lib.hid (below_block hb3 R2.out)
  have Hb3:=Lib.hid (Hb2.out.trans (hb3.mono (by omega)))
  have hs3:=hb3.size
  clear hb3 cc B2 R2 HLa
  rcases hlast with ⟨hc,rfl⟩ | ⟨was,v1',v2',v3',hc,rfl,hwo⟩
  ·have Hc:=Lib.hid hc
   have hT0:=HT.out
   unfold create at hT0
   rw [Her.out,if_neg (fun h=>h rfl),Hc.out,if_neg (by decide)] at hT0
   have HT0:=Lib.hid hT0.symm
   rw [show noW=.agg noA from rfl]
   clear hc HT hT0
   obtain⟨g7,hg7⟩:∃ g7,g7=w3.heap.size:=⟨_,rfl⟩
   have H7:=Lib.hid (heap_alloc_new w3 (.cells noA 30))
   have Hb4:=Lib.hid (Hb3.out.alloc (by omega) (.cells noA 30))
   have B4:=Lib.hid (below_block ((Below.refl _ w3).alloc (Nat.le_refl _) (.cells noA 30)) B3.out)
   have R4:=Lib.hid (below_block ((Below.refl _ w3).alloc (Nat.le_refl _) (.cells noA 30)) R3.out)
   have hs4:(w3.alloc (.cells noA 30)).heap.size=w3.heap.size+1:=World.size_alloc _ _
   have hg3:=hg7
   clear hg3
   go_wp2_with (refine wpList_store_box (by rfl) _ _ _ (by rfl) w3.heap.size noA (by rfl) (by rfl) _ _ (by exact H7.out) (by exact Tryz.sizeObj) (by rfl) (by simp [Value.oneCell',noA]) ?_)
   intro w5 b5 t5
   have Z5:=Lib.hid b5
   have B5:=Lib.hid (t5.block B4.out (by omega))
   have R5:=Lib.hid (t5.block R4.out (by omega))
   have Hb5:=Lib.hid (t5.below Hb4.out (by omega))
   have hs5:w5.heap.size=w3.heap.size+1:=t5.size.trans hs4
   clear b5 t5 hs4 H7 B4 R4 Hb4 hg7
   have hbx:=(HIn.out.belowW Hb5.out).box
   have cg:=fun i=>cell_block hbx i
   obtain⟨lv,Hlv⟩:∃ lv,Hid (live S.log=lv):=⟨_,Lib.hid rfl⟩
   rw [Hlv.out] at cg HT0
   clear hbx Z5
   by_cases h60:lv=60
   ·subst h60
    have HT1:Hid (T=(S,noObj,22)):=Lib.hid (by rw [HT0.out,if_pos rfl])
    clear HT0
    go_wp2_with (refine wpList_store_box (by rfl) _ _ _ (by rfl) gr noA (by rfl) (by rfl) _ _ (by exact R5.out) (by exact Tryz.sizeObj) (by rfl) (by simp [Value.oneCell',noA]) ?_)
    intro WF bF tF
    have BF:=Lib.hid bF
    have HF:=Lib.hid (tF.below Hb5.out hwr)
    clear bF tF
    go_wp2_with fail
    refine bodyPost_ret (v:=.tuple #[.agg noA,.int .i64 22]) ?_ rfl ?_
    ·exact results_two_obj Tryz.results60 _ _ gr _ (by rfl) BF.out rfl
    ·exact did_no ⟨M,I,mb,nn,f,vlog,HIn.out,HD.out⟩ HF.out (HT1.out)
   ·have q60:(lv == 60)=false:=by rw [beq_eq_false_iff_ne];exact h60
    have HTE:Hid (T=doPut S 1 {keptO o with ending:=false}):=Lib.hid (by rw [HT0.out,if_neg h60])
    clear h60 HT0
    have cc:=fun i=>cell_block B5.out i
    have HK:=Lib.hid (kept_any o (.slice a1 n1 c1) (.slice a2 n2 c2) (.slice a3 n3 c3) w5 (by rw [←Hn1.out];rw [Hn1.out];exact HL.out.below stays_label Hb5.out) (HO.out.below Hb5.out) (HHh.out.below Hb5.out) Hok.out (HH.out.below Hb5.out).tabs)
    rw [show objW o (.slice a1 n1 c1) (.slice a2 n2 c2) (.slice a3 n3 c3)=.agg #[.string o.okey.kind,.string o.okey.space,.string o.okey.name,.slice a1 n1 c1,.slice a2 n2 c2,.slice a3 n3 c3,.bool o.ending,.string o.uid,.int .i64 o.rev,.string o.doc] from rfl] at HK
    go_wp2_with fail
    refine HK.out.mono ?_
    rintro E w6 ⟨EK,x1,x2,x3,rfl,ko,kE,hb6⟩
    obtain⟨d1,e1,rfl,-,-⟩:=ko.labels.own.row.len
    obtain⟨d2,e2,rfl,-,-⟩:=ko.owners.own.row.len
    obtain⟨d3,e3,rfl,-,-⟩:=ko.holds.own.row.len
    obtain⟨m1,Hm1⟩:∃ n,Hid ((keptO o).labels.length=n):=⟨_,Lib.hid rfl⟩
    obtain⟨m2,Hm2⟩:∃ n,Hid ((keptO o).owners.length=n):=⟨_,Lib.hid rfl⟩
    obtain⟨m3,Hm3⟩:∃ n,Hid ((keptO o).holds.length=n):=⟨_,Lib.hid rfl⟩
    rw [Hm1.out,Hm2.out,Hm3.out] at ko ⊢
    have KO:=Lib.hid ko
    have KE:=Lib.hid kE
    have B6:=Lib.hid (below_block hb6 B5.out)
    have R6:=Lib.hid (below_block hb6 R5.out)
    have Hb6:=Lib.hid (Hb5.out.trans (hb6.mono (by omega)))
    have hs6:=hb6.size
    clear ko kE hb6 cc HK B5 R5
    obtain⟨K,HK⟩:∃ K,Hid (keptO o=K):=⟨_,Lib.hid rfl⟩
    rw [HK.out] at KO ⊢
    rw [show objW K (.slice d1 m1 e1) (.slice d2 m2 e2) (.slice d3 m3 e3)=.agg #[.string K.okey.kind,.string K.okey.space,.string K.okey.name,.slice d1 m1 e1,.slice d2 m2 e2,.slice d3 m3 e3,.bool K.ending,.string K.uid,.int .i64 K.rev,.string K.doc] from rfl]
    go_wp2_with (refine wpList_store_box (by rfl) _ _ _ (by rfl) gb #[.string K.okey.kind,.string K.okey.space,.string K.okey.name,.slice d1 m1 e1,.slice d2 m2 e2,.slice d3 m3 e3,.bool K.ending,.string K.uid,.int .i64 K.rev,.string K.doc] (by rfl) (by rfl) _ _ (by exact B6.out) (by exact Tryz.sizeObj) (by rfl) (by simp [Value.oneCell']) ?_)
    intro w7 b7 t7
    have B7:=Lib.hid b7
    have R7:=Lib.hid (t7.block R6.out (Ne.symm hne))
    have Hb7:=Lib.hid (t7.below Hb6.out hwb)
    have hs7:=t7.size
    have KO7:=Lib.hid (KO.out.agree fun b hb=>t7.other b fun e=>by have:=(KE.out b hb).1;omega)
    clear b7 t7 B6 R6 KO
    have fb:=fun i=>free_block B7.out i
    have cb:=fun i=>cell_block B7.out i
    obtain⟨w8,hw8⟩:∃ w8,w7.setCell ⟨gb,6,none⟩ (.bool false)=w8:=⟨_,rfl⟩
    have t1:=touch_setCell (i:=6) (v:=.bool false) B7.out
    rw [hw8] at t1
    have B8:Hid (w8.heap[gb]? = some (.cells #[.string K.okey.kind,.string K.okey.space,.string K.okey.name,.slice d1 m1 e1,.slice d2 m2 e2,.slice d3 m3 e3,.bool false,.string K.uid,.int .i64 K.rev,.string K.doc] 30 (0,0))):=Lib.hid t1.1
    have R8:=Lib.hid (t1.2.block R7.out (Ne.symm hne))
    have Hb8:=Lib.hid (t1.2.below Hb7.out hwb)
    have hs8:=t1.2.size
    have KO8:=Lib.hid (KO7.out.agree fun b hb=>t1.2.other b fun e=>by have:=(KE.out b hb).1;omega)
    go_upto_region 11 with fail
    try rw [hw8]
    clear t1 hw8 fb cb B7 R7 Hb7 KO7
    obtain⟨O,HOe⟩:∃ O:GObject,Hid (O = {K with ending:=false}):=⟨_,Lib.hid rfl⟩
    have KO9:Hid (ObjIn EK w8 (.slice d1 m1 e1) (.slice d2 m2 e2) (.slice d3 m3 e3) O):=Lib.hid (by rw [HOe.out];exact KO8.out.other rfl rfl rfl)
    have hJ:∀ b,EK b→b<w8.heap.size∧¬M b:=fun b hb=>⟨by have:=(KE.out b hb).2;omega,fun hm=>by have:=HIn.out.low b (.inl hm);have:=(KE.out b hb).1;omega⟩
    have hokO:OkObj O:=by
     have h9:=okObj_kept Hok.out
     rw [HK.out] at h9
     rw [HOe.out]
     exact⟨h9.kind,h9.space,h9.name,h9.labels,h9.owners,h9.holds,h9.uid,h9.rev,h9.doc⟩
    have HP:=Lib.hid (put_any (HIn.out.belowW Hb8.out) hrv (live_low HS.out.good) (fun w' hO=>HH.out.tab.below ((HH.out.below Hb8.out).bel.trans (hO.below (fun b hb=>HH.out.own b ((HD.out b).2 (.inl hb))) (by have:=HH.out.bel.size;have:=Hb8.out.size;omega)))) 1 (.inl rfl) O (.slice d1 m1 e1) (.slice d2 m2 e2) (.slice d3 m3 e3) KO9.out hJ hokO)
    rw [show objW O (.slice d1 m1 e1) (.slice d2 m2 e2) (.slice d3 m3 e3)=.agg #[.string O.okey.kind,.string O.okey.space,.string O.okey.name,.slice d1 m1 e1,.slice d2 m2 e2,.slice d3 m3 e3,.bool O.ending,.string O.uid,.int .i64 O.rev,.string O.doc] from rfl] at HP
    have BO:Hid (w8.heap[gb]? = some (.cells #[.string O.okey.kind,.string O.okey.space,.string O.okey.name,.slice d1 m1 e1,.slice d2 m2 e2,.slice d3 m3 e3,.bool O.ending,.string O.uid,.int .i64 O.rev,.string O.doc] 30 (0,0))):=Lib.hid (by rw [HOe.out];exact B8.out)
    have cb:=fun i=>cell_block BO.out i
    clear hJ hokO B8
    go_wp2_with fail
    refine HP.out.mono ?_
    rintro E w9 ⟨E9,y1,y2,y3,M',n',f',vlog',rfl,p1,p2,p3,p4,p5⟩
    have R9:Hid (w9.heap[gr]? = some (.cells noA 30 (0,0))):=Lib.hid ((p5.block gr (by omega) fun hm=>by have:=HIn.out.low gr (.inl hm);omega).trans R8.out)
    have P1:=Lib.hid p1
    have P2:=Lib.hid p2
    have P3:=Lib.hid p3
    have P4:=Lib.hid p4
    have P5:=Lib.hid p5
    obtain⟨PO,HPO⟩:∃ PO,Hid (putO (S.rev+1) 1 O=PO):=⟨_,Lib.hid rfl⟩
    rw [HPO.out] at P1 ⊢
    clear p1 p2 p3 p4 p5 cb HP R8
    go_wp2_with (refine wpList_store_box (by rfl) _ _ _ (by rfl) gr (objCs PO y1 y2 y3).toArray (by rfl) (by rfl) _ _ (by exact R9.out) (by exact Tryz.sizeObj) (by rfl) (objA_ones P1.out) ?_)
    intro w10 b10 t10
    have B10:=Lib.hid b10
    have T10:=Lib.hid t10
    clear b10 t10
    go_wp2_with fail
    refine bodyPost_ret (v:=.tuple #[objW PO y1 y2 y3,.int .i64 0]) ?_ rfl ?_
    ·exact results_two_obj Tryz.results60 _ _ gr _ (by rfl) B10.out rfl
    ·have h9:=put_did (kind:=1) (o:=O) HIn.out HD.out Hb8.out ⟨hwr,by omega⟩ (fun b hb=>.inr ⟨by have:=(KE.out b hb).1;omega,fun e=>by have:=(KE.out b hb).1;omega,by have:=(KE.out b hb).2;omega⟩) (by rw [HPO.out];exact P1.out) P2.out P3.out P4.out P5.out T10.out
     rw [HPO.out] at h9
     rw [HTE.out,HK.out,←HOe.out]
     exact h9
  ·have Hc:=Lib.hid hc
   have hT0:=HT.out
   unfold create at hT0
   rw [Her.out,if_neg (fun h=>h rfl),Hc.out,if_pos (show (some was).isSome=true from rfl)] at hT0
   have HT0:=Lib.hid hT0.symm
   have HW:=Lib.hid hwo
   clear hc HT hT0 hwo
   obtain⟨g7,hg7⟩:∃ g7,g7=w3.heap.size:=⟨_,rfl⟩
   have H7:=Lib.hid (heap_alloc_new w3 (.cells noA 30))
   have Hb4:=Lib.hid (Hb3.out.alloc (by omega) (.cells noA 30))
   have B4:=Lib.hid (below_block ((Below.refl _ w3).alloc (Nat.le_refl _) (.cells noA 30)) B3.out)
   have R4:=Lib.hid (below_block ((Below.refl _ w3).alloc (Nat.le_refl _) (.cells noA 30)) R3.out)
   have hs4:(w3.alloc (.cells noA 30)).heap.size=w3.heap.size+1:=World.size_alloc _ _
   go_wp2_with (refine wpList_store_box (by rfl) _ _ _ (by rfl) w3.heap.size (objCs was v1' v2' v3').toArray (by rfl) (by rfl) _ _ (by exact H7.out) (by exact Tryz.sizeObj) (by rfl) (objA_ones HW.out) ?_)
   intro w5 b5 t5
   have Z5:=Lib.hid b5
   have B5:=Lib.hid (t5.block B4.out (by omega))
   have R5:=Lib.hid (t5.block R4.out (by omega))
   have Hb5:=Lib.hid (t5.below Hb4.out (by omega))
   have hs5:w5.heap.size=w3.heap.size+1:=t5.size.trans hs4
   clear b5 t5 hs4 H7 B4 R4 Hb4 hg7
   go_wp2_with (refine wpList_store_box (by rfl) _ _ _ (by rfl) gr noA (by rfl) (by rfl) _ _ (by exact R5.out) (by exact Tryz.sizeObj) (by rfl) (by simp [Value.oneCell',noA]) ?_)
   intro WF bF tF
   have BF:=Lib.hid bF
   have HF:=Lib.hid (tF.below Hb5.out hwr)
   clear bF tF
   go_wp2_with fail
   refine bodyPost_ret (v:=.tuple #[.agg noA,.int .i64 5]) ?_ rfl ?_
   ·exact results_two_obj Tryz.results60 _ _ gr _ (by rfl) BF.out rfl
   ·exact did_no ⟨M,I,mb,nn,f,vlog,HIn.out,HD.out⟩ HF.out (HT0.out)
 ·have q0:(er == 0)=false:=by rw [beq_eq_false_iff_ne];exact her
  have hT0:=HT.out
  unfold create at hT0
  rw [Her.out,if_pos her] at hT0
  have HT0:=Lib.hid hT0.symm
  clear her HT hT0
  go_wp2_with (refine wpList_store_box (by rfl) _ _ _ (by rfl) gr noA (by rfl) (by rfl) _ _ (by exact R2.out) (by exact Tryz.sizeObj) (by rfl) (by simp [Value.oneCell',noA]) ?_)
  intro WF bF tF
  have BF:=Lib.hid bF
  have HF:=Lib.hid (tF.below Hb2.out hwr)
  clear bF tF
  go_wp2_with fail
  refine bodyPost_ret (v:=.tuple #[.agg noA,.int .i64 er]) ?_ rfl ?_
  ·exact results_two_obj Tryz.results60 _ _ gr _ (by rfl) BF.out rfl
  ·exact did_no ⟨M,I,mb,nn,f,vlog,HIn.out,HD.out⟩ HF.out (HT0.out)
set_option maxRecDepth 100000 in
set_option maxHeartbeats 6400000 in
theorem update_any {D:Dom} {w0 w:World} {g:Nat} {S:St} (h:StoreAt D w g S) (hH:Home w0 D w) (hS:OkSt S) (hrv:S.rev≤4194303) (o:GObject) (v1 v2 v3:Value) (hl:RowAt LabelR 2 w v1 o.labels) (ho:StrAt w v2 o.owners) (hh:StrAt w v3 o.holds) (hok:OkObj o) :
  Calls Tryz.prog 17 #[.pointer (some ⟨g,0,none⟩),objW o v1 v2 v3] w (Did D w g (update S o)):=by
 obtain⟨M,I,mb,nn,f,vlog,hin,hD⟩:=h
 obtain⟨a1,c1,rfl,-,-⟩:=hl.len
 obtain⟨a2,c2,rfl,-,-⟩:=ho.row.len
 obtain⟨a3,c3,rfl,-,-⟩:=hh.row.len
 obtain⟨n1,Hn1⟩:∃ n,Hid (o.labels.length=n):=⟨_,Lib.hid rfl⟩
 obtain⟨n2,Hn2⟩:∃ n,Hid (o.owners.length=n):=⟨_,Lib.hid rfl⟩
 obtain⟨n3,Hn3⟩:∃ n,Hid (o.holds.length=n):=⟨_,Lib.hid rfl⟩
 rw [Hn1.out] at hl
 rw [Hn2.out] at ho
 rw [Hn3.out] at hh
 rw [Hn1.out,Hn2.out,Hn3.out]
 obtain⟨er,Her⟩:∃ x,Hid (objE o=x):=⟨_,Lib.hid rfl⟩
 obtain⟨T,HT⟩:∃ T,Hid (update S o=T):=⟨_,Lib.hid rfl⟩
 rw [HT.out]
 have HIn:=Lib.hid hin
 have HD:=Lib.hid hD
 have HH:=Lib.hid hH
 have HS:=Lib.hid hS
 have Hok:=Lib.hid hok
 obtain⟨w1,hw1⟩:∃ w1,w1=(w.alloc (.cells #[.string o.okey.kind,.string o.okey.space,.string o.okey.name,.slice a1 n1 c1,.slice a2 n2 c2,.slice a3 n3 c3,.bool o.ending,.string o.uid,.int .i64 o.rev,.string o.doc] 30)).alloc (.cells noA 30):=⟨_,rfl⟩
 obtain⟨gb,hgb⟩:∃ gb,gb=w.heap.size:=⟨_,rfl⟩
 obtain⟨gr,hgr⟩:∃ gr,gr=w.heap.size+1:=⟨_,rfl⟩
 have B1:Hid (w1.heap[gb]? = some (.cells #[.string o.okey.kind,.string o.okey.space,.string o.okey.name,.slice a1 n1 c1,.slice a2 n2 c2,.slice a3 n3 c3,.bool o.ending,.string o.uid,.int .i64 o.rev,.string o.doc] 30 (0,0))):=Lib.hid (by rw [hw1,hgb];exact heap_alloc_old (heap_alloc_new w _))
 have R1:Hid (w1.heap[gr]? = some (.cells noA 30 (0,0))):=Lib.hid (by rw [hw1,hgr];exact heap_alloc_at (World.size_alloc _ _).symm)
 have hb1:Below w.heap.size w w1:=by rw [hw1];exact ((Below.refl _ w).alloc (Nat.le_refl _) _).alloc (by rw [World.size_alloc];omega) _
 have hs1:w1.heap.size=w.heap.size+2:=by rw [hw1,World.size_alloc,World.size_alloc]
 have Hb1:=Lib.hid hb1
 have hne:gb≠gr:=by omega
 have hwb:w.heap.size≤gb:=by omega
 have hwr:w.heap.size≤gr:=by omega
 have hrl:gr<w.heap.size+2:=by omega
 have hbl:gb<w.heap.size+2:=by omega
 have HC:=Lib.hid (checkObj_any o (.slice a1 n1 c1) (.slice a2 n2 c2) (.slice a3 n3 c3) w1 (hl.below stays_label hb1) (ho.below hb1) (hh.below hb1) hok (hH.below hb1).tabs (hH.below hb1).maxs)
 rw [Her.out,show objW o (.slice a1 n1 c1) (.slice a2 n2 c2) (.slice a3 n3 c3)=.agg #[.string o.okey.kind,.string o.okey.space,.string o.okey.name,.slice a1 n1 c1,.slice a2 n2 c2,.slice a3 n3 c3,.bool o.ending,.string o.uid,.int .i64 o.rev,.string o.doc] from rfl] at HC
 have HL:=Lib.hid hl
 have HO:=Lib.hid ho
 have HHh:=Lib.hid hh
 have hgl:=hin.low g (.inl hin.gM)
 clear hl ho hh hok hb1 hin hD hH hS
 rw [show objW o (.slice a1 n1 c1) (.slice a2 n2 c2) (.slice a3 n3 c3)=.agg #[.string o.okey.kind,.string o.okey.space,.string o.okey.name,.slice a1 n1 c1,.slice a2 n2 c2,.slice a3 n3 c3,.bool o.ending,.string o.uid,.int .i64 o.rev,.string o.doc] from rfl]
 go_enter Tryz.func17,Tryz.ntmps17
 go_upto_region 1 with fail
 have hex:((w.alloc (.cells #[.string o.okey.kind,.string o.okey.space,.string o.okey.name,.slice a1 n1 c1,.slice a2 n2 c2,.slice a3 n3 c3,.bool o.ending,.string o.uid,.int .i64 o.rev,.string o.doc] 30)).alloc (.cells #[.string {data:=#[]},.string {data:=#[]},.string {data:=#[]},.slice none 0 0,.slice none 0 0,.slice none 0 0,.bool false,.string {data:=#[]},.int .i64 0,.string {data:=#[]}] 30))=w1:=hw1.symm
 rw [hex]
 try rw [←hgr]
 rw [←hgb]
 clear hw1 hex hgb hgr
 have cc:=fun i=>cell_block B1.out i
 go_wp2_with fail
 refine HC.out.mono ?_
 rintro E w2 ⟨rfl,hb2⟩
 have B2:=Lib.hid (below_block hb2 B1.out)
 have R2:=Lib.hid (below_block hb2 R1.out)
 have Hb2:=Lib.hid (Hb1.out.trans (hb2.mono (by omega)))
 have hs2:=hb2.size
 clear hb2 HC cc B1 R1
 by_cases her:er=0
 ·subst her
  have cc:=fun i=>cell_block B2.out i
  have HLa:=Lib.hid (last_any (HIn.out.belowW Hb2.out) o.okey (okKey_of Hok.out) HS.out.rev)
  go_wp2_with fail
  refine HLa.out.mono ?_
  rintro E w3 ⟨hb3,hlast⟩
  have B3:=Lib.hid (below_block hb3 B2.out)
  have R3:=Lib.hid (below_block hb3 R2.out)
  have Hb3:=Lib.hid (Hb2.out.trans (hb3.mono (by omega)))
  have hs3:=hb3.size
  clear hb3 cc B2 R2 HLa
  rcases hlast with ⟨hc,rfl⟩ | ⟨was,v1',v2',v3',hc,rfl,hwo⟩
  ·have Hc:=Lib.hid hc
   have hT0:=HT.out
   unfold update at hT0
   rw [Her.out,if_neg (fun h=>h rfl),Hc.out] at hT0
   have HT0:=Lib.hid hT0.symm
   rw [show noW=.agg noA from rfl]
   clear hc HT hT0
   obtain⟨g7,hg7⟩:∃ g7,g7=w3.heap.size:=⟨_,rfl⟩
   have H7:=Lib.hid (heap_alloc_new w3 (.cells noA 30))
   have Hb4:=Lib.hid (Hb3.out.alloc (by omega) (.cells noA 30))
   have B4:=Lib.hid (below_block ((Below.refl _ w3).alloc (Nat.le_refl _) (.cells noA 30)) B3.out)
   have R4:=Lib.hid (below_block ((Below.refl _ w3).alloc (Nat.le_refl _) (.cells noA 30)) R3.out)
   have hs4:(w3.alloc (.cells noA 30)).heap.size=w3.heap.size+1:=World.size_alloc _ _
   go_wp2_with (refine wpList_store_box (by rfl) _ _ _ (by rfl) w3.heap.size noA (by rfl) (by rfl) _ _ (by exact H7.out) (by exact Tryz.sizeObj) (by rfl) (by simp [Value.oneCell',noA]) ?_)
   intro w5 b5 t5
   have Z5:=Lib.hid b5
   have B5:=Lib.hid (t5.block B4.out (by omega))
   have R5:=Lib.hid (t5.block R4.out (by omega))
   have Hb5:=Lib.hid (t5.below Hb4.out (by omega))
   have hs5:w5.heap.size=w3.heap.size+1:=t5.size.trans hs4
   clear b5 t5 hs4 H7 B4 R4 Hb4 hg7
   go_wp2_with (refine wpList_store_box (by rfl) _ _ _ (by rfl) gr noA (by rfl) (by rfl) _ _ (by exact R5.out) (by exact Tryz.sizeObj) (by rfl) (by simp [Value.oneCell',noA]) ?_)
   intro WF bF tF
   have BF:=Lib.hid bF
   have HF:=Lib.hid (tF.below Hb5.out hwr)
   clear bF tF
   go_wp2_with fail
   refine bodyPost_ret (v:=.tuple #[.agg noA,.int .i64 7]) ?_ rfl ?_
   ·exact results_two_obj Tryz.results17 _ _ gr _ (by rfl) BF.out rfl
   ·exact did_no ⟨M,I,mb,nn,f,vlog,HIn.out,HD.out⟩ HF.out (HT0.out)
  ·have Hc:=Lib.hid hc
   have hT0:=HT.out
   unfold update at hT0
   rw [Her.out,if_neg (fun h=>h rfl),Hc.out] at hT0
   dsimp only at hT0
   have HT0:=Lib.hid hT0.symm
   have HW:=Lib.hid hwo
   clear hc HT hT0 hwo
   obtain⟨g7,hg7⟩:∃ g7,g7=w3.heap.size:=⟨_,rfl⟩
   have H7:=Lib.hid (heap_alloc_new w3 (.cells noA 30))
   have Hb4:=Lib.hid (Hb3.out.alloc (by omega) (.cells noA 30))
   have B4:=Lib.hid (below_block ((Below.refl _ w3).alloc (Nat.le_refl _) (.cells noA 30)) B3.out)
   have R4:=Lib.hid (below_block ((Below.refl _ w3).alloc (Nat.le_refl _) (.cells noA 30)) R3.out)
   have hs4:(w3.alloc (.cells noA 30)).heap.size=w3.heap.size+1:=World.size_alloc _ _
   go_wp2_with (refine wpList_store_box (by rfl) _ _ _ (by rfl) w3.heap.size (objCs was v1' v2' v3').toArray (by rfl) (by rfl) _ _ (by exact H7.out) (by exact Tryz.sizeObj) (by rfl) (objA_ones HW.out) ?_)
   intro w5 b5 t5
   have Z5:=Lib.hid b5
   have B5:=Lib.hid (t5.block B4.out (by omega))
   have R5:=Lib.hid (t5.block R4.out (by omega))
   have Hb5:=Lib.hid (t5.below Hb4.out (by omega))
   have hs5:w5.heap.size=w3.heap.size+1:=t5.size.trans hs4
   clear b5 t5 hs4 H7 B4 R4 Hb4 hg7
   obtain⟨we,Hwe⟩:∃ we,Hid (was.ending=we):=⟨_,Lib.hid rfl⟩
   obtain⟨g9,hg9⟩:∃ g9,w3.heap.size=g9:=⟨_,rfl⟩
   have ZE:Hid (w5.heap[g9]? = some (.cells #[.string was.okey.kind,.string was.okey.space,.string was.okey.name,v1',v2',v3',.bool we,.string was.uid,.int .i64 was.rev,.string was.doc] 30 (0,0))):=Lib.hid (by rw [←Hwe.out,←hg9];exact Z5.out)
   have hg9l:g9<w5.heap.size:=by omega
   have hg9b:w.heap.size+2≤g9:=by omega
   rw [hg9]
   clear hg9 Z5
   rw [Hwe.out] at HT0
   obtain⟨oe,Hoe⟩:∃ oe,Hid (o.ending=oe):=⟨_,Lib.hid rfl⟩
   have HT1:Hid (T=if o.rev≠was.rev then (S,noObj,12) else if we=true∧oe=false then (S,noObj,1) else doPut S 2 {keptO o with uid:=was.uid}):=Lib.hid (by rw [HT0.out,Hoe.out])
   have cc:=fun i=>cell_block B5.out i
   have cz:=fun i=>cell_block ZE.out i
   clear HT0
   by_cases hr:o.rev=was.rev
   ·have q1:(o.rev == was.rev)=true:=by rw [beq_iff_eq];exact hr
    have HT2:Hid (T=if we=true∧oe=false then (S,noObj,1) else doPut S 2 {keptO o with uid:=was.uid}):=Lib.hid (by rw [HT1.out,if_neg (fun h=>h hr)])
    clear hr HT1
    by_cases hen:we=true∧oe=false
    ·obtain⟨rfl,rfl⟩:=hen
     have HT3:Hid (T=(S,noObj,1)):=Lib.hid (by rw [HT2.out,if_pos ⟨rfl,rfl⟩])
     have hoe:=Hoe.out
     clear HT2
     go_wp2_with (refine wpList_store_box (by rfl) _ _ _ (by rfl) gr noA (by rfl) (by rfl) _ _ (by exact R5.out) (by exact Tryz.sizeObj) (by rfl) (by simp [Value.oneCell',noA]) ?_)
     intro WF bF tF
     have BF:=Lib.hid bF
     have HF:=Lib.hid (tF.below Hb5.out hwr)
     clear bF tF
     go_wp2_with fail
     refine bodyPost_ret (v:=.tuple #[.agg noA,.int .i64 1]) ?_ rfl ?_
     ·exact results_two_obj Tryz.results17 _ _ gr _ (by rfl) BF.out rfl
     ·exact did_no ⟨M,I,mb,nn,f,vlog,HIn.out,HD.out⟩ HF.out (HT3.out)
    ·have HTE:Hid (T=doPut S 2 {keptO o with uid:=was.uid}):=Lib.hid (by rw [HT2.out,if_neg hen])
     have hoe:=Hoe.out
     clear HT2
     clear hoe
     cases we with
     | false=>
      go_upto_region 11 with fail
      obtain⟨ev,hev1,hev2⟩:=cur_mem Hc.out
      have HWok:Hid (OkObj was):=Lib.hid (hev2▸HS.out.obj ev hev1)
      clear hev1 hev2 cz q1
      have cc:=fun i=>cell_block B5.out i
      have HK:=Lib.hid (kept_any o (.slice a1 n1 c1) (.slice a2 n2 c2) (.slice a3 n3 c3) w5 (by rw [←Hn1.out];rw [Hn1.out];exact HL.out.below stays_label Hb5.out) (HO.out.below Hb5.out) (HHh.out.below Hb5.out) Hok.out (HH.out.below Hb5.out).tabs)
      rw [show objW o (.slice a1 n1 c1) (.slice a2 n2 c2) (.slice a3 n3 c3)=.agg #[.string o.okey.kind,.string o.okey.space,.string o.okey.name,.slice a1 n1 c1,.slice a2 n2 c2,.slice a3 n3 c3,.bool o.ending,.string o.uid,.int .i64 o.rev,.string o.doc] from rfl] at HK
      go_wp2_with fail
      refine HK.out.mono ?_
      rintro E w6 ⟨EK,x1,x2,x3,rfl,ko,kE,hb6⟩
      obtain⟨d1,e1,rfl,-,-⟩:=ko.labels.own.row.len
      obtain⟨d2,e2,rfl,-,-⟩:=ko.owners.own.row.len
      obtain⟨d3,e3,rfl,-,-⟩:=ko.holds.own.row.len
      obtain⟨m1,Hm1⟩:∃ n,Hid ((keptO o).labels.length=n):=⟨_,Lib.hid rfl⟩
      obtain⟨m2,Hm2⟩:∃ n,Hid ((keptO o).owners.length=n):=⟨_,Lib.hid rfl⟩
      obtain⟨m3,Hm3⟩:∃ n,Hid ((keptO o).holds.length=n):=⟨_,Lib.hid rfl⟩
      rw [Hm1.out,Hm2.out,Hm3.out] at ko ⊢
      have KO:=Lib.hid ko
      have KE:=Lib.hid kE
      have B6:=Lib.hid (below_block hb6 B5.out)
      have R6:=Lib.hid (below_block hb6 R5.out)
      have Z6:=Lib.hid (below_block hb6 ZE.out)
      have Hb6:=Lib.hid (Hb5.out.trans (hb6.mono (by omega)))
      have hs6:=hb6.size
      clear ko kE hb6 cc HK B5 R5
      obtain⟨K,HK⟩:∃ K,Hid (keptO o=K):=⟨_,Lib.hid rfl⟩
      rw [HK.out] at KO ⊢
      rw [show objW K (.slice d1 m1 e1) (.slice d2 m2 e2) (.slice d3 m3 e3)=.agg #[.string K.okey.kind,.string K.okey.space,.string K.okey.name,.slice d1 m1 e1,.slice d2 m2 e2,.slice d3 m3 e3,.bool K.ending,.string K.uid,.int .i64 K.rev,.string K.doc] from rfl]
      go_wp2_with (refine wpList_store_box (by rfl) _ _ _ (by rfl) gb #[.string K.okey.kind,.string K.okey.space,.string K.okey.name,.slice d1 m1 e1,.slice d2 m2 e2,.slice d3 m3 e3,.bool K.ending,.string K.uid,.int .i64 K.rev,.string K.doc] (by rfl) (by rfl) _ _ (by exact B6.out) (by exact Tryz.sizeObj) (by rfl) (by simp [Value.oneCell']) ?_)
      intro w7 b7 t7
      have B7:=Lib.hid b7
      have R7:=Lib.hid (t7.block R6.out (Ne.symm hne))
      have Z7:=Lib.hid (t7.block Z6.out (by omega))
      have Hb7:=Lib.hid (t7.below Hb6.out hwb)
      have hs7:=t7.size
      have KO7:=Lib.hid (KO.out.agree fun b hb=>t7.other b fun e=>by have:=(KE.out b hb).1;omega)
      clear b7 t7 B6 R6 KO
      have cz:=fun i=>cell_block Z7.out i
      have fb:=fun i=>free_block B7.out i
      have cb:=fun i=>cell_block B7.out i
      obtain⟨w8,hw8⟩:∃ w8,w7.setCell ⟨gb,7,none⟩ (.string was.uid)=w8:=⟨_,rfl⟩
      have t1:=touch_setCell (i:=7) (v:=.string was.uid) B7.out
      rw [hw8] at t1
      have B8:Hid (w8.heap[gb]? = some (.cells #[.string K.okey.kind,.string K.okey.space,.string K.okey.name,.slice d1 m1 e1,.slice d2 m2 e2,.slice d3 m3 e3,.bool K.ending,.string was.uid,.int .i64 K.rev,.string K.doc] 30 (0,0))):=Lib.hid t1.1
      have R8:=Lib.hid (t1.2.block R7.out (Ne.symm hne))
      have Hb8:=Lib.hid (t1.2.below Hb7.out hwb)
      have hs8:=t1.2.size
      have KO8:=Lib.hid (KO7.out.agree fun b hb=>t1.2.other b fun e=>by have:=(KE.out b hb).1;omega)
      go_upto_region 13 with fail
      try rw [hw8]
      clear cz t1 hw8 fb cb B7 R7 Hb7 KO7
      obtain⟨O,HOe⟩:∃ O:GObject,Hid (O = {K with uid:=was.uid}):=⟨_,Lib.hid rfl⟩
      have KO9:Hid (ObjIn EK w8 (.slice d1 m1 e1) (.slice d2 m2 e2) (.slice d3 m3 e3) O):=Lib.hid (by rw [HOe.out];exact KO8.out.other rfl rfl rfl)
      have hJ:∀ b,EK b→b<w8.heap.size∧¬M b:=fun b hb=>⟨by have:=(KE.out b hb).2;omega,fun hm=>by have:=HIn.out.low b (.inl hm);have:=(KE.out b hb).1;omega⟩
      have hokO:OkObj O:=by
       have h9:=okObj_kept Hok.out
       rw [HK.out] at h9
       rw [HOe.out]
       exact⟨h9.kind,h9.space,h9.name,h9.labels,h9.owners,h9.holds,HWok.out.uid,h9.rev,h9.doc⟩
      have HP:=Lib.hid (put_any (HIn.out.belowW Hb8.out) hrv (live_low HS.out.good) (fun w' hO=>HH.out.tab.below ((HH.out.below Hb8.out).bel.trans (hO.below (fun b hb=>HH.out.own b ((HD.out b).2 (.inl hb))) (by have:=HH.out.bel.size;have:=Hb8.out.size;omega)))) 2 (.inr (.inl rfl)) O (.slice d1 m1 e1) (.slice d2 m2 e2) (.slice d3 m3 e3) KO9.out hJ hokO)
      rw [show objW O (.slice d1 m1 e1) (.slice d2 m2 e2) (.slice d3 m3 e3)=.agg #[.string O.okey.kind,.string O.okey.space,.string O.okey.name,.slice d1 m1 e1,.slice d2 m2 e2,.slice d3 m3 e3,.bool O.ending,.string O.uid,.int .i64 O.rev,.string O.doc] from rfl] at HP
      have BO:Hid (w8.heap[gb]? = some (.cells #[.string O.okey.kind,.string O.okey.space,.string O.okey.name,.slice d1 m1 e1,.slice d2 m2 e2,.slice d3 m3 e3,.bool O.ending,.string O.uid,.int .i64 O.rev,.string O.doc] 30 (0,0))):=Lib.hid (by rw [HOe.out];exact B8.out)
      have cb:=fun i=>cell_block BO.out i
      clear hJ hokO B8
      go_wp2_with fail
      refine HP.out.mono ?_
      rintro E w9 ⟨E9,y1,y2,y3,M',n',f',vlog',rfl,p1,p2,p3,p4,p5⟩
      have R9:Hid (w9.heap[gr]? = some (.cells noA 30 (0,0))):=Lib.hid ((p5.block gr (by omega) fun hm=>by have:=HIn.out.low gr (.inl hm);omega).trans R8.out)
      have P1:=Lib.hid p1
      have P2:=Lib.hid p2
      have P3:=Lib.hid p3
      have P4:=Lib.hid p4
      have P5:=Lib.hid p5
      obtain⟨PO,HPO⟩:∃ PO,Hid (putO (S.rev+1) 2 O=PO):=⟨_,Lib.hid rfl⟩
      rw [HPO.out] at P1 ⊢
      clear p1 p2 p3 p4 p5 cb HP R8
      go_wp2_with (refine wpList_store_box (by rfl) _ _ _ (by rfl) gr (objCs PO y1 y2 y3).toArray (by rfl) (by rfl) _ _ (by exact R9.out) (by exact Tryz.sizeObj) (by rfl) (objA_ones P1.out) ?_)
      intro w10 b10 t10
      have B10:=Lib.hid b10
      have T10:=Lib.hid t10
      clear b10 t10
      go_wp2_with fail
      refine bodyPost_ret (v:=.tuple #[objW PO y1 y2 y3,.int .i64 0]) ?_ rfl ?_
      ·exact results_two_obj Tryz.results17 _ _ gr _ (by rfl) B10.out rfl
      ·have h9:=put_did (kind:=2) (o:=O) HIn.out HD.out Hb8.out ⟨hwr,by omega⟩ (fun b hb=>.inr ⟨by have:=(KE.out b hb).1;omega,fun e=>by have:=(KE.out b hb).1;omega,by have:=(KE.out b hb).2;omega⟩) (by rw [HPO.out];exact P1.out) P2.out P3.out P4.out P5.out T10.out
       rw [HPO.out] at h9
       rw [HTE.out,HK.out,←HOe.out]
       exact h9
     | true=>
      cases oe with
      | false=>exact absurd ⟨rfl,rfl⟩ hen
      | true=>
       have hoe:=Hoe.out
       have BT:Hid (w5.heap[gb]? = some (.cells #[.string o.okey.kind,.string o.okey.space,.string o.okey.name,.slice a1 n1 c1,.slice a2 n2 c2,.slice a3 n3 c3,.bool true,.string o.uid,.int .i64 o.rev,.string o.doc] 30 (0,0))):=Lib.hid (by rw [←hoe];exact B5.out)
       clear B5 cc
       have cc:=fun i=>cell_block BT.out i
       go_upto_region 11 with fail
       clear cc hoe
       have B5:=BT
       obtain⟨ev,hev1,hev2⟩:=cur_mem Hc.out
       have HWok:Hid (OkObj was):=Lib.hid (hev2▸HS.out.obj ev hev1)
       clear hev1 hev2 cz q1
       have cc:=fun i=>cell_block B5.out i
       have HK:=Lib.hid (kept_any o (.slice a1 n1 c1) (.slice a2 n2 c2) (.slice a3 n3 c3) w5 (by rw [←Hn1.out];rw [Hn1.out];exact HL.out.below stays_label Hb5.out) (HO.out.below Hb5.out) (HHh.out.below Hb5.out) Hok.out (HH.out.below Hb5.out).tabs)
       rw [show objW o (.slice a1 n1 c1) (.slice a2 n2 c2) (.slice a3 n3 c3)=.agg #[.string o.okey.kind,.string o.okey.space,.string o.okey.name,.slice a1 n1 c1,.slice a2 n2 c2,.slice a3 n3 c3,.bool o.ending,.string o.uid,.int .i64 o.rev,.string o.doc] from rfl,Hoe.out] at HK
       go_wp2_with fail
       refine HK.out.mono ?_
       rintro E w6 ⟨EK,x1,x2,x3,rfl,ko,kE,hb6⟩
       obtain⟨d1,e1,rfl,-,-⟩:=ko.labels.own.row.len
       obtain⟨d2,e2,rfl,-,-⟩:=ko.owners.own.row.len
       obtain⟨d3,e3,rfl,-,-⟩:=ko.holds.own.row.len
       obtain⟨m1,Hm1⟩:∃ n,Hid ((keptO o).labels.length=n):=⟨_,Lib.hid rfl⟩
       obtain⟨m2,Hm2⟩:∃ n,Hid ((keptO o).owners.length=n):=⟨_,Lib.hid rfl⟩
       obtain⟨m3,Hm3⟩:∃ n,Hid ((keptO o).holds.length=n):=⟨_,Lib.hid rfl⟩
       rw [Hm1.out,Hm2.out,Hm3.out] at ko ⊢
       have KO:=Lib.hid ko
       have KE:=Lib.hid kE
       have B6:=Lib.hid (below_block hb6 B5.out)
       have R6:=Lib.hid (below_block hb6 R5.out)
       have Z6:=Lib.hid (below_block hb6 ZE.out)
       have Hb6:=Lib.hid (Hb5.out.trans (hb6.mono (by omega)))
       have hs6:=hb6.size
       clear ko kE hb6 cc HK B5 R5
       obtain⟨K,HK⟩:∃ K,Hid (keptO o=K):=⟨_,Lib.hid rfl⟩
       rw [HK.out] at KO ⊢
       rw [show objW K (.slice d1 m1 e1) (.slice d2 m2 e2) (.slice d3 m3 e3)=.agg #[.string K.okey.kind,.string K.okey.space,.string K.okey.name,.slice d1 m1 e1,.slice d2 m2 e2,.slice d3 m3 e3,.bool K.ending,.string K.uid,.int .i64 K.rev,.string K.doc] from rfl]
       go_wp2_with (refine wpList_store_box (by rfl) _ _ _ (by rfl) gb #[.string K.okey.kind,.string K.okey.space,.string K.okey.name,.slice d1 m1 e1,.slice d2 m2 e2,.slice d3 m3 e3,.bool K.ending,.string K.uid,.int .i64 K.rev,.string K.doc] (by rfl) (by rfl) _ _ (by exact B6.out) (by exact Tryz.sizeObj) (by rfl) (by simp [Value.oneCell']) ?_)
       intro w7 b7 t7
       have B7:=Lib.hid b7
       have R7:=Lib.hid (t7.block R6.out (Ne.symm hne))
       have Z7:=Lib.hid (t7.block Z6.out (by omega))
       have Hb7:=Lib.hid (t7.below Hb6.out hwb)
       have hs7:=t7.size
       have KO7:=Lib.hid (KO.out.agree fun b hb=>t7.other b fun e=>by have:=(KE.out b hb).1;omega)
       clear b7 t7 B6 R6 KO
       have cz:=fun i=>cell_block Z7.out i
       have fb:=fun i=>free_block B7.out i
       have cb:=fun i=>cell_block B7.out i
       obtain⟨w8,hw8⟩:∃ w8,w7.setCell ⟨gb,7,none⟩ (.string was.uid)=w8:=⟨_,rfl⟩
       have t1:=touch_setCell (i:=7) (v:=.string was.uid) B7.out
       rw [hw8] at t1
       have B8:Hid (w8.heap[gb]? = some (.cells #[.string K.okey.kind,.string K.okey.space,.string K.okey.name,.slice d1 m1 e1,.slice d2 m2 e2,.slice d3 m3 e3,.bool K.ending,.string was.uid,.int .i64 K.rev,.string K.doc] 30 (0,0))):=Lib.hid t1.1
       have R8:=Lib.hid (t1.2.block R7.out (Ne.symm hne))
       have Hb8:=Lib.hid (t1.2.below Hb7.out hwb)
       have hs8:=t1.2.size
       have KO8:=Lib.hid (KO7.out.agree fun b hb=>t1.2.other b fun e=>by have:=(KE.out b hb).1;omega)
       go_upto_region 13 with fail
       try rw [hw8]
       clear cz t1 hw8 fb cb B7 R7 Hb7 KO7
       obtain⟨O,HOe⟩:∃ O:GObject,Hid (O = {K with uid:=was.uid}):=⟨_,Lib.hid rfl⟩
       have KO9:Hid (ObjIn EK w8 (.slice d1 m1 e1) (.slice d2 m2 e2) (.slice d3 m3 e3) O):=Lib.hid (by rw [HOe.out];exact KO8.out.other rfl rfl rfl)
       have hJ:∀ b,EK b→b<w8.heap.size∧¬M b:=fun b hb=>⟨by have:=(KE.out b hb).2;omega,fun hm=>by have:=HIn.out.low b (.inl hm);have:=(KE.out b hb).1;omega⟩
       have hokO:OkObj O:=by
        have h9:=okObj_kept Hok.out
        rw [HK.out] at h9
        rw [HOe.out]
        exact⟨h9.kind,h9.space,h9.name,h9.labels,h9.owners,h9.holds,HWok.out.uid,h9.rev,h9.doc⟩
       have HP:=Lib.hid (put_any (HIn.out.belowW Hb8.out) hrv (live_low HS.out.good) (fun w' hO=>HH.out.tab.below ((HH.out.below Hb8.out).bel.trans (hO.below (fun b hb=>HH.out.own b ((HD.out b).2 (.inl hb))) (by have:=HH.out.bel.size;have:=Hb8.out.size;omega)))) 2 (.inr (.inl rfl)) O (.slice d1 m1 e1) (.slice d2 m2 e2) (.slice d3 m3 e3) KO9.out hJ hokO)
       rw [show objW O (.slice d1 m1 e1) (.slice d2 m2 e2) (.slice d3 m3 e3)=.agg #[.string O.okey.kind,.string O.okey.space,.string O.okey.name,.slice d1 m1 e1,.slice d2 m2 e2,.slice d3 m3 e3,.bool O.ending,.string O.uid,.int .i64 O.rev,.string O.doc] from rfl] at HP
       have BO:Hid (w8.heap[gb]? = some (.cells #[.string O.okey.kind,.string O.okey.space,.string O.okey.name,.slice d1 m1 e1,.slice d2 m2 e2,.slice d3 m3 e3,.bool O.ending,.string O.uid,.int .i64 O.rev,.string O.doc] 30 (0,0))):=Lib.hid (by rw [HOe.out];exact B8.out)
       have cb:=fun i=>cell_block BO.out i
       clear hJ hokO B8
       go_wp2_with fail
       refine HP.out.mono ?_
       rintro E w9 ⟨E9,y1,y2,y3,M',n',f',vlog',rfl,p1,p2,p3,p4,p5⟩
       have R9:Hid (w9.heap[gr]? = some (.cells noA 30 (0,0))):=Lib.hid ((p5.block gr (by omega) fun hm=>by have:=HIn.out.low gr (.inl hm);omega).trans R8.out)
       have P1:=Lib.hid p1
       have P2:=Lib.hid p2
       have P3:=Lib.hid p3
       have P4:=Lib.hid p4
       have P5:=Lib.hid p5
       obtain⟨PO,HPO⟩:∃ PO,Hid (putO (S.rev+1) 2 O=PO):=⟨_,Lib.hid rfl⟩
       rw [HPO.out] at P1 ⊢
       clear p1 p2 p3 p4 p5 cb HP R8
       go_wp2_with (refine wpList_store_box (by rfl) _ _ _ (by rfl) gr (objCs PO y1 y2 y3).toArray (by rfl) (by rfl) _ _ (by exact R9.out) (by exact Tryz.sizeObj) (by rfl) (objA_ones P1.out) ?_)
       intro w10 b10 t10
       have B10:=Lib.hid b10
       have T10:=Lib.hid t10
       clear b10 t10
       go_wp2_with fail
       refine bodyPost_ret (v:=.tuple #[objW PO y1 y2 y3,.int .i64 0]) ?_ rfl ?_
       ·exact results_two_obj Tryz.results17 _ _ gr _ (by rfl) B10.out rfl
       ·have h9:=put_did (kind:=2) (o:=O) HIn.out HD.out Hb8.out ⟨hwr,by omega⟩ (fun b hb=>.inr ⟨by have:=(KE.out b hb).1;omega,fun e=>by have:=(KE.out b hb).1;omega,by have:=(KE.out b hb).2;omega⟩) (by rw [HPO.out];exact P1.out) P2.out P3.out P4.out P5.out T10.out
        rw [HPO.out] at h9
        rw [HTE.out,HK.out,←HOe.out]
        exact h9
   ·have q1:(o.rev == was.rev)=false:=by rw [beq_eq_false_iff_ne];exact hr
    have HT2:Hid (T=(S,noObj,12)):=Lib.hid (by rw [HT1.out,if_pos hr])
    clear hr HT1
    go_wp2_with (refine wpList_store_box (by rfl) _ _ _ (by rfl) gr noA (by rfl) (by rfl) _ _ (by exact R5.out) (by exact Tryz.sizeObj) (by rfl) (by simp [Value.oneCell',noA]) ?_)
    intro WF bF tF
    have BF:=Lib.hid bF
    have HF:=Lib.hid (tF.below Hb5.out hwr)
    clear bF tF
    go_wp2_with fail
    refine bodyPost_ret (v:=.tuple #[.agg noA,.int .i64 12]) ?_ rfl ?_
    ·exact results_two_obj Tryz.results17 _ _ gr _ (by rfl) BF.out rfl
    ·exact did_no ⟨M,I,mb,nn,f,vlog,HIn.out,HD.out⟩ HF.out (HT2.out)
 ·have q0:(er == 0)=false:=by rw [beq_eq_false_iff_ne];exact her
  have hT0:=HT.out
  unfold update at hT0
  rw [Her.out,if_pos her] at hT0
  have HT0:=Lib.hid hT0.symm
  clear her HT hT0
  go_wp2_with (refine wpList_store_box (by rfl) _ _ _ (by rfl) gr noA (by rfl) (by rfl) _ _ (by exact R2.out) (by exact Tryz.sizeObj) (by rfl) (by simp [Value.oneCell',noA]) ?_)
  intro WF bF tF
  have BF:=Lib.hid bF
  have HF:=Lib.hid (tF.below Hb2.out hwr)
  clear bF tF
  go_wp2_with fail
  refine bodyPost_ret (v:=.tuple #[.agg noA,.int .i64 er]) ?_ rfl ?_
  ·exact results_two_obj Tryz.results17 _ _ gr _ (by rfl) BF.out rfl
  ·exact did_no ⟨M,I,mb,nn,f,vlog,HIn.out,HD.out⟩ HF.out (HT0.out)
set_option maxRecDepth 100000 in
set_option maxHeartbeats 6400000 in
theorem remove_any {D:Dom} {w0 w:World} {g:Nat} {S:St} (h:StoreAt D w g S) (hH:Home w0 D w) (hS:OkSt S) (hrv:S.rev≤4194303) (k:GKey) (rev:Int) (hk:k.kind.size≤1048576∧k.space.size≤1048576∧k.name.size≤1048576) :
  Calls Tryz.prog 15 #[.pointer (some ⟨g,0,none⟩),.agg #[.string k.kind,.string k.space,.string k.name],.int .i64 rev] w (Did D w g (remove S k rev)):=by
 obtain⟨M,I,mb,nn,f,vlog,hin,hD⟩:=h
 obtain⟨er,Her⟩:∃ x,Hid (keyK k=x):=⟨_,Lib.hid rfl⟩
 obtain⟨T,HT⟩:∃ T,Hid (remove S k rev=T):=⟨_,Lib.hid rfl⟩
 rw [HT.out]
 have hokk:okKey k:=⟨by unfold maxLen;omega,by unfold maxLen;omega,by unfold maxLen;omega⟩
 have HIn:=Lib.hid hin
 have HD:=Lib.hid hD
 have HH:=Lib.hid hH
 have HS:=Lib.hid hS
 obtain⟨w1,hw1⟩:∃ w1,w1=(w.alloc (.cells #[.string k.kind,.string k.space,.string k.name] 24)).alloc (.cells noA 30):=⟨_,rfl⟩
 obtain⟨gb,hgb⟩:∃ gb,gb=w.heap.size:=⟨_,rfl⟩
 obtain⟨gr,hgr⟩:∃ gr,gr=w.heap.size+1:=⟨_,rfl⟩
 have B1:Hid (w1.heap[gb]? = some (.cells #[.string k.kind,.string k.space,.string k.name] 24 (0,0))):=Lib.hid (by rw [hw1,hgb];exact heap_alloc_old (heap_alloc_new w _))
 have R1:Hid (w1.heap[gr]? = some (.cells noA 30 (0,0))):=Lib.hid (by rw [hw1,hgr];exact heap_alloc_at (World.size_alloc _ _).symm)
 have hb1:Below w.heap.size w w1:=by rw [hw1];exact ((Below.refl _ w).alloc (Nat.le_refl _) _).alloc (by rw [World.size_alloc];omega) _
 have hs1:w1.heap.size=w.heap.size+2:=by rw [hw1,World.size_alloc,World.size_alloc]
 have Hb1:=Lib.hid hb1
 have hne:gb≠gr:=by omega
 have hwb:w.heap.size≤gb:=by omega
 have hwr:w.heap.size≤gr:=by omega
 have hrl:gr<w.heap.size+2:=by omega
 have hbl:gb<w.heap.size+2:=by omega
 have HC:=Lib.hid (key_any k.kind k.space k.name w1 (by omega) (by omega) (by omega))
 have her0:AuP.keyE k.kind.data.toList k.space.data.toList k.name.data.toList=er:=Her.out
 rw [her0] at HC
 have hgl:=hin.low g (.inl hin.gM)
 clear hb1 hin hD hH hS her0 hk
 go_enter Tryz.func15,Tryz.ntmps15
 go_upto_region 1 with fail
 have hex:((w.alloc (.cells #[.string k.kind,.string k.space,.string k.name] 24)).alloc (.cells #[.string {data:=#[]},.string {data:=#[]},.string {data:=#[]},.slice none 0 0,.slice none 0 0,.slice none 0 0,.bool false,.string {data:=#[]},.int .i64 0,.string {data:=#[]}] 30))=w1:=hw1.symm
 rw [hex]
 try rw [←hgr]
 rw [←hgb]
 clear hw1 hex hgb hgr
 have cc:=fun i=>cell_block B1.out i
 go_wp2_with fail
 refine HC.out.mono ?_
 rintro E w2 ⟨rfl,hb2⟩
 have B2:=Lib.hid (below_block hb2 B1.out)
 have R2:=Lib.hid (below_block hb2 R1.out)
 have Hb2:=Lib.hid (Hb1.out.trans (hb2.mono (by omega)))
 have hs2:=hb2.size
 clear hb2 HC cc B1 R1
 by_cases her:er=0
 ·subst her
  have cc:=fun i=>cell_block B2.out i
  have HLa:=Lib.hid (last_any (HIn.out.belowW Hb2.out) k hokk HS.out.rev)
  go_wp2_with fail
  refine HLa.out.mono ?_
  rintro E w3 ⟨hb3,hlast⟩
  have B3:=Lib.hid (below_block hb3 B2.out)
  have R3:=Lib.hid (below_block hb3 R2.out)
  have Hb3:=Lib.hid (Hb2.out.trans (hb3.mono (by omega)))
  have hb23:=Lib.hid hb3
  have hs3:=hb3.size
  clear hb3 cc B2 R2 HLa
  rcases hlast with ⟨hc,rfl⟩ | ⟨was,v1',v2',v3',hc,rfl,hwo⟩
  ·have Hc:=Lib.hid hc
   have hT0:=HT.out
   unfold remove at hT0
   rw [Her.out,if_neg (fun h=>h rfl),Hc.out] at hT0
   have HT0:=Lib.hid hT0.symm
   rw [show noW=.agg noA from rfl]
   clear hc HT hT0
   obtain⟨g7,hg7⟩:∃ g7,g7=w3.heap.size:=⟨_,rfl⟩
   have H7:=Lib.hid (heap_alloc_new w3 (.cells noA 30))
   have Hb4:=Lib.hid (Hb3.out.alloc (by omega) (.cells noA 30))
   have B4:=Lib.hid (below_block ((Below.refl _ w3).alloc (Nat.le_refl _) (.cells noA 30)) B3.out)
   have R4:=Lib.hid (below_block ((Below.refl _ w3).alloc (Nat.le_refl _) (.cells noA 30)) R3.out)
   have hs4:(w3.alloc (.cells noA 30)).heap.size=w3.heap.size+1:=World.size_alloc _ _
   go_wp2_with (refine wpList_store_box (by rfl) _ _ _ (by rfl) w3.heap.size noA (by rfl) (by rfl) _ _ (by exact H7.out) (by exact Tryz.sizeObj) (by rfl) (by simp [Value.oneCell',noA]) ?_)
   intro w5 b5 t5
   have Z5:=Lib.hid b5
   have B5:=Lib.hid (t5.block B4.out (by omega))
   have R5:=Lib.hid (t5.block R4.out (by omega))
   have Hb5:=Lib.hid (t5.below Hb4.out (by omega))
   have hs5:w5.heap.size=w3.heap.size+1:=t5.size.trans hs4
   have HW5:Hid (Below w2.heap.size w2 w5):=Lib.hid (t5.below (hb23.out.trans (((Below.refl w3.heap.size w3).alloc (Nat.le_refl _) (.cells noA 30)).mono hs3)) (by omega))
   clear b5 t5 hs4 H7 B4 R4 Hb4 hg7
   go_wp2_with (refine wpList_store_box (by rfl) _ _ _ (by rfl) gr noA (by rfl) (by rfl) _ _ (by exact R5.out) (by exact Tryz.sizeObj) (by rfl) (by simp [Value.oneCell',noA]) ?_)
   intro WF bF tF
   have BF:=Lib.hid bF
   have HF:=Lib.hid (tF.below Hb5.out hwr)
   clear bF tF
   go_wp2_with fail
   refine bodyPost_ret (v:=.tuple #[.agg noA,.int .i64 7]) ?_ rfl ?_
   ·exact results_two_obj Tryz.results15 _ _ gr _ (by rfl) BF.out rfl
   ·exact did_no ⟨M,I,mb,nn,f,vlog,HIn.out,HD.out⟩ HF.out (HT0.out)
  ·have Hc:=Lib.hid hc
   have hT0:=HT.out
   unfold remove at hT0
   rw [Her.out,if_neg (fun h=>h rfl),Hc.out] at hT0
   dsimp only at hT0
   have HT0:=Lib.hid hT0.symm
   have HW:=Lib.hid hwo
   clear hc HT hT0 hwo
   obtain⟨g7,hg7⟩:∃ g7,g7=w3.heap.size:=⟨_,rfl⟩
   have H7:=Lib.hid (heap_alloc_new w3 (.cells noA 30))
   have Hb4:=Lib.hid (Hb3.out.alloc (by omega) (.cells noA 30))
   have B4:=Lib.hid (below_block ((Below.refl _ w3).alloc (Nat.le_refl _) (.cells noA 30)) B3.out)
   have R4:=Lib.hid (below_block ((Below.refl _ w3).alloc (Nat.le_refl _) (.cells noA 30)) R3.out)
   have hs4:(w3.alloc (.cells noA 30)).heap.size=w3.heap.size+1:=World.size_alloc _ _
   go_wp2_with (refine wpList_store_box (by rfl) _ _ _ (by rfl) w3.heap.size (objCs was v1' v2' v3').toArray (by rfl) (by rfl) _ _ (by exact H7.out) (by exact Tryz.sizeObj) (by rfl) (objA_ones HW.out) ?_)
   intro w5 b5 t5
   have Z5:=Lib.hid b5
   have B5:=Lib.hid (t5.block B4.out (by omega))
   have R5:=Lib.hid (t5.block R4.out (by omega))
   have Hb5:=Lib.hid (t5.below Hb4.out (by omega))
   have hs5:w5.heap.size=w3.heap.size+1:=t5.size.trans hs4
   have HW5:Hid (Below w2.heap.size w2 w5):=Lib.hid (t5.below (hb23.out.trans (((Below.refl w3.heap.size w3).alloc (Nat.le_refl _) (.cells noA 30)).mono hs3)) (by omega))
   clear b5 t5 hs4 H7 B4 R4 Hb4 hg7
   obtain⟨g9,hg9⟩:∃ g9,w3.heap.size=g9:=⟨_,rfl⟩
   have ZE:Hid (w5.heap[g9]? = some (.cells #[.string was.okey.kind,.string was.okey.space,.string was.okey.name,v1',v2',v3',.bool was.ending,.string was.uid,.int .i64 was.rev,.string was.doc] 30 (0,0))):=Lib.hid (by rw [←hg9];exact Z5.out)
   have hg9l:g9<w5.heap.size:=by omega
   have hg9b:w.heap.size+2≤g9:=by omega
   rw [hg9]
   clear hg9 Z5
   have cz:=fun i=>cell_block ZE.out i
   by_cases hr:rev≠0∧rev≠was.rev
   ·obtain⟨h1,h2⟩:=hr
    have q1:(rev != 0)=true:=bne_iff_ne.2 h1
    have q2:(rev != was.rev)=true:=bne_iff_ne.2 h2
    have HT2:Hid (T=(S,noObj,12)):=Lib.hid (by rw [HT0.out,if_pos ⟨h1,h2⟩])
    clear h1 h2 HT0
    go_wp2_with (refine wpList_store_box (by rfl) _ _ _ (by rfl) gr noA (by rfl) (by rfl) _ _ (by exact R5.out) (by exact Tryz.sizeObj) (by rfl) (by simp [Value.oneCell',noA]) ?_)
    intro WF bF tF
    have BF:=Lib.hid bF
    have HF:=Lib.hid (tF.below Hb5.out hwr)
    clear bF tF
    go_wp2_with fail
    refine bodyPost_ret (v:=.tuple #[.agg noA,.int .i64 12]) ?_ rfl ?_
    ·exact results_two_obj Tryz.results15 _ _ gr _ (by rfl) BF.out rfl
    ·exact did_no ⟨M,I,mb,nn,f,vlog,HIn.out,HD.out⟩ HF.out (HT2.out)
   ·have HTE:Hid (T=doPut S 3 was):=Lib.hid (by rw [HT0.out,if_neg hr])
    clear HT0
    obtain⟨evv,hev1,hev2⟩:=cur_mem Hc.out
    have HWok:Hid (OkObj was):=Lib.hid (hev2▸HS.out.obj evv hev1)
    have Hw5:Hid (Below w2.heap.size w2 w5):=HW5
    have HO5:Hid (ObjIn I w5 v1' v2' v3' was):=Lib.hid (HW.out.agree fun b hb=>Hw5.out.block b (by have:=HIn.out.low b (.inr hb);omega))
    have HP:=Lib.hid (put_any (HIn.out.belowW Hb5.out) hrv (live_low HS.out.good) (fun w' hO=>HH.out.tab.below ((HH.out.below Hb5.out).bel.trans (hO.below (fun b hb=>HH.out.own b ((HD.out b).2 (.inl hb))) (by have:=HH.out.bel.size;have:=Hb5.out.size;omega)))) 3 (.inr (.inr rfl)) was v1' v2' v3' HO5.out (fun b hb=>⟨by have:=HIn.out.low b (.inr hb);omega,fun hm=>HIn.out.apart b hm hb⟩) HWok.out)
    rw [show objW was v1' v2' v3'=.agg #[.string was.okey.kind,.string was.okey.space,.string was.okey.name,v1',v2',v3',.bool was.ending,.string was.uid,.int .i64 was.rev,.string was.doc] from rfl] at HP
    clear hev1 hev2
    by_cases h0:rev=0
    ·subst h0
     clear hr
     go_wp2_with fail
     refine HP.out.mono ?_
     rintro E w9 ⟨E9,y1,y2,y3,M',n',f',vlog',rfl,p1,p2,p3,p4,p5⟩
     have R9:Hid (w9.heap[gr]? = some (.cells noA 30 (0,0))):=Lib.hid ((p5.block gr (by omega) fun hm=>by have:=HIn.out.low gr (.inl hm);omega).trans R5.out)
     have P1:=Lib.hid p1
     have P2:=Lib.hid p2
     have P3:=Lib.hid p3
     have P4:=Lib.hid p4
     have P5:=Lib.hid p5
     obtain⟨PO,HPO⟩:∃ PO,Hid (putO (S.rev+1) 3 was=PO):=⟨_,Lib.hid rfl⟩
     rw [HPO.out] at P1 ⊢
     clear p1 p2 p3 p4 p5 cz HP R5
     go_wp2_with (refine wpList_store_box (by rfl) _ _ _ (by rfl) gr (objCs PO y1 y2 y3).toArray (by rfl) (by rfl) _ _ (by exact R9.out) (by exact Tryz.sizeObj) (by rfl) (objA_ones P1.out) ?_)
     intro w10 b10 t10
     have B10:=Lib.hid b10
     have T10:=Lib.hid t10
     clear b10 t10
     go_wp2_with fail
     refine bodyPost_ret (v:=.tuple #[objW PO y1 y2 y3,.int .i64 0]) ?_ rfl ?_
     ·exact results_two_obj Tryz.results15 _ _ gr _ (by rfl) B10.out rfl
     ·have h9:=put_did (kind:=3) (o:=was) HIn.out HD.out Hb5.out ⟨hwr,by omega⟩ (J:=I) (fun b hb=>.inl hb) (by rw [HPO.out];exact P1.out) P2.out P3.out P4.out P5.out T10.out
      rw [HPO.out] at h9
      rw [HTE.out]
      exact h9
    ·have q1:(rev != 0)=true:=bne_iff_ne.2 h0
     have q2:(rev != was.rev)=false:=by rw [Classical.byContradiction (fun h=>hr ⟨h0,h⟩:¬¬rev=was.rev)];exact bne_self_eq_false _
     clear hr h0
     go_wp2_with fail
     refine HP.out.mono ?_
     rintro E w9 ⟨E9,y1,y2,y3,M',n',f',vlog',rfl,p1,p2,p3,p4,p5⟩
     have R9:Hid (w9.heap[gr]? = some (.cells noA 30 (0,0))):=Lib.hid ((p5.block gr (by omega) fun hm=>by have:=HIn.out.low gr (.inl hm);omega).trans R5.out)
     have P1:=Lib.hid p1
     have P2:=Lib.hid p2
     have P3:=Lib.hid p3
     have P4:=Lib.hid p4
     have P5:=Lib.hid p5
     obtain⟨PO,HPO⟩:∃ PO,Hid (putO (S.rev+1) 3 was=PO):=⟨_,Lib.hid rfl⟩
     rw [HPO.out] at P1 ⊢
     clear p1 p2 p3 p4 p5 cz HP R5
     go_wp2_with (refine wpList_store_box (by rfl) _ _ _ (by rfl) gr (objCs PO y1 y2 y3).toArray (by rfl) (by rfl) _ _ (by exact R9.out) (by exact Tryz.sizeObj) (by rfl) (objA_ones P1.out) ?_)
     intro w10 b10 t10
     have B10:=Lib.hid b10
     have T10:=Lib.hid t10
     clear b10 t10
     go_wp2_with fail
     refine bodyPost_ret (v:=.tuple #[objW PO y1 y2 y3,.int .i64 0]) ?_ rfl ?_
     ·exact results_two_obj Tryz.results15 _ _ gr _ (by rfl) B10.out rfl
     ·have h9:=put_did (kind:=3) (o:=was) HIn.out HD.out Hb5.out ⟨hwr,by omega⟩ (J:=I) (fun b hb=>.inl hb) (by rw [HPO.out];exact P1.out) P2.out P3.out P4.out P5.out T10.out
      rw [HPO.out] at h9
      rw [HTE.out]
      exact h9
 ·have q0:(er == 0)=false:=by rw [beq_eq_false_iff_ne];exact her
  have hT0:=HT.out
  unfold remove at hT0
  rw [Her.out,if_pos her] at hT0
  have HT0:=Lib.hid hT0.symm
  clear her HT hT0
  go_wp2_with (refine wpList_store_box (by rfl) _ _ _ (by rfl) gr noA (by rfl) (by rfl) _ _ (by exact R2.out) (by exact Tryz.sizeObj) (by rfl) (by simp [Value.oneCell',noA]) ?_)
  intro WF bF tF
  have BF:=Lib.hid bF
  have HF:=Lib.hid (tF.below Hb2.out hwr)
  clear bF tF
  go_wp2_with fail
  refine bodyPost_ret (v:=.tuple #[.agg noA,.int .i64 er]) ?_ rfl ?_
  ·exact results_two_obj Tryz.results15 _ _ gr _ (by rfl) BF.out rfl
  ·exact did_no ⟨M,I,mb,nn,f,vlog,HIn.out,HD.out⟩ HF.out (HT0.out)
end Sto
end Go.Proofs.YtnnceaapodgfbaaGreatDoor
namespace Go.Proofs.YtnnceaapodgfbaaGreatDoor
namespace Sto
open Go.RowKit
open JP (Bs)
structure PastIs (S S':St) (kind space:ByteArray) (k:GKey):Prop where
 none:S.rev=0→getE S k 0≠0∧∀ a,ListTold S kind space 0 a→a = []
 gone:∀ b,ListTold S' kind space S.rev b→(listE S' kind space S.rev=13∨getE S' k S.rev=13)→b = []∧listE S' kind space S.rev≠0∧getE S' k S.rev≠0
 same:∀ a b,ListTold S kind space 0 a→ListTold S' kind space S.rev b→S.rev≠0→listE S' kind space S.rev≠13→getE S' k S.rev≠13→
  listE S kind space 0=listE S' kind space S.rev∧a=b∧getE S k 0=getE S' k S.rev∧getO S k 0=getO S' k S.rev
end Sto
end Go.Proofs.YtnnceaapodgfbaaGreatDoor
namespace Go.Proofs.YtnnceaapodgfbaaGreatDoor
namespace Sto
open Go.RowKit
theorem filter_split {α:Type} {p:α→Bool}:∀ {l:List α} {j:Nat},(∀ (t:Nat) (x:α),t<j→l[t]? = some x→p x=true)→(∀ (t:Nat) (x:α),j≤t→l[t]? = some x→p x=false)→l.filter p=l.take j
 | [],j,_,_=>by rw [List.take_nil];rfl
 | a :: l,0,_,h2=>by
  rw [List.filter_cons_of_neg (by rw [h2 0 a (Nat.le_refl _) rfl];decide),filter_split (l:=l) (j:=0) (fun t x ht=>absurd ht (Nat.not_lt_zero _)) fun t x _ hx=>h2 (t+1) x (Nat.zero_le _) (by rw [List.getElem?_cons_succ];exact hx)]
  rfl
 | a :: l,j+1,h1,h2=>by
  rw [List.filter_cons_of_pos (h1 0 a (by omega) rfl),filter_split (l:=l) (j:=j) (fun t x ht hx=>h1 (t+1) x (by omega) (by rw [List.getElem?_cons_succ];exact hx)) fun t x ht hx=>h2 (t+1) x (by omega) (by rw [List.getElem?_cons_succ];exact hx)]
  rfl
theorem Good.revAt {S:St} (h:Good S) {i:Nat} {e:GEvent} (he:S.log[i]? = some e):e.rev=(i:Int)+1:=by
 have h1:=(h.step i e he).1
 rw [List.length_take,Nat.min_eq_left (by have:=(List.getElem?_eq_some_iff.1 he).1;omega)] at h1
 exact h1
theorem hits_take {S:St} (h:Good S) (n:Nat) (k:GKey):hits (S.log.take n) k=(hits S.log k).filter fun e=>decide (e.rev≤(n:Int)):=by
 have h0:S.log.take n=S.log.filter fun e=>decide (e.rev≤(n:Int)):=(filter_split (fun t x ht hx=>decide_eq_true (by have:=h.revAt hx;omega)) fun t x ht hx=>decide_eq_false (by have:=h.revAt hx;omega)).symm
 rw [h0]
 unfold hits
 rw [List.filter_filter,List.filter_filter]
 congr 1
 funext e
 exact Bool.and_comm _ _
theorem hits_rise {S:St} (h:Good S) (k:GKey):∀ (a b:Nat) (x y:GEvent),a<b→(hits S.log k)[a]? = some x→(hits S.log k)[b]? = some y→x.rev<y.rev:=by
 have h1:S.log.Pairwise fun x y=>x.rev<y.rev:=List.pairwise_iff_getElem.2 fun i j hi hj hij=>by
  have:=h.revAt (List.getElem?_eq_getElem hi)
  have:=h.revAt (List.getElem?_eq_getElem hj)
  omega
 have h2:(hits S.log k).Pairwise fun x y=>x.rev<y.rev:=h1.filter _
 intro a b x y hab hx hy
 obtain⟨ha,rfl⟩:=List.getElem?_eq_some_iff.1 hx
 obtain⟨hb,rfl⟩:=List.getElem?_eq_some_iff.1 hy
 exact List.pairwise_iff_getElem.1 h2 a b ha hb hab
theorem at_find {S:St} (h:Good S) {k:GKey} {n i:Nat} {is:Bool} (h1:∀ (t:Nat) (x:GEvent),t<i→(hits S.log k)[t]? = some x→x.rev<(n:Int)) (h2:∀ (t:Nat) (x:GEvent),i≤t→(hits S.log k)[t]? = some x→(n:Int)≤x.rev) (h3:is=true↔∃ x,(hits S.log k)[i]? = some x∧x.rev=(n:Int)) :
  hits (S.log.take n) k=(hits S.log k).take (if is=true then i+1 else i):=by
 rw [hits_take h]
 cases is with
 | true=>
  rw [if_pos rfl]
  obtain⟨x,hx,hn⟩:=h3.1 rfl
  refine filter_split (fun t y ht hy=>decide_eq_true ?_) fun t y ht hy=>decide_eq_false ?_
  ·rcases Nat.lt_or_ge t i with h4 | h4
   ·have:=h1 t y h4 hy;omega
   ·have h5:t=i:=by omega
    rw [h5,hx] at hy;cases hy;omega
  ·have:=hits_rise h k i t x y (by omega) hx hy;omega
 | false=>
  rw [if_neg (by decide)]
  refine filter_split (fun t y ht hy=>decide_eq_true ?_) fun t y ht hy=>decide_eq_false ?_
  ·have:=h1 t y ht hy;omega
  ·have h4:=h2 t y ht hy
   intro h5
   have h6:y.rev=n:=by omega
   rcases Nat.lt_or_ge i t with h7 | h7
   ·obtain⟨x,hx⟩:∃ x,(hits S.log k)[i]? = some x:=⟨_,List.getElem?_eq_getElem (by have:=(List.getElem?_eq_some_iff.1 hy).1;omega)⟩
    have:=hits_rise h k i t x y h7 hx hy
    have:=h2 i x (Nat.le_refl _) hx
    omega
   ·have h8:t=i:=by omega
    rw [h8] at hy
    have:=h3.2 ⟨y,hy,h6⟩
    cases this
theorem at_none {S:St} {k:GKey} {n:Nat} (h:hits (S.log.take n) k = []):atR S k n=none:=by unfold atR cur;rw [h];rfl
theorem at_some {S:St} {k:GKey} {n m:Nat} {e:GEvent} (h:hits (S.log.take n) k=(hits S.log k).take (m+1)) (he:(hits S.log k)[m]? = some e):atR S k n=shown e:=by
 unfold atR
 refine curL_last ?_
 rw [h,take_snoc he,List.getLast?_concat]
theorem copyO_any {I:Dom} {v1 v2 v3:Value} {w:World} {o:GObject} (h:ObjIn I w v1 v2 v3 o) (hok:OkObj o) :
  Calls Tryz.prog 65 #[objW o v1 v2 v3] w fun e w'=>∃ E u1 u2 u3,e=.returned (objW o u1 u2 u3)∧ObjIn E w' u1 u2 u3 o∧(∀ b,E b→w.heap.size≤b∧b<w'.heap.size)∧Below w.heap.size w w':=by
 refine (storeCopy_any o.okey v1 v2 v3 o.ending o.uid o.rev o.doc o.labels o.owners o.holds w h.rowL h.rowO h.rowH (by have:=hok.labels.1;omega) (by have:=hok.owners.1;omega) (by have:=hok.holds.1;omega)).mono ?_
 rintro E w' ⟨u1,u2,u3,rfl,k1,k2,k3,-,hb⟩
 refine⟨fun b=>u1.ownBlock=some b∨u2.ownBlock=some b∨u3.ownBlock=some b,u1,u2,u3,rfl,⟨OwnX.ofFlat k1 fun b hb=>.inl hb,OwnX.ofFlat k2 fun b hb=>.inr (.inl hb),OwnX.ofFlat k3 fun b hb=>.inr (.inr hb)⟩,fun b hb9=>?_,hb⟩
 rcases hb9 with h9 | h9 | h9
 ·exact⟨(k1.at h9).1,(k1.at h9).2.1⟩
 ·exact⟨(k2.at h9).1,(k2.at h9).2.1⟩
 ·exact⟨(k3.at h9).1,(k3.at h9).2.1⟩
theorem hobj9 {I:Dom} {w w':World} {v1 v2 v3:Value} {x:GObject} (h:ObjIn I w v1 v2 v3 x) (hb:Below w.heap.size w w'):ObjIn (fun _=>True) w' v1 v2 v3 x:=by
 obtain⟨⟨h1,-⟩,⟨h2,-⟩,⟨h3,-⟩⟩:=h
 exact⟨⟨h1.stay flat_label fun b h9=>hb.block b (h1.at h9).2.1,fun _ _=>trivial⟩,⟨h2.stay flat_string fun b h9=>hb.block b (h2.at h9).2.1,fun _ _=>trivial⟩,⟨h3.stay flat_string fun b h9=>hb.block b (h3.at h9).2.1,fun _ _=>trivial⟩⟩
theorem row_on {I:Dom} {w w':World} {T:TypeId} {v:Value} {vs:List GEvent} (h:OwnAt (VerX I w) 12 w 0 T v vs) (hb:Below w.heap.size w w'):OwnAt (VerX (fun _=>True) w') 12 w' 0 T v vs:=
 (h.stay (famVer.flat I w) fun b h9=>hb.block b (h.at h9).2.1).imp' fun cs x _ hx=>by
  obtain⟨v1,v2,v3,e1,e2⟩:=hx
  exact⟨v1,v2,v3,e1,hobj9 e2 hb⟩
set_option maxRecDepth 100000 in
set_option maxHeartbeats 3200000 in
theorem at_any {D:Dom} {w:World} {g:Nat} {S:St} (h:StoreAt D w g S) (hS:OkSt S) (k:GKey) (hk:okKey k) (n:Nat) :
  Calls Tryz.prog 49 #[.pointer (some ⟨g,0,none⟩),.agg #[.string k.kind,.string k.space,.string k.name],.int .i64 (n:Nat)] w fun e w'=>Below w.heap.size w w'∧((atR S k n=none∧e=.returned (.tuple #[noW,.bool false]))∨∃ o E u1 u2 u3,atR S k n=some o∧e=.returned (.tuple #[objW o u1 u2 u3,.bool true])∧ObjIn E w' u1 u2 u3 o∧∀ b,E b→w.heap.size≤b∧b<w'.heap.size):=by
 obtain⟨M,I,mb,nn,f,vlog,hin,-⟩:=h
 obtain⟨va,vn,vc,hlook,hvn,hrow⟩:=hin.look k hk
 have hvl:vn≤4194304:=by rw [hvn];exact Nat.le_trans (List.length_filter_le _ _) hS.rev
 obtain⟨w1,hw1⟩:∃ w1,w1=(w.alloc (.cells #[.string k.kind,.string k.space,.string k.name] 24)).alloc (.cells noA 30):=⟨_,rfl⟩
 obtain⟨gk,hgk⟩:∃ gk,gk=w.heap.size:=⟨_,rfl⟩
 obtain⟨go,hgo⟩:∃ go,go=w.heap.size+1:=⟨_,rfl⟩
 have bk:w1.heap[gk]? = some (.cells #[.string k.kind,.string k.space,.string k.name] 24 (0,0)):=by rw [hw1,hgk];exact heap_alloc_old (heap_alloc_new w _)
 have bo:w1.heap[go]? = some (.cells noA 30 (0,0)):=by rw [hw1,hgo];exact heap_alloc_at (World.size_alloc _ _).symm
 have hb1:Below w.heap.size w w1:=by rw [hw1];exact ((Below.refl _ w).alloc (Nat.le_refl _) _).alloc (by rw [World.size_alloc];omega) _
 have bg:=below_block hb1 hin.box
 have cg:=fun i=>cell_block bg i
 have ck:=fun i=>cell_block bk i
 have hgw:w.heap.size≤go:=by omega
 have hs1:go<w1.heap.size:=by rw [hw1,World.size_alloc,World.size_alloc];omega
 have Hlook:=Lib.hid hlook
 have HR:=Lib.hid hrow
 have Hvn:=Lib.hid hvn
 have BO:=Lib.hid bo
 have HB1:=Lib.hid hb1
 have HS:=Lib.hid hS
 clear hin hk hlook hrow hvn bo hb1 bk bg hS
 go_enter Tryz.func49,Tryz.ntmps49
 go_upto_region 1 with fail
 have hex:((w.alloc (.cells #[.string k.kind,.string k.space,.string k.name] 24)).alloc (.cells #[.string {data:=#[]},.string {data:=#[]},.string {data:=#[]},.slice none 0 0,.slice none 0 0,.slice none 0 0,.bool false,.string {data:=#[]},.int .i64 0,.string {data:=#[]}] 30))=w1:=hw1.symm
 rw [hex]
 try rw [←hgo]
 rw [←hgk]
 have hlk:∀ n,(Instr.lookup 108 (.map (some mb)) (.agg #[.string k.kind,.string k.space,.string k.name]) false).run Tryz.prog (w1.drewN n)=.ok (.slice va vn vc) (w1.drewN n):=fun n=>Hlook.out (w1.drewN n) (drewB HB1.out n)
 clear hw1 hex hgk hgo Hlook
 go_quiet (fail)
 have HB2:=Lib.hid (drewB HB1.out nq)
 have BO2:Hid ((w1.drewN nq).heap[go]? = some (.cells noA 30 (0,0))):=BO
 have hs2:go<(w1.drewN nq).heap.size:=hs1
 obtain⟨w2,hw2⟩:∃ w2,w1.drewN nq=w2:=⟨_,rfl⟩
 rw [hw2] at HB2 BO2 hs2 ⊢
 clear hw2 hlk cg ck HB1 BO hs1
 have HBS:=Lib.hid (bsearch_any (row_on HR.out HB2.out) Hvn.out hvl (hits_rise HS.out.good k) (n:Int))
 go_wp2_with fail
 refine HBS.out.mono ?_
 rintro E w3 ⟨hb3,i,is,rfl,hin,hlo,hhi,his⟩
 have HT:=Lib.hid (at_find HS.out.good hlo hhi his)
 have HI:Hid (is=true→i<vn):=Lib.hid fun h9=>by obtain⟨x,hx,-⟩:=his.1 h9;have:=(List.getElem?_eq_some_iff.1 hx).1;have:=Hvn.out;omega
 have BO:=Lib.hid (below_block hb3 BO2.out)
 have HB:=Lib.hid (HB2.out.trans (hb3.mono HB2.out.size))
 have hs3:go<w3.heap.size:=by have:=hb3.size;omega
 clear hb3 hlo hhi his HBS BO2 HB2 hs2
 cases is with
 | true=>
  have hiv:=HI.out rfl
  rw [if_pos rfl] at HT
  obtain⟨e,he⟩:∃ e,(hits S.log k)[i]? = some e:=⟨_,List.getElem?_eq_getElem (by have:=Hvn.out;omega)⟩
  clear HI
  obtain⟨b,o,v1,v2,v3,hva,hobj,ec⟩:=ver_cells HR.out Hvn.out HB.out he
  have Hc9:=Lib.hid (at_some HT.out he)
  have hmem:e∈S.log:=(List.mem_filter.1 (List.mem_of_getElem? he)).1
  have Hok:Hid (OkObj e.object):=Lib.hid (HS.out.obj e hmem)
  have e11:=ec 11 _ rfl
  subst hva
  obtain⟨x,Hx⟩:∃ x,Hid (e.object=x):=⟨_,Lib.hid rfl⟩
  have hkk:shown e=if decide (e.kind=3)=true then none else some e.object:=by unfold shown;by_cases h:e.kind=3<;>simp [h]
  rw [hkk] at Hc9
  rw [Hx.out] at hobj ec Hok Hc9
  have f1:=ec 1 _ rfl
  have f2:=ec 2 _ rfl
  have f3:=ec 3 _ rfl
  have f4:=ec 4 _ rfl
  have f5:=ec 5 _ rfl
  have f6:=ec 6 _ rfl
  have f7:=ec 7 _ rfl
  have f8:=ec 8 _ rfl
  have f9:=ec 9 _ rfl
  have f10:=ec 10 _ rfl
  have Hobj:=Lib.hid hobj
  clear ec hobj hmem hkk he
  cases hk3:decide (e.kind=3) with
  | true=>
   rw [hk3] at e11 Hc9
   have Hc:Hid (atR S k n=none):=Lib.hid (by rw [Hc9.out];rfl)
   clear hk3 Hc9 f1 f2 f3 f4 f5 f6 f7 f8 f9 f10
   go_wp2_with (refine wpList_store_box (by rfl) _ _ _ (by rfl) go noA (by rfl) (by rfl) _ _ (by exact BO.out) (by exact Tryz.sizeObj) (by rfl) (by simp [Value.oneCell',noA]) ?_)
   intro WF bF tF
   have HF:=Lib.hid (tF.below HB.out hgw)
   go_wp2_with fail
   refine bodyPost_ret (v:=.tuple #[.agg noA,.bool false]) ?_ rfl ?_
   ·exact results_two_box Tryz.results49 _ _ go _ _ _ _ (by rfl) bF Tryz.underlying30 rfl (by exact Tryz.sizeObj)
   ·exact⟨HF.out,.inl ⟨Hc.out,rfl⟩⟩
  | false=>
   rw [hk3] at e11 Hc9
   have Hc:Hid (atR S k n=some x):=Lib.hid (by rw [Hc9.out];rfl)
   have HCo:=Lib.hid (copyO_any (hobj9 Hobj.out HB.out) Hok.out)
   rw [show objW x v1 v2 v3=.agg (objCs x v1 v2 v3).toArray from rfl] at HCo
   unfold objCs at HCo
   clear hk3 Hc9
   go_wp2_with fail
   refine HCo.out.mono ?_
   rintro E w3 ⟨D3,u1,u2,u3,rfl,k1,k2,hb3⟩
   have K1:=Lib.hid k1
   have K2:=Lib.hid k2
   have BO3:=Lib.hid (below_block hb3 BO.out)
   have HB3:=Lib.hid (HB.out.trans (hb3.mono HB.out.size))
   have hs3:=HB.out.size
   clear k1 k2 hb3 HCo BO HB
   go_wp2_with (refine wpList_store_box (by rfl) _ _ _ (by rfl) go (objCs x u1 u2 u3).toArray (by rfl) (by rfl) _ _ (by exact BO3.out) (by exact Tryz.sizeObj) (by rfl) (objA_ones K1.out) ?_)
   intro WF bF tF
   have HF:=Lib.hid (tF.below HB3.out hgw)
   have K1F:=Lib.hid (K1.out.agree fun b hb=>tF.other b fun e9=>by have:=(K2.out b hb).1;omega)
   have hsF:=tF.size
   go_wp2_with fail
   refine bodyPost_ret (v:=.tuple #[objW x u1 u2 u3,.bool true]) ?_ rfl ?_
   ·exact results_two_box Tryz.results49 _ _ go _ _ _ _ (by rfl) bF Tryz.underlying30 rfl (by exact Tryz.sizeObj)
   ·exact⟨HF.out,.inr ⟨x,D3,u1,u2,u3,Hc.out,rfl,K1F.out,fun b hb=>⟨by have:=(K2.out b hb).1;omega,by rw [hsF];exact (K2.out b hb).2⟩⟩⟩
 | false=>
  rw [if_neg (by decide)] at HT
  clear HI
  by_cases h0:i=0
  ·subst h0
   have Hc:Hid (atR S k n=none):=Lib.hid (at_none (by rw [HT.out];rfl))
   clear HT
   go_wp2_with (refine wpList_store_box (by rfl) _ _ _ (by rfl) go noA (by rfl) (by rfl) _ _ (by exact BO.out) (by exact Tryz.sizeObj) (by rfl) (by simp [Value.oneCell',noA]) ?_)
   intro WF bF tF
   have HF:=Lib.hid (tF.below HB.out hgw)
   go_wp2_with fail
   refine bodyPost_ret (v:=.tuple #[.agg noA,.bool false]) ?_ rfl ?_
   ·exact results_two_box Tryz.results49 _ _ go _ _ _ _ (by rfl) bF Tryz.underlying30 rfl (by exact Tryz.sizeObj)
   ·exact⟨HF.out,.inl ⟨Hc.out,rfl⟩⟩
  ·obtain⟨m,rfl⟩:∃ m,i=m+1:=⟨i - 1,by omega⟩
   obtain⟨e,he⟩:∃ e,(hits S.log k)[m]? = some e:=⟨_,List.getElem?_eq_getElem (by have:=Hvn.out;omega)⟩
   have q0:((m+1:Nat):Int) - 1=(m:Int):=by omega
   obtain⟨b,o,v1,v2,v3,hva,hobj,ec⟩:=ver_cells HR.out Hvn.out HB.out he
   have Hc9:=Lib.hid (at_some HT.out he)
   have hmem:e∈S.log:=(List.mem_filter.1 (List.mem_of_getElem? he)).1
   have Hok:Hid (OkObj e.object):=Lib.hid (HS.out.obj e hmem)
   have e11:=ec 11 _ rfl
   subst hva
   obtain⟨x,Hx⟩:∃ x,Hid (e.object=x):=⟨_,Lib.hid rfl⟩
   have hkk:shown e=if decide (e.kind=3)=true then none else some e.object:=by unfold shown;by_cases h:e.kind=3<;>simp [h]
   rw [hkk] at Hc9
   rw [Hx.out] at hobj ec Hok Hc9
   have f1:=ec 1 _ rfl
   have f2:=ec 2 _ rfl
   have f3:=ec 3 _ rfl
   have f4:=ec 4 _ rfl
   have f5:=ec 5 _ rfl
   have f6:=ec 6 _ rfl
   have f7:=ec 7 _ rfl
   have f8:=ec 8 _ rfl
   have f9:=ec 9 _ rfl
   have f10:=ec 10 _ rfl
   have Hobj:=Lib.hid hobj
   clear ec hobj hmem hkk he
   cases hk3:decide (e.kind=3) with
   | true=>
    rw [hk3] at e11 Hc9
    have Hc:Hid (atR S k n=none):=Lib.hid (by rw [Hc9.out];rfl)
    clear hk3 Hc9 f1 f2 f3 f4 f5 f6 f7 f8 f9 f10
    go_wp2_with (refine wpList_store_box (by rfl) _ _ _ (by rfl) go noA (by rfl) (by rfl) _ _ (by exact BO.out) (by exact Tryz.sizeObj) (by rfl) (by simp [Value.oneCell',noA]) ?_)
    intro WF bF tF
    have HF:=Lib.hid (tF.below HB.out hgw)
    go_wp2_with fail
    refine bodyPost_ret (v:=.tuple #[.agg noA,.bool false]) ?_ rfl ?_
    ·exact results_two_box Tryz.results49 _ _ go _ _ _ _ (by rfl) bF Tryz.underlying30 rfl (by exact Tryz.sizeObj)
    ·exact⟨HF.out,.inl ⟨Hc.out,rfl⟩⟩
   | false=>
    rw [hk3] at e11 Hc9
    have Hc:Hid (atR S k n=some x):=Lib.hid (by rw [Hc9.out];rfl)
    have HCo:=Lib.hid (copyO_any (hobj9 Hobj.out HB.out) Hok.out)
    rw [show objW x v1 v2 v3=.agg (objCs x v1 v2 v3).toArray from rfl] at HCo
    unfold objCs at HCo
    clear hk3 Hc9
    go_wp2_with fail
    refine HCo.out.mono ?_
    rintro E w3 ⟨D3,u1,u2,u3,rfl,k1,k2,hb3⟩
    have K1:=Lib.hid k1
    have K2:=Lib.hid k2
    have BO3:=Lib.hid (below_block hb3 BO.out)
    have HB3:=Lib.hid (HB.out.trans (hb3.mono HB.out.size))
    have hs3:=HB.out.size
    clear k1 k2 hb3 HCo BO HB
    go_wp2_with (refine wpList_store_box (by rfl) _ _ _ (by rfl) go (objCs x u1 u2 u3).toArray (by rfl) (by rfl) _ _ (by exact BO3.out) (by exact Tryz.sizeObj) (by rfl) (objA_ones K1.out) ?_)
    intro WF bF tF
    have HF:=Lib.hid (tF.below HB3.out hgw)
    have K1F:=Lib.hid (K1.out.agree fun b hb=>tF.other b fun e9=>by have:=(K2.out b hb).1;omega)
    have hsF:=tF.size
    go_wp2_with fail
    refine bodyPost_ret (v:=.tuple #[objW x u1 u2 u3,.bool true]) ?_ rfl ?_
    ·exact results_two_box Tryz.results49 _ _ go _ _ _ _ (by rfl) bF Tryz.underlying30 rfl (by exact Tryz.sizeObj)
    ·exact⟨HF.out,.inr ⟨x,D3,u1,u2,u3,Hc.out,rfl,K1F.out,fun b hb=>⟨by have:=(K2.out b hb).1;omega,by rw [hsF];exact (K2.out b hb).2⟩⟩⟩
end Sto
end Go.Proofs.YtnnceaapodgfbaaGreatDoor
namespace Go.Proofs.YtnnceaapodgfbaaGreatDoor
namespace Sto
open Go.RowKit
theorem ev_cells {I:Dom} {w w':World} {va:Option Addr} {vn vc:Nat} {vs:List GEvent} (h:RowAt (EvX I w) 12 w (.slice va vn vc) vs) (hn:vs.length=vn) (hb:Below w.heap.size w w') {m:Nat} {e:GEvent} (he:vs[m]? = some e) :
  ∃ b o v1 v2 v3,va=some ⟨b,o,none⟩∧ObjIn I w v1 v2 v3 e.object∧∀ i u,(Value.int .i64 e.kind :: .int .i64 e.rev :: objCs e.object v1 v2 v3)[i]? = some u→w'.cell? ⟨b,o+m*12+i,none⟩=some u:=by
 have hm:=(List.getElem?_eq_some_iff.1 he).1
 obtain⟨b,o,c',hv,_,_,hbs,hcell⟩:=h.form (by omega) (by omega)
 injection hv with u1 u2 u3
 obtain⟨ds,_,hcc,v1,v2,v3,rfl,hobj⟩:=hcell m e he
 exact⟨b,o,v1,v2,v3,u1,hobj,fun i u hu=>(hb.cell (p:=⟨b,_,none⟩) hbs).trans (hcc i u hu)⟩
theorem Tryz.sizeEv:(Tryz.prog.info? 56).map (·.size)=some 12:=by kernel_rfl
set_option maxRecDepth 100000 in
set_option maxHeartbeats 6400000 in
theorem since_any {D:Dom} {w:World} {g:Nat} {S:St} (h:StoreAt D w g S) (hS:OkSt S) (rev:Int) :
  Calls Tryz.prog 25 #[.pointer (some ⟨g,0,none⟩),.int .i64 rev] w fun e w'=>Below w.heap.size w w'∧∃ E v,e=.returned (.tuple #[v,.int .i64 (sinceE S rev)])∧OwnX EvX 12 E w' 56 v (sinceL S rev)∧∀ b,E b→w.heap.size≤b∧b<w'.heap.size:=by
 obtain⟨M,I,mb,nn,f,vlog,hin,hDD⟩:=h
 obtain⟨n,Hn⟩:∃ n,Hid (S.rev=n):=⟨_,Lib.hid rfl⟩
 obtain⟨cm,Hcm⟩:∃ n,Hid (S.comp=n):=⟨_,Lib.hid rfl⟩
 have hln:S.log.length=n:=Hn.out
 have hrow:=hin.log.row
 obtain⟨la,lc,hvl,-,-⟩:=hrow.len
 rw [hln] at hvl
 subst hvl
 have HR:=Lib.hid hrow
 have hbox:=hin.box
 rw [Hn.out,Hcm.out] at hbox
 have BX:=Lib.hid hbox
 have HS:=Lib.hid hS
 have hnl:n≤4194304:=by rw [←Hn.out];exact hS.rev
 have Hln:=Lib.hid hln
 have cg:=fun i=>cell_block BX.out i
 clear hin hDD hrow hbox hS hln
 go_enter Tryz.func25,Tryz.ntmps25
 by_cases h1:rev<0
 ·have He:Hid (sinceE S rev=1):=Lib.hid (by unfold sinceE;rw [if_pos (.inl h1)])
  have Hl:Hid (sinceL S rev = []):=Lib.hid (by unfold sinceL;rw [He.out];rfl)
  rw [He.out,Hl.out]
  have q1:decide (rev<0)=true:=decide_eq_true h1
  clear h1
  go_wp2_with fail
  go_ret2
  exact⟨Below.refl _ _,fun _=>False,nilS,rfl,OwnX.nil,fun b hb=>hb.elim⟩
 ·obtain⟨r,rfl⟩:∃ r:Nat,rev=r:=⟨rev.toNat,by omega⟩
  by_cases h2:(n:Int)<(r:Int)
  ·have He:Hid (sinceE S r=1):=Lib.hid (by unfold sinceE;rw [if_pos (.inr (by rw [Hn.out];exact h2))])
   have Hl:Hid (sinceL S r = []):=Lib.hid (by unfold sinceL;rw [He.out];rfl)
   rw [He.out,Hl.out]
   have q1:decide ((r:Int)<0)=false:=decide_eq_false h1
   have q2:decide (n<r)=true:=decide_eq_true (by omega)
   clear h1 h2
   go_wp2_with fail
   go_ret2
   exact⟨Below.refl _ _,fun _=>False,nilS,rfl,OwnX.nil,fun b hb=>hb.elim⟩
  ·by_cases h3:(r:Int)<cm
   ·have He:Hid (sinceE S r=13):=Lib.hid (by unfold sinceE;rw [if_neg (by rw [Hn.out];omega),if_pos (by rw [Hcm.out];exact h3)])
    have Hl:Hid (sinceL S r = []):=Lib.hid (by unfold sinceL;rw [He.out];rfl)
    rw [He.out,Hl.out]
    have q1:decide ((r:Int)<0)=false:=decide_eq_false h1
    have q2:decide (n<r)=false:=decide_eq_false (by omega)
    have q3:decide ((r:Int)<cm)=true:=decide_eq_true h3
    clear h1 h2 h3
    go_wp2_with fail
    go_ret2
    exact⟨Below.refl _ _,fun _=>False,nilS,rfl,OwnX.nil,fun b hb=>hb.elim⟩
   ·have He:Hid (sinceE S r=0):=Lib.hid (by unfold sinceE;rw [if_neg (by rw [Hn.out];omega),if_neg (by rw [Hcm.out];exact h3)])
    obtain⟨L,HL⟩:∃ L,Hid (sinceL S r=L):=⟨_,Lib.hid rfl⟩
    have HLd:Hid (S.log.drop r=L):=Lib.hid (by rw [←HL.out];unfold sinceL;rw [He.out,if_pos rfl];rfl)
    rw [He.out,HL.out]
    have q1:decide ((r:Int)<0)=false:=decide_eq_false h1
    have q2:decide (n<r)=false:=decide_eq_false (by omega)
    have q3:decide ((r:Int)<cm)=false:=decide_eq_false h3
    have hrn:r≤n:=by omega
    obtain⟨ta,hta⟩:∃ ta,(if lc=r then la else la.map (·.add (r*12)))=ta:=⟨_,rfl⟩
    have HT:=Lib.hid (row_from (by decide) HR.out hrn ta hta)
    rw [HLd.out] at HT
    obtain⟨m,hm⟩:∃ m,n - r=m:=⟨_,rfl⟩
    obtain⟨tc,htc⟩:∃ m,lc - r=m:=⟨_,rfl⟩
    rw [hm,htc] at HT
    have HLn:Hid (L.length=m):=Lib.hid (by rw [←HLd.out,List.length_drop,Hln.out];exact hm)
    have h0r:(0:Int)≤(r:Int):=by omega
    have hrn':(r:Int)≤(n:Int):=by omega
    clear h1 h2 h3
    go_upto_region 7 with fail
    have HB0:=Lib.hid (Below.refl w.heap.size w)
    have hml:m≤4194304:=by omega
    clear q1 q2 q3 hta hm htc h0r hrn' cg hrn
    go_loopg [6,34] m (fun k u6 u34 wr=>∃ i:Nat,i+k=m∧u34=.int .i64 (i:Int)∧Hid (OutX EvX 12 w.heap.size wr 56 u6 (L.take i))∧Hid (Below w.heap.size w wr))
    case atStart=>exact⟨0,by omega,rfl,Lib.hid OutX.nil,HB0⟩
    case round=>
     clear HB0
     obtain⟨i,hik,rfl,HO,HB⟩:=hrel
     cases gk with
     | zero=>
      obtain rfl:m=i:=by omega
      have HO9:Hid (OutX EvX 12 w.heap.size wr 56 u6 L):=Lib.hid (by have h9:=HO.out;rw [←HLn.out,List.take_length] at h9;exact h9)
      go_wp2_with fail
      go_ret2
      exact⟨HB.out,_,_,rfl,HO9.out.own famEv,fun b hb=>hb⟩
     | succ k=>
      have hil:i<m:=by omega
      obtain⟨x,hx⟩:∃ x,L[i]? = some x:=⟨L[i]'(by rw [HLn.out];exact hil),List.getElem?_eq_getElem _⟩
      obtain⟨b,o,v1,v2,v3,hva,hobj,ec⟩:=ev_cells HT.out HLn.out HB.out hx
      subst hva
      obtain⟨a1,c1,rfl,-,-⟩:=hobj.rowL.len
      obtain⟨a2,c2,rfl,-,-⟩:=hobj.rowO.row.len
      obtain⟨a3,c3,rfl,-,-⟩:=hobj.rowH.row.len
      obtain⟨n1,Hn1⟩:∃ n,Hid (x.object.labels.length=n):=⟨_,Lib.hid rfl⟩
      obtain⟨n2,Hn2⟩:∃ n,Hid (x.object.owners.length=n):=⟨_,Lib.hid rfl⟩
      obtain⟨n3,Hn3⟩:∃ n,Hid (x.object.holds.length=n):=⟨_,Lib.hid rfl⟩
      rw [Hn1.out,Hn2.out,Hn3.out] at hobj ec
      have f0:=ec 0 _ rfl
      have f1:=ec 1 _ rfl
      have f2:=ec 2 _ rfl
      have f3:=ec 3 _ rfl
      have f4:=ec 4 _ rfl
      have f5:=ec 5 _ rfl
      have f6:=ec 6 _ rfl
      have f7:=ec 7 _ rfl
      have f8:=ec 8 _ rfl
      have f9:=ec 9 _ rfl
      have f10:=ec 10 _ rfl
      have f11:=ec 11 _ rfl
      rw [Nat.add_zero] at f0
      have q1:(0:Int)≤(i:Int):=by omega
      have q2:(i:Int)<(m:Int):=by omega
      have Hx:=Lib.hid hx
      have Hok:Hid (OkObj x.object):=Lib.hid (HS.out.obj x (by have h9:=List.mem_of_getElem? hx;rw [←HLd.out] at h9;exact List.mem_of_mem_drop h9))
      have Hobj:=Lib.hid hobj
      have H7:=Lib.hid (heap_alloc_new wr (.cells #[.int .i64 0,.int .i64 0,.string {data:=#[]},.string {data:=#[]},.string {data:=#[]},.slice none 0 0,.slice none 0 0,.slice none 0 0,.bool false,.string {data:=#[]},.int .i64 0,.string {data:=#[]}] 56))
      have hb4:=Lib.hid ((Below.refl wr.heap.size wr).alloc (Nat.le_refl _) (.cells #[.int .i64 0,.int .i64 0,.string {data:=#[]},.string {data:=#[]},.string {data:=#[]},.slice none 0 0,.slice none 0 0,.slice none 0 0,.bool false,.string {data:=#[]},.int .i64 0,.string {data:=#[]}] 56))
      have hs4:Hid ((wr.alloc (.cells #[.int .i64 0,.int .i64 0,.string {data:=#[]},.string {data:=#[]},.string {data:=#[]},.slice none 0 0,.slice none 0 0,.slice none 0 0,.bool false,.string {data:=#[]},.int .i64 0,.string {data:=#[]}] 56)).heap.size=wr.heap.size+1):=Lib.hid (World.size_alloc _ _)
      clear hx ec hobj
      go_wp2_with (refine wpList_store_box (by rfl) _ _ _ (by rfl) wr.heap.size #[.int .i64 x.kind,.int .i64 x.rev,.string x.object.okey.kind,.string x.object.okey.space,.string x.object.okey.name,.slice a1 n1 c1,.slice a2 n2 c2,.slice a3 n3 c3,.bool x.object.ending,.string x.object.uid,.int .i64 x.object.rev,.string x.object.doc] (by rfl) (by rfl) _ _ (by exact H7.out) (by exact Tryz.sizeEv) (by rfl) (by simp [Value.oneCell']) ?_)
      intro w5 b5 t5
      have hb5:Below wr.heap.size wr w5:=t5.below hb4.out (Nat.le_refl _)
      have hs5:w5.heap.size=wr.heap.size+1:=t5.size.trans hs4.out
      obtain⟨ge,hge⟩:∃ ge,wr.heap.size=ge:=⟨_,rfl⟩
      rw [hge] at b5 ⊢
      have hgl:ge<w5.heap.size:=by omega
      have hgw:w.heap.size≤ge:=by rw [←hge];exact HB.out.size
      have B5:=Lib.hid b5
      have HB5:=Lib.hid (HB.out.trans (hb5.mono HB.out.size))
      have HC5:Hid (Below ge wr w5):=Lib.hid (by rw [←hge];exact hb5)
      have hgr:wr.heap.size=ge:=hge
      have HOw:Hid (∀ b,u6.ownBlock=some b→b<ge):=Lib.hid fun b hb=>by rw [←hge];exact (HO.out.at hb).2
      have HCo:=Lib.hid (copyO_any (hobj9 Hobj.out HB5.out) Hok.out)
      rw [show objW x.object (.slice a1 n1 c1) (.slice a2 n2 c2) (.slice a3 n3 c3)=.agg (objCs x.object (.slice a1 n1 c1) (.slice a2 n2 c2) (.slice a3 n3 c3)).toArray from rfl] at HCo
      unfold objCs at HCo
      clear b5 t5 hb5 hb4 hs4 H7 HB f0 f1 f2 f3 f4 f5 f6 f7 f8 f9 f10 f11
      have ce:=fun i=>cell_block B5.out i
      go_wp2_with fail
      refine HCo.out.mono ?_
      rintro E w6 ⟨D3,u1,u2,u3,rfl,k1,k2,hb6⟩
      obtain⟨b1,d1,rfl,-,-⟩:=k1.rowL.len
      obtain⟨b2,d2,rfl,-,-⟩:=k1.rowO.row.len
      obtain⟨b3,d3,rfl,-,-⟩:=k1.rowH.row.len
      rw [Hn1.out,Hn2.out,Hn3.out] at k1 ⊢
      have B6:=Lib.hid (below_block hb6 B5.out)
      have HB6:=Lib.hid (HB5.out.trans (hb6.mono HB5.out.size))
      have HC6:Hid (Below ge wr w6):=Lib.hid (HC5.out.trans (hb6.mono (by omega)))
      have hs6:=hb6.size
      have K1:=Lib.hid k1
      have K2:=Lib.hid k2
      clear k1 k2 hb6 HCo HB5 HC5 ce B5
      rw [show objW x.object (.slice b1 n1 d1) (.slice b2 n2 d2) (.slice b3 n3 d3)=.agg #[.string x.object.okey.kind,.string x.object.okey.space,.string x.object.okey.name,.slice b1 n1 d1,.slice b2 n2 d2,.slice b3 n3 d3,.bool x.object.ending,.string x.object.uid,.int .i64 x.object.rev,.string x.object.doc] from rfl]
      simp only []
      go_at_K
      refine at_last (by assumption) ?_
      iterate 3 go_step
      refine wpList_store_part (by rfl) _ _ _ (by rfl) ge 2 #[.string x.object.okey.kind,.string x.object.okey.space,.string x.object.okey.name,.slice b1 n1 d1,.slice b2 n2 d2,.slice b3 n3 d3,.bool x.object.ending,.string x.object.uid,.int .i64 x.object.rev,.string x.object.doc] (by rfl) (by rfl) _ #[.int .i64 x.kind,.int .i64 x.rev,.string x.object.okey.kind,.string x.object.okey.space,.string x.object.okey.name,.slice a1 n1 c1,.slice a2 n2 c2,.slice a3 n3 c3,.bool x.object.ending,.string x.object.uid,.int .i64 x.object.rev,.string x.object.doc] (by exact B6.out) (by exact Tryz.sizeObj) (by exact (by decide:2+10≤12)) (by simp [Value.oneCell']) ?_
      intro w7 b7 t7
      have B7:Hid (w7.heap[ge]? = some (.cells #[.int .i64 x.kind,.int .i64 x.rev,.string x.object.okey.kind,.string x.object.okey.space,.string x.object.okey.name,.slice b1 n1 d1,.slice b2 n2 d2,.slice b3 n3 d3,.bool x.object.ending,.string x.object.uid,.int .i64 x.object.rev,.string x.object.doc] 56 (0,0))):=Lib.hid b7
      have HC7:Hid (Below ge wr w7):=Lib.hid (t7.below HC6.out (Nat.le_refl _))
      have hs7:w7.heap.size=w6.heap.size:=t7.size
      have KA:Hid (ObjIn D3 w7 (.slice b1 n1 d1) (.slice b2 n2 d2) (.slice b3 n3 d3) x.object):=Lib.hid (K1.out.agree fun b hb=>t7.other b (by have:=(K2.out b hb).1;omega))
      have cf:=fun i=>cell_block B7.out i
      obtain⟨gl,hgz⟩:∃ gl,w7.heap.size=gl:=⟨_,rfl⟩
      obtain⟨w8,hw8⟩:∃ w8,w8=w7.alloc (.cells #[.int .i64 x.kind,.int .i64 x.rev,.string x.object.okey.kind,.string x.object.okey.space,.string x.object.okey.name,.slice b1 n1 d1,.slice b2 n2 d2,.slice b3 n3 d3,.bool x.object.ending,.string x.object.uid,.int .i64 x.object.rev,.string x.object.doc] 56):=⟨_,rfl⟩
      have hb8:Below w7.heap.size w7 w8:=by rw [hw8];exact (Below.refl _ w7).alloc (Nat.le_refl _) _
      have hs8:w8.heap.size=w7.heap.size+1:=by rw [hw8,World.size_alloc]
      have HC8:Hid (Below ge wr w8):=Lib.hid (HC7.out.trans (hb8.mono (by omega)))
      have HB8:Hid (Below w.heap.size w w8):=Lib.hid (HB6.out.trans ((t7.below (Below.refl ge w6) (Nat.le_refl _)).mono (by omega) |>.trans (hb8.mono (by omega))))
      have HO8:Hid (OutX EvX 12 w.heap.size w8 56 u6 (L.take i)):=Lib.hid (HO.out.agreeX famEv (by omega) fun b h1 h2=>HC8.out.block b (by omega))
      have HRow:Hid (RowAt (EvX (OutD w.heap.size w8 u6) w8) 12 w8 (.slice (some ⟨gl,0,none⟩) 1 1) [x]):=Lib.hid (RowAt.one (R:=(EvX (OutD w.heap.size w8 u6) w8)) (k:=12) (cs:=#[.int .i64 x.kind,.int .i64 x.rev,.string x.object.okey.kind,.string x.object.okey.space,.string x.object.okey.name,.slice b1 n1 d1,.slice b2 n2 d2,.slice b3 n3 d3,.bool x.object.ending,.string x.object.uid,.int .i64 x.object.rev,.string x.object.doc]) (x:=x) (by rw [hw8,←hgz];exact heap_alloc_new w7 _) rfl ⟨_,_,_,rfl,(KA.out.agree fun b hb=>hb8.block b (by have:=(K2.out b hb).2;omega)).mono fun b hb=>⟨by have:=(K2.out b hb).1;omega,by have:=(K2.out b hb).2;omega,fun e9=>by have:=HOw.out b e9;have:=(K2.out b hb).1;omega⟩⟩)
      have hbase:w.heap.size≤w8.heap.size:=by omega
      have htl:Hid ((L.take i).length=i):=Lib.hid (by rw [List.length_take,HLn.out];omega)
      have hL1:Hid (L.take i++[x]=L.take (i+1)):=Lib.hid (take_snoc Hx.out).symm
      obtain⟨i0,hi0,hy0,hy1,hy2⟩:=info_parts Tryz.infoEv
      have hs9:w6.heap.size≤gl:=by omega
      have hsl:w8.heap.size=gl+1:=by omega
      clear b7 t7 K1 K2 KA hb8 HC6 HC7 HB6 HO hs7 hs8
      go_wp2_with (at_builtin;rw [←hw8];refine wpList_append_ownAt (R:=(EvX (OutD w.heap.size w8 u6) w8)) (k:=12) (e:=56) (B:=w.heap.size) (l:=L.take i) (m:=[x]) _ (by rfl) _ _ _ (by rfl) i0 _ 184 Tryz.underlying51 hi0 hy0 hy1 hy2 rfl (by omega) (famEv.flat _ _) (famEv.one _ _) _ (by rfl) HO8.out _ (by rfl) HRow.out (by rw [htl.out,List.length_singleton];unfold maxLen;omega) (by rw [htl.out,List.length_singleton];omega) hbase ?_)
      intro v' w9 q1 q2 q3 q4
      rw [←hw8] at q1 q2
      rw [show gl+1=w8.heap.size from hsl.symm] at q4
      have HO9:=Lib.hid (OutX.appended famEv q1 q2 q4)
      rw [hL1.out] at HO9
      have HB9:=Lib.hid (HB8.out.grown q2 hbase q3)
      clear q1 q2 q3 q4 cf HO8 HRow HB8 HC8 B7 B6 hw8
      go_wp2_with fail
      go_roundg k
      case measure=>omega
      case rel=>exact⟨i+1,by omega,by go_num,HO9,HB9⟩
end Sto
end Go.Proofs.YtnnceaapodgfbaaGreatDoor
namespace Go.Proofs.YtnnceaapodgfbaaGreatDoor
open Go.RowKit
theorem eqS_no {l m:List ByteArray} {i:Nat} {x y:ByteArray} (hx:l[i]? = some x) (hy:m[i]? = some y) (h:x≠y):decide (l=m)=false:=by
 rw [decide_eq_false_iff_not]
 intro e
 subst e
 rw [hx] at hy
 cases hy
 exact h rfl
theorem eqS_yes {l m:List ByteArray} (h:l.length=m.length) (k:∀ (i:Nat) (x y:ByteArray),i<l.length→l[i]? = some x→m[i]? = some y→x=y):decide (l=m)=true:=by
 rw [decide_eq_true_iff]
 apply List.ext_getElem h
 intro i hi hj
 exact k i _ _ hi (List.getElem?_eq_getElem hi) (List.getElem?_eq_getElem hj)
set_option maxRecDepth 100000 in
set_option maxHeartbeats 800000 in
theorem eqStrs_any (v1 v2:Value) (l m:List ByteArray) (w:World) (h1:StrAt w v1 l) (h2:StrAt w v2 m) (hl:l.length≤8388608) (hm:m.length≤8388608) :
  Calls Tryz.prog 59 #[v1,v2] w fun e w'=>e=.returned (.bool (decide (l=m)))∧w=w':=by
 obtain⟨a1,c1,rfl,_,_⟩:=h1.len
 obtain⟨a2,c2,rfl,_,_⟩:=h2.len
 have H1:=Lib.hid h1
 have H2:=Lib.hid h2
 clear h1 h2
 by_cases hlen:l.length=m.length
 ·have q1:((l.length:Int) != (m.length:Int))=false:=by rw [bne_eq_false_iff_eq];omega
  have Hlen:=Lib.hid hlen
  clear hlen
  go_enter Tryz.func59,Tryz.ntmps59
  go_wp2_with fail
  clear q1
  go_loopg [14] l.length (fun g u14 wr=>∃ i:Nat,i+g=l.length∧u14=.int .i64 (i:Int)∧Hid (∀ (k:Nat) (x y:ByteArray),k<i→l[k]? = some x→m[k]? = some y→x=y)∧w=wr)
  case atStart=>exact⟨0,by omega,rfl,Lib.hid (fun k _ _ hk=>by omega),rfl⟩
  case round=>
   obtain⟨i,hig,rfl,Hall,rfl⟩:=hrel
   cases gk with
   | zero=>
    obtain rfl:i=l.length:=by omega
    have Hyes:Hid (decide (l=m)=true):=eqS_yes Hlen.out fun k x y hk hx hy=>Hall.out k x y hk hx hy
    go_wp2_with fail
    go_ret
    exact⟨congrArg (fun b=>Ending.returned (Value.bool b)) Hyes.out.symm,rfl⟩
   | succ g=>
    have hil:i<l.length:=by omega
    have him:i<m.length:=by have:=Hlen.out;omega
    obtain⟨x,hx⟩:∃ x,l[i]? = some x:=⟨l[i]'(by omega),List.getElem?_eq_getElem _⟩
    obtain⟨y,hy⟩:∃ y,m[i]? = some y:=⟨m[i]'(by omega),List.getElem?_eq_getElem _⟩
    obtain⟨b,o,c',hv,_,_,hbs,hcell⟩:=H1.out.form (by omega)
    injection hv with u1 u2 u3
    subst u1
    clear u2 u3
    obtain⟨b',o',c'',hv,_,_,hbs',hcell'⟩:=H2.out.form (by omega)
    injection hv with u1 u2 u3
    subst u1
    clear u2 u3
    have e0:w.cell? ⟨b,o+i,none⟩=some (.string x):=hcell i x hx
    have f0:w.cell? ⟨b',o'+i,none⟩=some (.string y):=hcell' i y hy
    have q1:(0:Int)≤(i:Int):=by omega
    have q2:(i:Int)<(l.length:Int):=by omega
    have q3:(i:Int)<(m.length:Int):=by omega
    have Hx:=Lib.hid hx
    have Hy:=Lib.hid hy
    clear hcell hcell' hx hy
    by_cases he:x=y
    ·have Hall2:Hid (∀ (k:Nat) (x y:ByteArray),k<i+1→l[k]? = some x→m[k]? = some y→x=y):=Lib.hid fun k x' y' hk hx' hy'=>by
      rcases Nat.lt_or_ge k i with h | h
      ·exact Hall.out k x' y' h hx' hy'
      ·obtain rfl:k=i:=by omega
       have a:=Hx.out;have b:=Hy.out
       rw [a] at hx';rw [b] at hy'
       cases hx';cases hy'
       exact he
     have q4:(x.toList == y.toList)=true:=by rw [he];simp
     clear he
     go_wp2_with fail
     go_roundg g
     case measure=>omega
     case rel=>exact⟨i+1,by omega,by go_num,Hall2,rfl⟩
    ·have Hno:Hid (decide (l=m)=false):=Lib.hid (eqS_no Hx.out Hy.out he)
     have q4:(x.toList == y.toList)=false:=by rw [beq_eq_false_iff_ne];exact fun h=>he (toList_inj h)
     clear he
     go_wp2_with fail
     go_ret
     exact⟨congrArg (fun b=>Ending.returned (Value.bool b)) Hno.out.symm,rfl⟩
 ·have q1:((l.length:Int) != (m.length:Int))=true:=by rw [bne_iff_ne];omega
  have Hno:Hid (decide (l=m)=false):=by show _=_;rw [decide_eq_false_iff_not];exact fun h=>hlen (congrArg _ h)
  clear hlen
  go_enter Tryz.func59,Tryz.ntmps59
  go_wp2_with fail
  go_ret
  exact⟨congrArg (fun b=>Ending.returned (Value.bool b)) Hno.out.symm,rfl⟩
end Go.Proofs.YtnnceaapodgfbaaGreatDoor
namespace Go.Proofs.YtnnceaapodgfbaaGreatDoor
namespace Sto
open Go.RowKit
theorem below_drewN2 {B:Nat} {a w:World} (h:Below B a w) (n:Nat):Below B a (w.drewN n):=⟨h.os,h.tape,h.output,h.size,h.block⟩
theorem Tryz.fieldsLabQ:Tryz.prog.underlying 66=some (.struct (Tryz.prog.fieldsOf 66)):=by kernel_rfl
theorem Tryz.heldLabQ:Tryz.prog.stoodInHeld 66=false:=by kernel_rfl
theorem run_neqLab (a b:ByteArray) (w:World):(binOp .neq 66 (.agg #[.string a,.string b]) (.agg #[.string a,.string b])).run Tryz.prog w=.ok (.bool false) w:=by
 rw [run_neq_struct,run_equalIn_agg w 9999 _ _ _ Tryz.fieldsLabQ Tryz.heldLabQ]
 simp [Op.eqFields,Program.fieldsOf,Tryz.underlying66]
 go_simp
set_option maxRecDepth 100000 in
set_option maxHeartbeats 1600000 in
theorem eqLab_yes (v1 v2:Value) (l:List GLabel) (w:World) (h1:RowAt LabelR 2 w v1 l) (h2:RowAt LabelR 2 w v2 l) (hl:l.length≤1048576) :
  Calls Tryz.prog 58 #[v1,v2] w fun e w'=>e=.returned (.bool true)∧Below w.heap.size w w':=by
 obtain⟨a1,c1,rfl,_,_⟩:=h1.len
 obtain⟨a2,c2,rfl,_,_⟩:=h2.len
 have H1:=Lib.hid h1
 have H2:=Lib.hid h2
 clear h1 h2
 have q1:((l.length:Int) != (l.length:Int))=false:=by rw [bne_eq_false_iff_eq]
 go_enter Tryz.func58,Tryz.ntmps58
 go_wp2_with fail
 clear q1
 go_loopg [14] l.length (fun g u14 wr=>∃ i:Nat,i+g=l.length∧u14=.int .i64 (i:Int)∧Below w.heap.size w wr)
 case atStart=>exact⟨0,by omega,rfl,Below.refl _ _⟩
 case round=>
  obtain⟨i,hig,rfl,hbel⟩:=hrel
  cases gk with
  | zero=>
   obtain rfl:i=l.length:=by omega
   go_wp2_with fail
   go_ret
   exact⟨rfl,hbel⟩
  | succ g=>
   have hil:i<l.length:=by omega
   obtain⟨x,hx⟩:∃ x,l[i]? = some x:=⟨l[i]'(by omega),List.getElem?_eq_getElem _⟩
   obtain⟨b,o,c',hv,_,_,hbs,hcell⟩:=H1.out.form (by omega) (by omega)
   cases hv
   obtain⟨cs,_,hcc,hR⟩:=hcell i x hx
   obtain rfl:cs = [.string x.key,.string x.val]:=hR
   obtain⟨b',o',c'',hv,_,_,hbs',hcell'⟩:=H2.out.form (by omega) (by omega)
   cases hv
   obtain⟨cs',_,hcc',hR'⟩:=hcell' i x hx
   obtain rfl:cs' = [.string x.key,.string x.val]:=hR'
   have e0:wr.cell? ⟨b,o+i*2,none⟩=some (.string x.key):=(hbel.cell (p:=⟨b,_,none⟩) hbs).trans (by simpa using hcc 0 _ rfl)
   have e1:wr.cell? ⟨b,o+i*2+1,none⟩=some (.string x.val):=(hbel.cell (p:=⟨b,_,none⟩) hbs).trans (hcc 1 _ rfl)
   have f0:wr.cell? ⟨b',o'+i*2,none⟩=some (.string x.key):=(hbel.cell (p:=⟨b',_,none⟩) hbs').trans (by simpa using hcc' 0 _ rfl)
   have f1:wr.cell? ⟨b',o'+i*2+1,none⟩=some (.string x.val):=(hbel.cell (p:=⟨b',_,none⟩) hbs').trans (hcc' 1 _ rfl)
   have hbs2:b'<wr.heap.size:=by have:=hbel.size;omega
   have q1:(0:Int)≤(i:Int):=by omega
   have q2:(i:Int)<(l.length:Int):=by omega
   have hne:=run_neqLab x.key x.val
   have Hbel:∀ o:Obj,Hid (Below w.heap.size w (wr.alloc o)):=fun o=>Lib.hid (hbel.alloc hbel.size o)
   clear hcc hcc' hcell hcell' hx hbel
   go_wp2_with fail
   go_quiet (fail)
   go_wp2_with fail
   go_roundg g
   case measure=>omega
   case rel=>exact⟨i+1,by omega,by go_num,below_drewN2 (Hbel _).out _⟩
theorem Tryz.fieldsKeyQ:Tryz.prog.underlying 24=some (.struct (Tryz.prog.fieldsOf 24)):=by kernel_rfl
theorem Tryz.heldKeyQ:Tryz.prog.stoodInHeld 24=false:=by kernel_rfl
theorem run_eqKey (a b c:ByteArray) (w:World):(binOp .eql 24 (.agg #[.string a,.string b,.string c]) (.agg #[.string a,.string b,.string c])).run Tryz.prog w=.ok (.bool true) w:=by
 rw [run_eql_struct,run_equalIn_agg w 9999 _ _ _ Tryz.fieldsKeyQ Tryz.heldKeyQ]
 simp [Op.eqFields,Program.fieldsOf,Tryz.underlying24]
 go_simp
set_option maxRecDepth 100000 in
set_option maxHeartbeats 3200000 in
theorem sameObj_yes (o:GObject) (v1 v2 v3 z1 z2 z3:Value) (w:World) (hl:RowAt LabelR 2 w v1 o.labels) (ho:StrAt w v2 o.owners) (hh:StrAt w v3 o.holds) (kl:RowAt LabelR 2 w z1 o.labels) (ko:StrAt w z2 o.owners) (kh:StrAt w z3 o.holds) (hok:OkObj o) :
  Calls Tryz.prog 19 #[objW o v1 v2 v3,objW o z1 z2 z3] w fun e w'=>e=.returned (.bool true)∧Below w.heap.size w w':=by
 obtain⟨a1,c1,rfl,-,-⟩:=hl.len
 obtain⟨a2,c2,rfl,-,-⟩:=ho.row.len
 obtain⟨a3,c3,rfl,-,-⟩:=hh.row.len
 obtain⟨b1,d1,rfl,-,-⟩:=kl.len
 obtain⟨b2,d2,rfl,-,-⟩:=ko.row.len
 obtain⟨b3,d3,rfl,-,-⟩:=kh.row.len
 obtain⟨n1,Hn1⟩:∃ n,Hid (o.labels.length=n):=⟨_,Lib.hid rfl⟩
 obtain⟨n2,Hn2⟩:∃ n,Hid (o.owners.length=n):=⟨_,Lib.hid rfl⟩
 obtain⟨n3,Hn3⟩:∃ n,Hid (o.holds.length=n):=⟨_,Lib.hid rfl⟩
 rw [Hn1.out] at hl kl ⊢
 rw [Hn2.out] at ho ko ⊢
 rw [Hn3.out] at hh kh ⊢
 have bl:=hok.labels.1
 have bo:=hok.owners.1
 have bh:=hok.holds.1
 obtain⟨w1,hw1⟩:∃ w1,w1=(w.alloc (.cells #[.string o.okey.kind,.string o.okey.space,.string o.okey.name,.slice a1 n1 c1,.slice a2 n2 c2,.slice a3 n3 c3,.bool o.ending,.string o.uid,.int .i64 o.rev,.string o.doc] 30)).alloc (.cells #[.string o.okey.kind,.string o.okey.space,.string o.okey.name,.slice b1 n1 d1,.slice b2 n2 d2,.slice b3 n3 d3,.bool o.ending,.string o.uid,.int .i64 o.rev,.string o.doc] 30):=⟨_,rfl⟩
 obtain⟨ga,hga⟩:∃ ga,ga=w.heap.size:=⟨_,rfl⟩
 obtain⟨gb,hgb⟩:∃ gb,gb=w.heap.size+1:=⟨_,rfl⟩
 have XA:Hid (w1.heap[ga]? = some (.cells #[.string o.okey.kind,.string o.okey.space,.string o.okey.name,.slice a1 n1 c1,.slice a2 n2 c2,.slice a3 n3 c3,.bool o.ending,.string o.uid,.int .i64 o.rev,.string o.doc] 30 (0,0))):=Lib.hid (by rw [hw1,hga];exact heap_alloc_old (heap_alloc_new w _))
 have XB:Hid (w1.heap[gb]? = some (.cells #[.string o.okey.kind,.string o.okey.space,.string o.okey.name,.slice b1 n1 d1,.slice b2 n2 d2,.slice b3 n3 d3,.bool o.ending,.string o.uid,.int .i64 o.rev,.string o.doc] 30 (0,0))):=Lib.hid (by rw [hw1,hgb];exact heap_alloc_at (World.size_alloc _ _).symm)
 have hb1:Below w.heap.size w w1:=by rw [hw1];exact ((Below.refl _ w).alloc (Nat.le_refl _) _).alloc (by rw [World.size_alloc];omega) _
 have HB:=Lib.hid hb1
 have E1:=fun w' (hb:Below w1.heap.size w1 w')=>Lib.hid (eqLab_yes (.slice a1 n1 c1) (.slice b1 n1 d1) o.labels w' (hl.below stays_label (hb1.trans (hb.mono hb1.size))) (kl.below stays_label (hb1.trans (hb.mono hb1.size))) bl)
 have E2:∀ w',Below w1.heap.size w1 w'→Hid (Calls Tryz.prog 59 #[.slice a2 n2 c2,.slice b2 n2 d2] w' fun e w''=>e=.returned (.bool true)∧w'=w''):=fun w' hb=>Lib.hid (by
  have h9:=eqStrs_any (.slice a2 n2 c2) (.slice b2 n2 d2) o.owners o.owners w' (ho.below (hb1.trans (hb.mono hb1.size))) (ko.below (hb1.trans (hb.mono hb1.size))) (by omega) (by omega)
  rw [decide_eq_true rfl] at h9;exact h9)
 have E3:∀ w',Below w1.heap.size w1 w'→Hid (Calls Tryz.prog 59 #[.slice a3 n3 c3,.slice b3 n3 d3] w' fun e w''=>e=.returned (.bool true)∧w'=w''):=fun w' hb=>Lib.hid (by
  have h9:=eqStrs_any (.slice a3 n3 c3) (.slice b3 n3 d3) o.holds o.holds w' (hh.below (hb1.trans (hb.mono hb1.size))) (kh.below (hb1.trans (hb.mono hb1.size))) (by omega) (by omega)
  rw [decide_eq_true rfl] at h9;exact h9)
 have hk:=run_eqKey o.okey.kind o.okey.space o.okey.name
 clear hl ho hh kl ko kh hok bl bo bh hb1
 rw [show objW o (.slice a1 n1 c1) (.slice a2 n2 c2) (.slice a3 n3 c3)=.agg #[.string o.okey.kind,.string o.okey.space,.string o.okey.name,.slice a1 n1 c1,.slice a2 n2 c2,.slice a3 n3 c3,.bool o.ending,.string o.uid,.int .i64 o.rev,.string o.doc] from rfl,show objW o (.slice b1 n1 d1) (.slice b2 n2 d2) (.slice b3 n3 d3)=.agg #[.string o.okey.kind,.string o.okey.space,.string o.okey.name,.slice b1 n1 d1,.slice b2 n2 d2,.slice b3 n3 d3,.bool o.ending,.string o.uid,.int .i64 o.rev,.string o.doc] from rfl]
 go_enter Tryz.func19,Tryz.ntmps19
 go_upto_region 1 with fail
 rw [←hw1]
 try rw [←hgb]
 rw [←hga]
 clear hw1 hga hgb
 have ca:=fun i=>cell_block XA.out i
 have cb:=fun i=>cell_block XB.out i
 go_wp2_with fail
 refine (E1 w1 (Below.refl _ _)).out.mono ?_
 rintro E w2 ⟨rfl,hb2⟩
 have A2:=Lib.hid (below_block hb2 XA.out)
 have B2:=Lib.hid (below_block hb2 XB.out)
 have HB2:=Lib.hid (HB.out.trans (hb2.mono HB.out.size))
 have F2:=E2 w2 hb2
 have F3:=E3 w2 hb2
 clear hb2 ca cb E1 E2 E3 XA XB HB
 have ca:=fun i=>cell_block A2.out i
 have cb:=fun i=>cell_block B2.out i
 go_wp2_with fail
 refine F2.out.mono ?_
 rintro E w3 ⟨rfl,hw3⟩
 subst hw3
 go_wp2_with fail
 refine F3.out.mono ?_
 rintro E w3 ⟨rfl,hw3⟩
 subst hw3
 go_wp2_with fail
 go_ret
 exact⟨rfl,HB2.out⟩
end Sto
end Go.Proofs.YtnnceaapodgfbaaGreatDoor
namespace Go.Proofs.YtnnceaapodgfbaaGreatDoor
namespace Sto
open Go.RowKit
theorem below_drew1' (w:World):Below w.heap.size w w.drew:=⟨rfl,rfl,rfl,Nat.le_refl _,fun _ _=>rfl⟩
abbrev okObjS (x:GObject):Prop:=OkObj x
theorem sameObjS_yes (x:GObject) (y1 z1 y2 z2 y3 z3:Value) (w:World) (hx:ObjectR w (objCs x y1 y2 y3) x) (hy:ObjectR w (objCs x z1 z2 z3) x) (ok:okObjS x) :
  Calls Tryz.prog 19 #[objW x y1 y2 y3,objW x z1 z2 z3] w fun e w'=>e=.returned (.bool true)∧Below w.heap.size w w':=by
 obtain⟨v1,v2,v3,hcs,p1,p2,p3,-⟩:=hx
 obtain⟨u1,u2,u3,hdd,r1,r2,r3,-⟩:=hy
 unfold objCs at hcs hdd
 simp only [List.cons.injEq,and_true,true_and] at hcs hdd
 obtain⟨rfl,rfl,rfl⟩:=hcs
 obtain⟨rfl,rfl,rfl⟩:=hdd
 exact sameObj_yes x _ _ _ _ _ _ w p1 p2 p3 r1 r2 r3 ok
theorem run_sameObjS:∀ (a:Array Value) (w:World),(callFunc 19 a).run Tryz.prog w=.ok (.enter 19 a) w:=run_callFunc_body Tryz.func19 (by kernel_rfl) (by kernel_rfl)
set_option maxRecDepth 100000 in
set_option maxHeartbeats 3200000 in
theorem sameObjSs_yes (v1 v2:Value) (l:List GObject) (w:World) (h1:RowAt ObjectR 10 w v1 l) (h2:RowAt ObjectR 10 w v2 l) (hl:l.length≤8388608) (ok:∀ r∈l,okObjS r) :
  Calls Tryz.prog 24 #[v1,v2,.func (.func 19) #[] #[]] w fun e w'=>e=.returned (.bool true)∧Below w.heap.size w w':=by
 obtain⟨a1,c1,rfl,_,_⟩:=h1.len
 obtain⟨a2,c2,rfl,_,_⟩:=h2.len
 have H1:=Lib.hid h1
 have H2:=Lib.hid h2
 have Ok:=Lib.hid ok
 obtain⟨n,hn⟩:∃ n,l.length=n:=⟨_,rfl⟩
 rw [hn] at H1 H2 hl ⊢
 have Hn:=Lib.hid hn
 clear h1 h2 ok hn
 have q1:((n:Int) != (n:Int))=false:=by rw [bne_eq_false_iff_eq]
 go_enter Tryz.func24,Tryz.ntmps24
 go_wp2_with fail
 clear q1
 go_loopg [15] n (fun g u15 wr=>∃ i:Nat,i+g=n∧u15=.int .i64 (i:Int)∧Hid (Below w.heap.size w wr))
 case atStart=>exact⟨0,by omega,rfl,Lib.hid (Below.refl _ _)⟩
 case round=>
  obtain⟨i,hig,rfl,Hbel⟩:=hrel
  cases gk with
  | zero=>
   obtain rfl:n=i:=by omega
   go_wp2_with fail
   go_ret
   exact⟨rfl,Hbel.out⟩
  | succ k=>
   have hil:i<n:=by omega
   obtain⟨x,hx⟩:∃ x,l[i]? = some x:=⟨l[i]'(by rw [Hn.out];exact hil),List.getElem?_eq_getElem _⟩
   obtain⟨b,o,c',hv,_,_,hbs,hcell⟩:=H1.out.form (by rw [Hn.out];omega) (by omega)
   injection hv with u1 u2 u3
   subst u1
   clear u2 u3
   obtain⟨b',o',c'',hv,_,_,hbs',hcell'⟩:=H2.out.form (by rw [Hn.out];omega) (by omega)
   injection hv with u1 u2 u3
   subst u1
   clear u2 u3
   obtain⟨ds,_,hcc,hR⟩:=hcell i x hx
   obtain⟨es,_,hdd,hS⟩:=hcell' i x hx
   have SR:=stays_object _ _ _ _ (keeps_below Hbel.out) hR
   have SS:=stays_object _ _ _ _ (keeps_below Hbel.out) hS
   have SR2:=SR
   have SS2:=SS
   obtain⟨y1,y2,y3,rfl,_⟩:=SR2
   obtain⟨z1,z2,z3,rfl,_⟩:=SS2
   have e0:wr.cell? ⟨b,o+i*10,none⟩=some (.string x.okey.kind):=(Hbel.out.cell (p:=⟨b,_,none⟩) hbs).trans (by simpa using hcc 0 _ rfl)
   have f0:wr.cell? ⟨b',o'+i*10,none⟩=some (.string x.okey.kind):=(Hbel.out.cell (p:=⟨b',_,none⟩) hbs').trans (by simpa using hdd 0 _ rfl)
   have e1:wr.cell? ⟨b,o+i*10+1,none⟩=some (.string x.okey.space):=(Hbel.out.cell (p:=⟨b,_,none⟩) hbs).trans (hcc 1 _ rfl)
   have f1:wr.cell? ⟨b',o'+i*10+1,none⟩=some (.string x.okey.space):=(Hbel.out.cell (p:=⟨b',_,none⟩) hbs').trans (hdd 1 _ rfl)
   have e2:wr.cell? ⟨b,o+i*10+2,none⟩=some (.string x.okey.name):=(Hbel.out.cell (p:=⟨b,_,none⟩) hbs).trans (hcc 2 _ rfl)
   have f2:wr.cell? ⟨b',o'+i*10+2,none⟩=some (.string x.okey.name):=(Hbel.out.cell (p:=⟨b',_,none⟩) hbs').trans (hdd 2 _ rfl)
   have e3:wr.cell? ⟨b,o+i*10+3,none⟩=some (y1):=(Hbel.out.cell (p:=⟨b,_,none⟩) hbs).trans (hcc 3 _ rfl)
   have f3:wr.cell? ⟨b',o'+i*10+3,none⟩=some (z1):=(Hbel.out.cell (p:=⟨b',_,none⟩) hbs').trans (hdd 3 _ rfl)
   have e4:wr.cell? ⟨b,o+i*10+4,none⟩=some (y2):=(Hbel.out.cell (p:=⟨b,_,none⟩) hbs).trans (hcc 4 _ rfl)
   have f4:wr.cell? ⟨b',o'+i*10+4,none⟩=some (z2):=(Hbel.out.cell (p:=⟨b',_,none⟩) hbs').trans (hdd 4 _ rfl)
   have e5:wr.cell? ⟨b,o+i*10+5,none⟩=some (y3):=(Hbel.out.cell (p:=⟨b,_,none⟩) hbs).trans (hcc 5 _ rfl)
   have f5:wr.cell? ⟨b',o'+i*10+5,none⟩=some (z3):=(Hbel.out.cell (p:=⟨b',_,none⟩) hbs').trans (hdd 5 _ rfl)
   have e6:wr.cell? ⟨b,o+i*10+6,none⟩=some (.bool x.ending):=(Hbel.out.cell (p:=⟨b,_,none⟩) hbs).trans (hcc 6 _ rfl)
   have f6:wr.cell? ⟨b',o'+i*10+6,none⟩=some (.bool x.ending):=(Hbel.out.cell (p:=⟨b',_,none⟩) hbs').trans (hdd 6 _ rfl)
   have e7:wr.cell? ⟨b,o+i*10+7,none⟩=some (.string x.uid):=(Hbel.out.cell (p:=⟨b,_,none⟩) hbs).trans (hcc 7 _ rfl)
   have f7:wr.cell? ⟨b',o'+i*10+7,none⟩=some (.string x.uid):=(Hbel.out.cell (p:=⟨b',_,none⟩) hbs').trans (hdd 7 _ rfl)
   have e8:wr.cell? ⟨b,o+i*10+8,none⟩=some (.int .i64 x.rev):=(Hbel.out.cell (p:=⟨b,_,none⟩) hbs).trans (hcc 8 _ rfl)
   have f8:wr.cell? ⟨b',o'+i*10+8,none⟩=some (.int .i64 x.rev):=(Hbel.out.cell (p:=⟨b',_,none⟩) hbs').trans (hdd 8 _ rfl)
   have e9:wr.cell? ⟨b,o+i*10+9,none⟩=some (.string x.doc):=(Hbel.out.cell (p:=⟨b,_,none⟩) hbs).trans (hcc 9 _ rfl)
   have f9:wr.cell? ⟨b',o'+i*10+9,none⟩=some (.string x.doc):=(Hbel.out.cell (p:=⟨b',_,none⟩) hbs').trans (hdd 9 _ rfl)
   have q1:(0:Int)≤(i:Int):=by omega
   have q2:(i:Int)<(n:Int):=by omega
   have hb0:b<wr.heap.size:=Nat.lt_of_lt_of_le hbs Hbel.out.size
   have hb1:b'<wr.heap.size:=Nat.lt_of_lt_of_le hbs' Hbel.out.size
   have hokx:=Ok.out x (List.mem_of_getElem? hx)
   have HC:Hid (∀ w',Below wr.heap.size wr w'→Calls Tryz.prog 19 #[.agg #[.string x.okey.kind,.string x.okey.space,.string x.okey.name,y1,y2,y3,.bool x.ending,.string x.uid,.int .i64 x.rev,.string x.doc],.agg #[.string x.okey.kind,.string x.okey.space,.string x.okey.name,z1,z2,z3,.bool x.ending,.string x.uid,.int .i64 x.rev,.string x.doc]] w' fun e w''=>e=.returned (.bool true)∧Below wr.heap.size wr w''):=Lib.hid fun w' hb'=>by
    refine (sameObjS_yes x y1 z1 y2 z2 y3 z3 w' (stays_object _ _ _ _ (keeps_below hb') SR) (stays_object _ _ _ _ (keeps_below hb') SS) hokx).mono ?_
    rintro E w'' ⟨rfl,hb''⟩
    exact⟨rfl,hb'.trans (hb''.mono hb'.size)⟩
   clear hcell hcell' hx hcc hdd hR hS SR SS hokx hbs hbs'
   go_upto_region 6 with fail
   refine wp_region_hold 10 (fun w'=>Below wr.heap.size wr w') (by kernel_rfl) (by kernel_rfl) ?_ ?_
   ·exact below_drew1' wr
   simp only [List.take_succ_cons,List.take_zero,List.drop_succ_cons,List.drop_zero]
   (first | (refine wpHold_pure (v:=?_) (by rfl) (fun w=>?_) ?_;rotate_left;focus (first | (go_simp;done) | (go_simp;with_reducible rfl))) | (refine wpHold_skip ?_ ?_;focus (go_simp;done)) | (refine wpHold_pure' (v:=?_) ?_ (fun w=>?_) ?_;rotate_left;focus (go_simp;done);focus (first | (go_simp;done) | (go_simp;with_reducible rfl))));try simp only [Act.put,List.setIfInBounds_toArray,List.set_cons_zero,List.set_cons_succ]
   (first | (refine wpHold_pure (v:=?_) (by rfl) (fun w=>?_) ?_;rotate_left;focus (first | (go_simp;done) | (go_simp;with_reducible rfl))) | (refine wpHold_skip ?_ ?_;focus (go_simp;done)) | (refine wpHold_pure' (v:=?_) ?_ (fun w=>?_) ?_;rotate_left;focus (go_simp;done);focus (first | (go_simp;done) | (go_simp;with_reducible rfl))));try simp only [Act.put,List.setIfInBounds_toArray,List.set_cons_zero,List.set_cons_succ]
   (first | (refine wpHold_pure (v:=?_) (by rfl) (fun w=>?_) ?_;rotate_left;focus (first | (go_simp;done) | (go_simp;with_reducible rfl))) | (refine wpHold_skip ?_ ?_;focus (go_simp;done)) | (refine wpHold_pure' (v:=?_) ?_ (fun w=>?_) ?_;rotate_left;focus (go_simp;done);focus (first | (go_simp;done) | (go_simp;with_reducible rfl))));try simp only [Act.put,List.setIfInBounds_toArray,List.set_cons_zero,List.set_cons_succ]
   refine wpHold_pure (v:=.pointer (some ⟨b,o+i*10,none⟩)) (by rfl) (fun w'=>?_) ?_
   ·go_simp
    done
   try simp only [Act.put,List.setIfInBounds_toArray,List.set_cons_zero,List.set_cons_succ]
   refine wpHold_read (v:=.agg #[.string x.okey.kind,.string x.okey.space,.string x.okey.name,y1,y2,y3,.bool x.ending,.string x.uid,.int .i64 x.rev,.string x.doc]) (by rfl) (fun w' hI=>?_) ?_
   ·have d0:=(hI.cell (p:=⟨b,o+i*10,none⟩) hb0).trans e0
    have d1:=(hI.cell (p:=⟨b,o+i*10+1,none⟩) hb0).trans e1
    have d2:=(hI.cell (p:=⟨b,o+i*10+2,none⟩) hb0).trans e2
    have d3:=(hI.cell (p:=⟨b,o+i*10+3,none⟩) hb0).trans e3
    have d4:=(hI.cell (p:=⟨b,o+i*10+4,none⟩) hb0).trans e4
    have d5:=(hI.cell (p:=⟨b,o+i*10+5,none⟩) hb0).trans e5
    have d6:=(hI.cell (p:=⟨b,o+i*10+6,none⟩) hb0).trans e6
    have d7:=(hI.cell (p:=⟨b,o+i*10+7,none⟩) hb0).trans e7
    have d8:=(hI.cell (p:=⟨b,o+i*10+8,none⟩) hb0).trans e8
    have d9:=(hI.cell (p:=⟨b,o+i*10+9,none⟩) hb0).trans e9
    go_simp
    done
   try simp only [Act.put,List.setIfInBounds_toArray,List.set_cons_zero,List.set_cons_succ]
   (first | (refine wpHold_pure (v:=?_) (by rfl) (fun w=>?_) ?_;rotate_left;focus (first | (go_simp;done) | (go_simp;with_reducible rfl))) | (refine wpHold_skip ?_ ?_;focus (go_simp;done)) | (refine wpHold_pure' (v:=?_) ?_ (fun w=>?_) ?_;rotate_left;focus (go_simp;done);focus (first | (go_simp;done) | (go_simp;with_reducible rfl))));try simp only [Act.put,List.setIfInBounds_toArray,List.set_cons_zero,List.set_cons_succ]
   (first | (refine wpHold_pure (v:=?_) (by rfl) (fun w=>?_) ?_;rotate_left;focus (first | (go_simp;done) | (go_simp;with_reducible rfl))) | (refine wpHold_skip ?_ ?_;focus (go_simp;done)) | (refine wpHold_pure' (v:=?_) ?_ (fun w=>?_) ?_;rotate_left;focus (go_simp;done);focus (first | (go_simp;done) | (go_simp;with_reducible rfl))));try simp only [Act.put,List.setIfInBounds_toArray,List.set_cons_zero,List.set_cons_succ]
   refine wpHold_pure (v:=.pointer (some ⟨b',o'+i*10,none⟩)) (by rfl) (fun w'=>?_) ?_
   ·go_simp
    done
   try simp only [Act.put,List.setIfInBounds_toArray,List.set_cons_zero,List.set_cons_succ]
   refine wpHold_read (v:=.agg #[.string x.okey.kind,.string x.okey.space,.string x.okey.name,z1,z2,z3,.bool x.ending,.string x.uid,.int .i64 x.rev,.string x.doc]) (by rfl) (fun w' hI=>?_) ?_
   ·have d0:=(hI.cell (p:=⟨b',o'+i*10,none⟩) hb1).trans f0
    have d1:=(hI.cell (p:=⟨b',o'+i*10+1,none⟩) hb1).trans f1
    have d2:=(hI.cell (p:=⟨b',o'+i*10+2,none⟩) hb1).trans f2
    have d3:=(hI.cell (p:=⟨b',o'+i*10+3,none⟩) hb1).trans f3
    have d4:=(hI.cell (p:=⟨b',o'+i*10+4,none⟩) hb1).trans f4
    have d5:=(hI.cell (p:=⟨b',o'+i*10+5,none⟩) hb1).trans f5
    have d6:=(hI.cell (p:=⟨b',o'+i*10+6,none⟩) hb1).trans f6
    have d7:=(hI.cell (p:=⟨b',o'+i*10+7,none⟩) hb1).trans f7
    have d8:=(hI.cell (p:=⟨b',o'+i*10+8,none⟩) hb1).trans f8
    have d9:=(hI.cell (p:=⟨b',o'+i*10+9,none⟩) hb1).trans f9
    go_simp
    done
   try simp only [Act.put,List.setIfInBounds_toArray,List.set_cons_zero,List.set_cons_succ]
   refine wpHold_call (v:=.bool true) (f:=19) (args:=#[.agg #[.string x.okey.kind,.string x.okey.space,.string x.okey.name,y1,y2,y3,.bool x.ending,.string x.uid,.int .i64 x.rev,.string x.doc],.agg #[.string x.okey.kind,.string x.okey.space,.string x.okey.name,z1,z2,z3,.bool x.ending,.string x.uid,.int .i64 x.rev,.string x.doc]]) (by rfl) (fun w'=>?_) (fun w' hI=>HC.out w' hI) ?_
   ·simp only [run_sameObjS,go_sem]
    go_simp
    done
   try simp only [Act.put,List.setIfInBounds_toArray,List.set_cons_zero,List.set_cons_succ]
   refine wpHold_nil ?_
   intro w' hI
   have Hb':=Lib.hid (Hbel.out.trans (hI.mono Hbel.out.size))
   clear hI e0 f0 e1 f1 e2 f2 e3 f3 e4 f4 e5 f5 e6 f6 e7 f7 e8 f8 e9 f9 HC
   go_wp2_with fail
   go_roundg k
   case measure=>omega
   case rel=>exact⟨i+1,by omega,by go_num,Hb'⟩
theorem objs_row {D:Dom} {w:World} {T:TypeId} {v:Value} {l:List GObject} (h:OwnX ObjX 10 D w T v l) (hok:∀ o∈l,OkObj o):RowAt ObjectR 10 w v l:=by
 have h1:OwnAt ObjectR 10 w 0 T v l:=h.1.imp' fun cs x hx ⟨v1,v2,v3,e,hi⟩=>⟨v1,v2,v3,e,hi.rowL,hi.rowO,hi.rowH,(hok x hx).rev⟩
 exact h1.row
end Sto
end Go.Proofs.YtnnceaapodgfbaaGreatDoor
