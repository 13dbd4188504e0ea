/- Texts of ours joined. -/
import Derived.Deep.DeepAppendRoom
import Derived.Laws.MakeOwn
import Derived.Deep.LoopGhost
import Derived.Lib.Hide
import Derived.IntWalk
import Derived.Shelf.SlLaysF0
import Derived.Test.YtnnceaapodgfbaaGreatDoorProg
import Derived.Shelf.SlSortCmp.Kit1
import Derived.Shelf.SlSortCmp.NoneTotal
import Derived.Test.YtnnceaapodgfbaaGreatDoorAz9
set_option linter.unusedVariables false
set_option linter.unusedSimpArgs false
namespace Go.Proofs.YtnnceaapodgfbaaGreatDoor
namespace Sto
open Go.RowKit
def EvR:Rd GEvent:=fun w cs x=>∃ v1 v2 v3,cs = [.int .i64 x.kind,.int .i64 x.rev,.string x.object.okey.kind,.string x.object.okey.space,.string x.object.okey.name,v1,v2,v3,.bool x.object.ending,.string x.object.uid,.int .i64 x.object.rev,.string x.object.doc]∧RowAt LabelR 2 w v1 x.object.labels∧StrAt w v2 x.object.owners∧StrAt w v3 x.object.holds
theorem stays_ev:Stays EvR:=fun w w' cs x hk ⟨v1,v2,v3,h,h1,h2,h3⟩=>⟨v1,v2,v3,h,h1.keep stays_label hk,h2.keep hk,h3.keep hk⟩
abbrev okEvS (x:GEvent):Prop:=OkObj x.object
set_option maxRecDepth 100000 in
set_option maxHeartbeats 3200000 in
theorem sameEvS_yes (x:GEvent) (y1 z1 y2 z2 y3 z3:Value) (w:World) (hx:EvR w [.int .i64 x.kind,.int .i64 x.rev,.string x.object.okey.kind,.string x.object.okey.space,.string x.object.okey.name,y1,y2,y3,.bool x.object.ending,.string x.object.uid,.int .i64 x.object.rev,.string x.object.doc] x) (hy:EvR w [.int .i64 x.kind,.int .i64 x.rev,.string x.object.okey.kind,.string x.object.okey.space,.string x.object.okey.name,z1,z2,z3,.bool x.object.ending,.string x.object.uid,.int .i64 x.object.rev,.string x.object.doc] x) (ok:okEvS x) :
  Calls Tryz.prog 39 #[.agg #[.int .i64 x.kind,.int .i64 x.rev,.string x.object.okey.kind,.string x.object.okey.space,.string x.object.okey.name,y1,y2,y3,.bool x.object.ending,.string x.object.uid,.int .i64 x.object.rev,.string x.object.doc],.agg #[.int .i64 x.kind,.int .i64 x.rev,.string x.object.okey.kind,.string x.object.okey.space,.string x.object.okey.name,z1,z2,z3,.bool x.object.ending,.string x.object.uid,.int .i64 x.object.rev,.string x.object.doc]] w fun e w'=>e=.returned (.bool true)∧Below w.heap.size w w':=by
 obtain⟨v1,v2,v3,hcs,p1,p2,p3⟩:=hx
 obtain⟨u1,u2,u3,hdd,r1,r2,r3⟩:=hy
 simp only [List.cons.injEq,and_true,true_and] at hcs hdd
 obtain⟨rfl,rfl,rfl⟩:=hcs
 obtain⟨rfl,rfl,rfl⟩:=hdd
 obtain⟨W,hW⟩:∃ W,W=(w.alloc (.cells #[.int .i64 x.kind,.int .i64 x.rev,.string x.object.okey.kind,.string x.object.okey.space,.string x.object.okey.name,y1,y2,y3,.bool x.object.ending,.string x.object.uid,.int .i64 x.object.rev,.string x.object.doc] 56)).alloc (.cells #[.int .i64 x.kind,.int .i64 x.rev,.string x.object.okey.kind,.string x.object.okey.space,.string x.object.okey.name,z1,z2,z3,.bool x.object.ending,.string x.object.uid,.int .i64 x.object.rev,.string x.object.doc] 56):=⟨_,rfl⟩
 obtain⟨ga,hga⟩:∃ g,g=w.heap.size:=⟨_,rfl⟩
 obtain⟨gb,hgb⟩:∃ g,g=w.heap.size+1:=⟨_,rfl⟩
 have BA:=Lib.hid (show W.heap[ga]? = some (.cells #[.int .i64 x.kind,.int .i64 x.rev,.string x.object.okey.kind,.string x.object.okey.space,.string x.object.okey.name,y1,y2,y3,.bool x.object.ending,.string x.object.uid,.int .i64 x.object.rev,.string x.object.doc] 56 (0,0)) by rw [hW,hga];exact heap_alloc_old (heap_alloc_new w _))
 have BB:=Lib.hid (show W.heap[gb]? = some (.cells #[.int .i64 x.kind,.int .i64 x.rev,.string x.object.okey.kind,.string x.object.okey.space,.string x.object.okey.name,z1,z2,z3,.bool x.object.ending,.string x.object.uid,.int .i64 x.object.rev,.string x.object.doc] 56 (0,0)) by rw [hW,hgb];exact heap_alloc_at (World.size_alloc _ _).symm)
 have hb1:Below w.heap.size w W:=by rw [hW];exact ((Below.refl _ w).alloc (Nat.le_refl _) _).alloc (by rw [World.size_alloc];omega) _
 have HB1:=Lib.hid hb1
 have HS:=Lib.hid (sameObj_yes x.object y1 y2 y3 z1 z2 z3 W (p1.below stays_label hb1) (p2.below hb1) (p3.below hb1) (r1.below stays_label hb1) (r2.below hb1) (r3.below hb1) ok)
 rw [show objW x.object y1 y2 y3=.agg #[.string x.object.okey.kind,.string x.object.okey.space,.string x.object.okey.name,y1,y2,y3,.bool x.object.ending,.string x.object.uid,.int .i64 x.object.rev,.string x.object.doc] from rfl,show objW x.object z1 z2 z3=.agg #[.string x.object.okey.kind,.string x.object.okey.space,.string x.object.okey.name,z1,z2,z3,.bool x.object.ending,.string x.object.uid,.int .i64 x.object.rev,.string x.object.doc] from rfl] at HS
 have ca:=fun i=>cell_block BA.out i
 have cb:=fun i=>cell_block BB.out i
 obtain⟨a1,c1,rfl,-,-⟩:=p1.len
 obtain⟨a2,c2,rfl,-,-⟩:=p2.row.len
 obtain⟨a3,c3,rfl,-,-⟩:=p3.row.len
 obtain⟨b1,d1,rfl,-,-⟩:=r1.len
 obtain⟨b2,d2,rfl,-,-⟩:=r2.row.len
 obtain⟨b3,d3,rfl,-,-⟩:=r3.row.len
 clear p1 p2 p3 r1 r2 r3 ok hb1
 go_enter Tryz.func39,Tryz.ntmps39
 go_upto_region 1 with fail
 rw [←hgb,←hga,←hW]
 clear hW hga hgb
 go_wp2_with fail
 refine HS.out.mono ?_
 rintro E w3 ⟨rfl,hb3⟩
 have HB3:=Lib.hid (HB1.out.trans (hb3.mono HB1.out.size))
 clear hb3
 go_wp2_with fail
 go_ret
 exact⟨by first | rfl | simp,HB3.out⟩
theorem run_sameEvS:∀ (a:Array Value) (w:World),(callFunc 39 a).run Tryz.prog w=.ok (.enter 39 a) w:=run_callFunc_body Tryz.func39 (by kernel_rfl) (by kernel_rfl)
set_option maxRecDepth 100000 in
set_option maxHeartbeats 3200000 in
theorem sameEvSs_yes (v1 v2:Value) (l:List GEvent) (w:World) (h1:RowAt EvR 12 w v1 l) (h2:RowAt EvR 12 w v2 l) (hl:l.length≤8388608) (ok:∀ r∈l,okEvS r) :
  Calls Tryz.prog 38 #[v1,v2,.func (.func 39) #[] #[]] w fun e w'=>e=.returned (.bool true)∧Below w.heap.size w w':=by
 obtain⟨a1,c1,rfl,_,_⟩:=h1.len
 obtain⟨a2,c2,rfl,_,_⟩:=h2.len
 have H1:=Lib.hid h1
 have H2:=Lib.hid h2
 have Ok:=Lib.hid ok
 obtain⟨n,hn⟩:∃ n,l.length=n:=⟨_,rfl⟩
 rw [hn] at H1 H2 hl ⊢
 have Hn:=Lib.hid hn
 clear h1 h2 ok hn
 have q1:((n:Int) != (n:Int))=false:=by rw [bne_eq_false_iff_eq]
 go_enter Tryz.func38,Tryz.ntmps38
 go_wp2_with fail
 clear q1
 go_loopg [15] n (fun g u15 wr=>∃ i:Nat,i+g=n∧u15=.int .i64 (i:Int)∧Hid (Below w.heap.size w wr))
 case atStart=>exact⟨0,by omega,rfl,Lib.hid (Below.refl _ _)⟩
 case round=>
  obtain⟨i,hig,rfl,Hbel⟩:=hrel
  cases gk with
  | zero=>
   obtain rfl:n=i:=by omega
   go_wp2_with fail
   go_ret
   exact⟨rfl,Hbel.out⟩
  | succ k=>
   have hil:i<n:=by omega
   obtain⟨x,hx⟩:∃ x,l[i]? = some x:=⟨l[i]'(by rw [Hn.out];exact hil),List.getElem?_eq_getElem _⟩
   obtain⟨b,o,c',hv,_,_,hbs,hcell⟩:=H1.out.form (by rw [Hn.out];omega) (by omega)
   injection hv with u1 u2 u3
   subst u1
   clear u2 u3
   obtain⟨b',o',c'',hv,_,_,hbs',hcell'⟩:=H2.out.form (by rw [Hn.out];omega) (by omega)
   injection hv with u1 u2 u3
   subst u1
   clear u2 u3
   obtain⟨ds,_,hcc,hR⟩:=hcell i x hx
   obtain⟨es,_,hdd,hS⟩:=hcell' i x hx
   have SR:=stays_ev _ _ _ _ (keeps_below Hbel.out) hR
   have SS:=stays_ev _ _ _ _ (keeps_below Hbel.out) hS
   have SR2:=SR
   have SS2:=SS
   obtain⟨y1,y2,y3,rfl,_⟩:=SR2
   obtain⟨z1,z2,z3,rfl,_⟩:=SS2
   have e0:wr.cell? ⟨b,o+i*12,none⟩=some (.int .i64 x.kind):=(Hbel.out.cell (p:=⟨b,_,none⟩) hbs).trans (by simpa using hcc 0 _ rfl)
   have f0:wr.cell? ⟨b',o'+i*12,none⟩=some (.int .i64 x.kind):=(Hbel.out.cell (p:=⟨b',_,none⟩) hbs').trans (by simpa using hdd 0 _ rfl)
   have e1:wr.cell? ⟨b,o+i*12+1,none⟩=some (.int .i64 x.rev):=(Hbel.out.cell (p:=⟨b,_,none⟩) hbs).trans (hcc 1 _ rfl)
   have f1:wr.cell? ⟨b',o'+i*12+1,none⟩=some (.int .i64 x.rev):=(Hbel.out.cell (p:=⟨b',_,none⟩) hbs').trans (hdd 1 _ rfl)
   have e2:wr.cell? ⟨b,o+i*12+2,none⟩=some (.string x.object.okey.kind):=(Hbel.out.cell (p:=⟨b,_,none⟩) hbs).trans (hcc 2 _ rfl)
   have f2:wr.cell? ⟨b',o'+i*12+2,none⟩=some (.string x.object.okey.kind):=(Hbel.out.cell (p:=⟨b',_,none⟩) hbs').trans (hdd 2 _ rfl)
   have e3:wr.cell? ⟨b,o+i*12+3,none⟩=some (.string x.object.okey.space):=(Hbel.out.cell (p:=⟨b,_,none⟩) hbs).trans (hcc 3 _ rfl)
   have f3:wr.cell? ⟨b',o'+i*12+3,none⟩=some (.string x.object.okey.space):=(Hbel.out.cell (p:=⟨b',_,none⟩) hbs').trans (hdd 3 _ rfl)
   have e4:wr.cell? ⟨b,o+i*12+4,none⟩=some (.string x.object.okey.name):=(Hbel.out.cell (p:=⟨b,_,none⟩) hbs).trans (hcc 4 _ rfl)
   have f4:wr.cell? ⟨b',o'+i*12+4,none⟩=some (.string x.object.okey.name):=(Hbel.out.cell (p:=⟨b',_,none⟩) hbs').trans (hdd 4 _ rfl)
   have e5:wr.cell? ⟨b,o+i*12+5,none⟩=some (y1):=(Hbel.out.cell (p:=⟨b,_,none⟩) hbs).trans (hcc 5 _ rfl)
   have f5:wr.cell? ⟨b',o'+i*12+5,none⟩=some (z1):=(Hbel.out.cell (p:=⟨b',_,none⟩) hbs').trans (hdd 5 _ rfl)
   have e6:wr.cell? ⟨b,o+i*12+6,none⟩=some (y2):=(Hbel.out.cell (p:=⟨b,_,none⟩) hbs).trans (hcc 6 _ rfl)
   have f6:wr.cell? ⟨b',o'+i*12+6,none⟩=some (z2):=(Hbel.out.cell (p:=⟨b',_,none⟩) hbs').trans (hdd 6 _ rfl)
   have e7:wr.cell? ⟨b,o+i*12+7,none⟩=some (y3):=(Hbel.out.cell (p:=⟨b,_,none⟩) hbs).trans (hcc 7 _ rfl)
   have f7:wr.cell? ⟨b',o'+i*12+7,none⟩=some (z3):=(Hbel.out.cell (p:=⟨b',_,none⟩) hbs').trans (hdd 7 _ rfl)
   have e8:wr.cell? ⟨b,o+i*12+8,none⟩=some (.bool x.object.ending):=(Hbel.out.cell (p:=⟨b,_,none⟩) hbs).trans (hcc 8 _ rfl)
   have f8:wr.cell? ⟨b',o'+i*12+8,none⟩=some (.bool x.object.ending):=(Hbel.out.cell (p:=⟨b',_,none⟩) hbs').trans (hdd 8 _ rfl)
   have e9:wr.cell? ⟨b,o+i*12+9,none⟩=some (.string x.object.uid):=(Hbel.out.cell (p:=⟨b,_,none⟩) hbs).trans (hcc 9 _ rfl)
   have f9:wr.cell? ⟨b',o'+i*12+9,none⟩=some (.string x.object.uid):=(Hbel.out.cell (p:=⟨b',_,none⟩) hbs').trans (hdd 9 _ rfl)
   have e10:wr.cell? ⟨b,o+i*12+10,none⟩=some (.int .i64 x.object.rev):=(Hbel.out.cell (p:=⟨b,_,none⟩) hbs).trans (hcc 10 _ rfl)
   have f10:wr.cell? ⟨b',o'+i*12+10,none⟩=some (.int .i64 x.object.rev):=(Hbel.out.cell (p:=⟨b',_,none⟩) hbs').trans (hdd 10 _ rfl)
   have e11:wr.cell? ⟨b,o+i*12+11,none⟩=some (.string x.object.doc):=(Hbel.out.cell (p:=⟨b,_,none⟩) hbs).trans (hcc 11 _ rfl)
   have f11:wr.cell? ⟨b',o'+i*12+11,none⟩=some (.string x.object.doc):=(Hbel.out.cell (p:=⟨b',_,none⟩) hbs').trans (hdd 11 _ rfl)
   have q1:(0:Int)≤(i:Int):=by omega
   have q2:(i:Int)<(n:Int):=by omega
   have hb0:b<wr.heap.size:=Nat.lt_of_lt_of_le hbs Hbel.out.size
   have hb1:b'<wr.heap.size:=Nat.lt_of_lt_of_le hbs' Hbel.out.size
   have hokx:=Ok.out x (List.mem_of_getElem? hx)
   have HC:Hid (∀ w',Below wr.heap.size wr w'→Calls Tryz.prog 39 #[.agg #[.int .i64 x.kind,.int .i64 x.rev,.string x.object.okey.kind,.string x.object.okey.space,.string x.object.okey.name,y1,y2,y3,.bool x.object.ending,.string x.object.uid,.int .i64 x.object.rev,.string x.object.doc],.agg #[.int .i64 x.kind,.int .i64 x.rev,.string x.object.okey.kind,.string x.object.okey.space,.string x.object.okey.name,z1,z2,z3,.bool x.object.ending,.string x.object.uid,.int .i64 x.object.rev,.string x.object.doc]] w' fun e w''=>e=.returned (.bool true)∧Below wr.heap.size wr w''):=Lib.hid fun w' hb'=>by
    refine (sameEvS_yes x y1 z1 y2 z2 y3 z3 w' (stays_ev _ _ _ _ (keeps_below hb') SR) (stays_ev _ _ _ _ (keeps_below hb') SS) hokx).mono ?_
    rintro E w'' ⟨rfl,hb''⟩
    exact⟨rfl,hb'.trans (hb''.mono hb'.size)⟩
   clear hcell hcell' hx hcc hdd hR hS SR SS hokx hbs hbs'
   go_upto_region 6 with fail
   refine wp_region_hold 10 (fun w'=>Below wr.heap.size wr w') (by kernel_rfl) (by kernel_rfl) ?_ ?_
   ·exact below_drew1' wr
   simp only [List.take_succ_cons,List.take_zero,List.drop_succ_cons,List.drop_zero]
   (first | (refine wpHold_pure (v:=?_) (by rfl) (fun w=>?_) ?_;rotate_left;focus (first | (go_simp;done) | (go_simp;with_reducible rfl))) | (refine wpHold_skip ?_ ?_;focus (go_simp;done)) | (refine wpHold_pure' (v:=?_) ?_ (fun w=>?_) ?_;rotate_left;focus (go_simp;done);focus (first | (go_simp;done) | (go_simp;with_reducible rfl))));try simp only [Act.put,List.setIfInBounds_toArray,List.set_cons_zero,List.set_cons_succ]
   (first | (refine wpHold_pure (v:=?_) (by rfl) (fun w=>?_) ?_;rotate_left;focus (first | (go_simp;done) | (go_simp;with_reducible rfl))) | (refine wpHold_skip ?_ ?_;focus (go_simp;done)) | (refine wpHold_pure' (v:=?_) ?_ (fun w=>?_) ?_;rotate_left;focus (go_simp;done);focus (first | (go_simp;done) | (go_simp;with_reducible rfl))));try simp only [Act.put,List.setIfInBounds_toArray,List.set_cons_zero,List.set_cons_succ]
   (first | (refine wpHold_pure (v:=?_) (by rfl) (fun w=>?_) ?_;rotate_left;focus (first | (go_simp;done) | (go_simp;with_reducible rfl))) | (refine wpHold_skip ?_ ?_;focus (go_simp;done)) | (refine wpHold_pure' (v:=?_) ?_ (fun w=>?_) ?_;rotate_left;focus (go_simp;done);focus (first | (go_simp;done) | (go_simp;with_reducible rfl))));try simp only [Act.put,List.setIfInBounds_toArray,List.set_cons_zero,List.set_cons_succ]
   refine wpHold_pure (v:=.pointer (some ⟨b,o+i*12,none⟩)) (by rfl) (fun w'=>?_) ?_
   ·go_simp
    done
   try simp only [Act.put,List.setIfInBounds_toArray,List.set_cons_zero,List.set_cons_succ]
   refine wpHold_read (v:=.agg #[.int .i64 x.kind,.int .i64 x.rev,.string x.object.okey.kind,.string x.object.okey.space,.string x.object.okey.name,y1,y2,y3,.bool x.object.ending,.string x.object.uid,.int .i64 x.object.rev,.string x.object.doc]) (by rfl) (fun w' hI=>?_) ?_
   ·have d0:=(hI.cell (p:=⟨b,o+i*12,none⟩) hb0).trans e0
    have d1:=(hI.cell (p:=⟨b,o+i*12+1,none⟩) hb0).trans e1
    have d2:=(hI.cell (p:=⟨b,o+i*12+2,none⟩) hb0).trans e2
    have d3:=(hI.cell (p:=⟨b,o+i*12+3,none⟩) hb0).trans e3
    have d4:=(hI.cell (p:=⟨b,o+i*12+4,none⟩) hb0).trans e4
    have d5:=(hI.cell (p:=⟨b,o+i*12+5,none⟩) hb0).trans e5
    have d6:=(hI.cell (p:=⟨b,o+i*12+6,none⟩) hb0).trans e6
    have d7:=(hI.cell (p:=⟨b,o+i*12+7,none⟩) hb0).trans e7
    have d8:=(hI.cell (p:=⟨b,o+i*12+8,none⟩) hb0).trans e8
    have d9:=(hI.cell (p:=⟨b,o+i*12+9,none⟩) hb0).trans e9
    have d10:=(hI.cell (p:=⟨b,o+i*12+10,none⟩) hb0).trans e10
    have d11:=(hI.cell (p:=⟨b,o+i*12+11,none⟩) hb0).trans e11
    go_simp
    done
   try simp only [Act.put,List.setIfInBounds_toArray,List.set_cons_zero,List.set_cons_succ]
   (first | (refine wpHold_pure (v:=?_) (by rfl) (fun w=>?_) ?_;rotate_left;focus (first | (go_simp;done) | (go_simp;with_reducible rfl))) | (refine wpHold_skip ?_ ?_;focus (go_simp;done)) | (refine wpHold_pure' (v:=?_) ?_ (fun w=>?_) ?_;rotate_left;focus (go_simp;done);focus (first | (go_simp;done) | (go_simp;with_reducible rfl))));try simp only [Act.put,List.setIfInBounds_toArray,List.set_cons_zero,List.set_cons_succ]
   (first | (refine wpHold_pure (v:=?_) (by rfl) (fun w=>?_) ?_;rotate_left;focus (first | (go_simp;done) | (go_simp;with_reducible rfl))) | (refine wpHold_skip ?_ ?_;focus (go_simp;done)) | (refine wpHold_pure' (v:=?_) ?_ (fun w=>?_) ?_;rotate_left;focus (go_simp;done);focus (first | (go_simp;done) | (go_simp;with_reducible rfl))));try simp only [Act.put,List.setIfInBounds_toArray,List.set_cons_zero,List.set_cons_succ]
   refine wpHold_pure (v:=.pointer (some ⟨b',o'+i*12,none⟩)) (by rfl) (fun w'=>?_) ?_
   ·go_simp
    done
   try simp only [Act.put,List.setIfInBounds_toArray,List.set_cons_zero,List.set_cons_succ]
   refine wpHold_read (v:=.agg #[.int .i64 x.kind,.int .i64 x.rev,.string x.object.okey.kind,.string x.object.okey.space,.string x.object.okey.name,z1,z2,z3,.bool x.object.ending,.string x.object.uid,.int .i64 x.object.rev,.string x.object.doc]) (by rfl) (fun w' hI=>?_) ?_
   ·have d0:=(hI.cell (p:=⟨b',o'+i*12,none⟩) hb1).trans f0
    have d1:=(hI.cell (p:=⟨b',o'+i*12+1,none⟩) hb1).trans f1
    have d2:=(hI.cell (p:=⟨b',o'+i*12+2,none⟩) hb1).trans f2
    have d3:=(hI.cell (p:=⟨b',o'+i*12+3,none⟩) hb1).trans f3
    have d4:=(hI.cell (p:=⟨b',o'+i*12+4,none⟩) hb1).trans f4
    have d5:=(hI.cell (p:=⟨b',o'+i*12+5,none⟩) hb1).trans f5
    have d6:=(hI.cell (p:=⟨b',o'+i*12+6,none⟩) hb1).trans f6
    have d7:=(hI.cell (p:=⟨b',o'+i*12+7,none⟩) hb1).trans f7
    have d8:=(hI.cell (p:=⟨b',o'+i*12+8,none⟩) hb1).trans f8
    have d9:=(hI.cell (p:=⟨b',o'+i*12+9,none⟩) hb1).trans f9
    have d10:=(hI.cell (p:=⟨b',o'+i*12+10,none⟩) hb1).trans f10
    have d11:=(hI.cell (p:=⟨b',o'+i*12+11,none⟩) hb1).trans f11
    go_simp
    done
   try simp only [Act.put,List.setIfInBounds_toArray,List.set_cons_zero,List.set_cons_succ]
   refine wpHold_call (v:=.bool true) (f:=39) (args:=#[.agg #[.int .i64 x.kind,.int .i64 x.rev,.string x.object.okey.kind,.string x.object.okey.space,.string x.object.okey.name,y1,y2,y3,.bool x.object.ending,.string x.object.uid,.int .i64 x.object.rev,.string x.object.doc],.agg #[.int .i64 x.kind,.int .i64 x.rev,.string x.object.okey.kind,.string x.object.okey.space,.string x.object.okey.name,z1,z2,z3,.bool x.object.ending,.string x.object.uid,.int .i64 x.object.rev,.string x.object.doc]]) (by rfl) (fun w'=>?_) (fun w' hI=>HC.out w' hI) ?_
   ·simp only [run_sameEvS,go_sem]
    go_simp
    done
   try simp only [Act.put,List.setIfInBounds_toArray,List.set_cons_zero,List.set_cons_succ]
   refine wpHold_nil ?_
   intro w' hI
   have Hb':=Lib.hid (Hbel.out.trans (hI.mono Hbel.out.size))
   clear hI e0 f0 e1 f1 e2 f2 e3 f3 e4 f4 e5 f5 e6 f6 e7 f7 e8 f8 e9 f9 e10 f10 e11 f11 HC
   go_wp2_with fail
   go_roundg k
   case measure=>omega
   case rel=>exact⟨i+1,by omega,by go_num,Hb'⟩
theorem evs_row {D:Dom} {w:World} {T:TypeId} {v:Value} {l:List GEvent} (h:OwnX EvX 12 D w T v l):RowAt EvR 12 w v l:=by
 have h1:OwnAt EvR 12 w 0 T v l:=h.1.imp' fun cs x hx ⟨v1,v2,v3,e,hi⟩=>⟨v1,v2,v3,e,hi.rowL,hi.rowO,hi.rowH⟩
 exact h1.row
end Sto
end Go.Proofs.YtnnceaapodgfbaaGreatDoor
namespace Go.Proofs.YtnnceaapodgfbaaGreatDoor
open Go.RowKit
def markB:ByteArray:=⟨#[109,97,114,107]⟩
theorem wpList_append_strs_spare {P:Program} {l m:List ByteArray} (w:World) {ops:Array Oper} {rest:List Oper} {o:Oper} {a:Act} {Q:Exit→Act→World→Prop} (hgd:o.guard=none) (s x:Operand) (t:TypeId)
  (ho:o.op=.call {callee:=.builtin .append,args:=#[s,x],argTypes:=#[t,t]})
  (base:Nat) (e:TypeId) (i:TypeInfo) (ht:P.underlying t=some (.slice e)) (hi:P.info? e=some i) (hsize:i.size=1)
  (g n cap:Nat) (hs:a.eval s=.slice (some ⟨g,0,none⟩) n cap) (hown:w.ownsRow base e 1 (.slice (some ⟨g,0,none⟩) n cap) n (strs l)) (xv:Value) (hx:a.eval x=xv) (hrow:StrAt w xv m)
  (k:Nat) (hk:k=n+m.length) (hroom:k≤cap)
  (h:∀ w',w'.ownsRow base e 1 (.slice (some ⟨g,0,none⟩) k cap) k (strs (l++m))→w.grownBy w' (some g)→wpList P ops Q rest (a.put o.dst (.slice (some ⟨g,0,none⟩) k cap)) w'):wpList P ops Q (o :: rest) a w:=by
 subst hk
 rcases hrow with ⟨rfl,rfl⟩ | ⟨ad,c,rfl,h1,h2,h3⟩
 ·have h9:=h w (by simpa using hown) (World.grownBy.refl w _)
  simp only [List.length_nil,Nat.add_zero] at h9
  exact wpList_append_own_none hgd s x t ho base e i 1 ht hi _ n _ hs hown hx h9
 ·refine wpList_append_own_spare w hgd s x t ho base e i 1 ht hi hsize g n cap _ hs hown ad m.length c (strs m) hx (by simp [strs]) (fun j u hu=>?_) (by simp [strs];intros;subst_vars;rfl) hroom
   (fun w' h2 h3=>h w' (by rw [strs_append];exact h2) h3)
  simp only [strs,List.getElem?_map] at hu
  cases hm:m[j]? with
  | none=>rw [hm] at hu;cases hu
  | some y=>
   rw [hm] at hu
   simp only [Option.map_some,Option.some.injEq] at hu
   subst hu
   exact h3 j y hm
theorem two_marks {w:World} {g:Nat} {t:TypeId} (h:w.heap[g]? = some (.cells #[.string markB,.string markB] t (0,0))):StrAt w (.slice (some ⟨g,0,none⟩) 2 2) [markB,markB]:=by
 refine .inr ⟨_,2,rfl,Nat.le_refl _,by unfold maxLen;decide,fun j x hx=>?_⟩
 have hj:j<2:=(List.getElem?_eq_some_iff.1 hx).1
 rw [add_plain',Nat.zero_add]
 have:w.cell? ⟨g,j,none⟩=#[Value.string markB,Value.string markB][j]?:=cell_block h j
 rw [this]
 match j,hj with
 | 0,_=>simp at hx;subst hx;rfl
 | 1,_=>simp at hx;subst hx;rfl
theorem own_full {w:World} {B g n:Nat} {e:TypeId} {L:List ByteArray} (h:w.ownsRow B e 1 (.slice (some ⟨g,0,none⟩) n n) n (strs L)) (hL:L.length=n):w.heap[g]? = some (.cells (strs L).toArray e (0,0))∧B≤g:=by
 rcases h.2 with ⟨hv,_⟩ | ⟨g',cap,cur,hv,h1,h2,_,_,h4,h5⟩
 ·cases hv
 ·injection hv with e1 e2 e3
  injection e1 with e1
  injection e1 with e1
  subst e1 e3
  rw [Nat.mul_one] at h4 h5
  have:cur.toList=strs L:=by rw [←h5,List.take_of_length_le (by simp [h4])]
  refine⟨?_,h1⟩
  rw [h2,←this]
set_option maxRecDepth 100000 in
set_option maxHeartbeats 800000 in
theorem texts_any (v:Value) (l:List ByteArray) (w:World) (h:StrAt w v l) (hl:l.length≤1048576) :
  Calls Tryz.prog 42 #[v] w fun e w'=>∃ g,e=.returned (.slice (some ⟨g,0,none⟩) l.length (l.length+2))∧w.heap.size≤g∧w'.heap[g]? = some (.cells (strs (l++[markB,markB])).toArray 9 (0,0))∧Below w.heap.size w w':=by
 obtain⟨i0,hi0,hz0,hz1,hz2⟩:=info_parts Tryz.infoStr
 obtain⟨a1,c1,rfl,hc1,hc2⟩:=h.len
 obtain⟨n,hn⟩:∃ n,l.length=n:=⟨_,rfl⟩
 rw [hn] at hc1 hl h ⊢
 have q1:(0:Int)≤(n:Int)+2:=by omega
 have q2:(n:Int)+2=((n+2:Nat):Int):=by omega
 obtain⟨w1,hr1,hown1,hg1⟩:=run_make_own (P:=Tryz.prog) w w.heap.size 28 9 i0 _ 1 Tryz.underlying28 hi0 hz0 hz1 .i64 .i64 (n+2) (by rw [hz2];omega) (by unfold maxLen;omega) (Nat.le_refl _)
 rw [←q2] at hr1
 clear q2
 have HO1:=Lib.hid hown1
 have HG1:=Lib.hid hg1
 have H:=Lib.hid h
 have Hn:=Lib.hid hn
 clear hown1 hg1 h hn
 go_enter Tryz.func42,Tryz.ntmps42
 go_wp2_with (at_builtin;refine wpList_append_strs_spare _ (by rfl) _ _ _ (by rfl) w.heap.size _ i0 Tryz.underlying28 hi0 hz1 w.heap.size 0 (n+2) (by rfl) (l:=[]) (by exact HO1.out) _ (by rfl) (by exact H.out.below (below_of_grown (Below.refl w.heap.size w) (Nat.le_refl _) HG1.out (fun g h=>by cases h))) n (by rw [Hn.out,Nat.zero_add]) (by omega) ?_)
 intro w2 hown2 hg2
 have hb1:Below w.heap.size w w1:=below_of_grown (Below.refl w.heap.size w) (Nat.le_refl _) HG1.out (fun g h=>by cases h)
 have hb2:Below w.heap.size w w2:=below_of_grown hb1 hb1.size hg2 (fun g h=>by cases h;exact Nat.le_refl _)
 have HO2:=Lib.hid hown2
 have HB2:=Lib.hid hb2
 clear hown2 hg2 hb1 hb2
 have HO3:=Lib.hid (HO2.out.alloc (.cells #[.string markB,.string markB] 9))
 have HM:=Lib.hid (two_marks (heap_alloc_new w2 (.cells #[.string markB,.string markB] 9)))
 go_wp2_with (at_builtin;refine wpList_append_strs_spare _ (by rfl) _ _ _ (by rfl) w.heap.size _ i0 Tryz.underlying28 hi0 hz1 w.heap.size n (n+2) (by rfl) (l:=[]++l) (by exact HO3.out) _ (by rfl) (by exact HM.out) (n+2) (by rfl) (by omega) ?_)
 intro w4 hown4 hg4
 have hb4:Below w.heap.size w w4:=below_of_grown (HB2.out.alloc HB2.out.size _) (Nat.le_trans HB2.out.size (by simp)) hg4 (fun g h=>by cases h;exact Nat.le_refl _)
 obtain⟨hf,_⟩:=own_full hown4 (by simp [Hn.out])
 have HF:=Lib.hid hf
 have HB4:=Lib.hid hb4
 clear hown4 hg4 hb4 hf HO2 HO3 HM HB2 HO1 HG1 hr1
 have p1:(0:Int)≤(n:Int):=by omega
 have p2:(n:Int)≤(n:Int)+2:=by omega
 go_wp2_with fail
 go_ret
 exact⟨w.heap.size,rfl,Nat.le_refl _,by simpa using HF.out,HB4.out⟩
set_option maxRecDepth 100000 in
theorem spoil_nil (n:Nat) (w:World):Calls Tryz.prog 43 #[.slice none n 0] w fun e w'=>e=.returned (.tuple #[])∧w=w':=by
 go_enter Tryz.func43,Tryz.ntmps43
 go_wp2_with fail
 go_loopg [9] 0 (fun k u9 wr=>k=0∧u9=.int .i64 0∧w=wr)
 case atStart=>exact⟨rfl,rfl,rfl⟩
 case round=>
  obtain⟨rfl,rfl,rfl⟩:=hrel
  go_wp2_with fail
  go_end0
  exact⟨rfl,rfl⟩
end Go.Proofs.YtnnceaapodgfbaaGreatDoor
namespace Go.Proofs.YtnnceaapodgfbaaGreatDoor
namespace Sto
open Go.RowKit
set_option maxRecDepth 100000 in
set_option maxHeartbeats 1600000 in
theorem spoil_big (g n c:Nat) (cs:Array Value) (t:TypeId) (w:World) (h:w.heap[g]? = some (.cells cs t (0,0))) (hn:n≤c) (hc:c≤cs.size) (hb:c≤9223372036854775807) :
  Calls Tryz.prog 43 #[.slice (some ⟨g,0,none⟩) n c] w fun e w'=>e=.returned (.tuple #[])∧But g w w'∧∃ cs',w'.heap[g]? = some (.cells cs' t (0,0))∧cs'.size=cs.size:=by
 have H:=Lib.hid h
 have q0:(0:Int)≤(c:Int):=by omega
 clear h
 go_enter Tryz.func43,Tryz.ntmps43
 go_wp2_with fail
 go_loopg [9] c (fun k u9 wr=>∃ i:Nat,i+k=c∧u9=.int .i64 (i:Int)∧Hid (But g w wr)∧Hid (∃ cs',wr.heap[g]? = some (.cells cs' t (0,0))∧cs'.size=cs.size))
 case atStart=>exact⟨0,by omega,rfl,Lib.hid (But.refl _ _),Lib.hid ⟨_,H.out,rfl⟩⟩
 case round=>
  obtain⟨i,hig,rfl,Hbut,Hc⟩:=hrel
  cases gk with
  | zero=>
   obtain rfl:i=c:=by omega
   go_wp2_with fail
   go_end0
   exact⟨rfl,Hbut.out,Hc.out⟩
  | succ k=>
   have hic:i<c:=by omega
   obtain⟨cs',hcs,hsz⟩:=Hc.out
   have q1:(0:Int)≤(i:Int):=by omega
   have q2:(i:Int)<(c:Int):=by omega
   have fr:wr.frozen? ⟨g,i,none⟩=false:=free_block hcs i
   have cc:∃ x,wr.cell? ⟨g,i,none⟩=some x:=⟨cs'[i]'(by omega),(cell_block hcs i).trans (Array.getElem?_eq_getElem (by omega))⟩
   obtain⟨x,hx⟩:=cc
   obtain⟨t1,t2⟩:=touch_setCell (i:=i) (v:=.string ⟨#[115,112,111,105,108,116]⟩) hcs
   have HT1:=Lib.hid t1
   have HT2:=Lib.hid t2
   have Hs:=Lib.hid hsz
   clear t1 t2 hcs hsz Hc
   go_wp2_with fail
   go_roundg k
   case measure=>omega
   case rel=>exact⟨i+1,by omega,by go_num,Lib.hid (Hbut.out.trans (But.touch HT2.out)),Lib.hid ⟨_,HT1.out,by rw [Array.size_setIfInBounds,Hs.out]⟩⟩
def Shape (w w':World):Prop:=∀ (b:Nat) (cs:Array Value) (t:TypeId),w.heap[b]? = some (.cells cs t (0,0))→∃ cs',w'.heap[b]? = some (.cells cs' t (0,0))∧cs'.size=cs.size
theorem Shape.refl (w:World):Shape w w:=fun _ cs _ h=>⟨cs,h,rfl⟩
theorem Shape.trans {a b c:World} (h:Shape a b) (k:Shape b c):Shape a c:=fun q cs t hq=>by
 obtain⟨c1,h1,h2⟩:=h q cs t hq
 obtain⟨c2,h3,h4⟩:=k q c1 t h1
 exact⟨c2,h3,h4.trans h2⟩
theorem Shape.of {w w':World} (h:Below w.heap.size w w'):Shape w w':=fun _ cs _ hq=>⟨cs,below_block h hq,rfl⟩
theorem Shape.but {g:Nat} {w w':World} {cs cs':Array Value} {t:TypeId} (h:But g w w') (h1:w.heap[g]? = some (.cells cs t (0,0))) (h2:w'.heap[g]? = some (.cells cs' t (0,0))) (h3:cs'.size=cs.size):Shape w w':=fun q c e hq=>by
 by_cases hqg:q=g
 ·subst hqg
  rw [h1] at hq
  injection hq with h4
  injection h4 with h5 h6
  subst h5;subst h6
  exact⟨cs',h2,h3⟩
 ·exact⟨c,h.keep hq hqg,rfl⟩
def LooseS (e:TypeId) (k:Nat) (w:World) (v:Value):Prop:=v=.slice none 0 0∨∃ g n c cs,v=.slice (some ⟨g,0,none⟩) n c∧w.heap[g]? = some (.cells cs e (0,0))∧n≤c∧c*k≤cs.size∧c≤maxLen
theorem LooseS.shape {e:TypeId} {k:Nat} {w w':World} {v:Value} (h:LooseS e k w v) (hs:Shape w w'):LooseS e k w' v:=by
 rcases h with h | ⟨g,n,c,cs,h1,h2,h3,h4,h5⟩
 ·exact .inl h
 ·obtain⟨cs',h6,h7⟩:=hs g cs e h2
  exact .inr ⟨g,n,c,cs',h1,h6,h3,by rw [h7];exact h4,h5⟩
theorem LooseS.own {α:Type} {R:Rd α} {k B:Nat} {w:World} {e:TypeId} {v:Value} {l:List α} (h:OwnAt R k w B e v l):LooseS e k w v:=by
 obtain⟨css,h1,h2,h3,h4⟩:=h
 rcases h3.2 with ⟨h5,-⟩ | ⟨q,cap,cur,h5,hB,hh,hr,hm,hz,-⟩
 ·exact .inl h5
 ·exact .inr ⟨q,l.length,cap,cur,h5,hh,hr,by rw [hz];exact Nat.le_refl _,hm⟩
theorem LooseS.text {w:World} {g:Nat} {l:List ByteArray} (h:w.heap[g]? = some (.cells (strs (l++[markB,markB])).toArray 9 (0,0))) (hl:l.length≤1048576):LooseS 9 1 w (.slice (some ⟨g,0,none⟩) l.length (l.length+2)):=
 .inr ⟨g,_,_,_,rfl,h,by omega,by simp [strs],by unfold maxLen;omega⟩
theorem LooseS.lt {e:TypeId} {k:Nat} {w:World} {v:Value} (h:LooseS e k w v) {b:Nat} (hb:v.ownBlock=some b):∃ cs,w.heap[b]? = some (.cells cs e (0,0)):=by
 rcases h with rfl | ⟨g,n,c,cs,rfl,h2,-⟩
 ·cases hb
 ·injection hb with hb
  subst hb
  exact⟨cs,h2⟩
structure LooseO (w:World) (v1 v2 v3:Value):Prop where
 labels:LooseS 66 2 w v1
 owners:LooseS 9 1 w v2
 holds:LooseS 9 1 w v3
theorem LooseO.shape {w w':World} {v1 v2 v3:Value} (h:LooseO w v1 v2 v3) (hs:Shape w w'):LooseO w' v1 v2 v3:=⟨h.labels.shape hs,h.owners.shape hs,h.holds.shape hs⟩
theorem LooseO.of {D:Dom} {w:World} {v1 v2 v3:Value} {o:GObject} (h:ObjIn D w v1 v2 v3 o):LooseO w v1 v2 v3:=⟨.own h.labels.own,.own h.owners.own,.own h.holds.own⟩
def OwnB (v1 v2 v3:Value):Dom:=fun b=>v1.ownBlock=some b∨v2.ownBlock=some b∨v3.ownBlock=some b
theorem OwnB.of {D:Dom} {w:World} {v1 v2 v3:Value} {o:GObject} (h:ObjIn D w v1 v2 v3 o) (b:Nat) (hb:OwnB v1 v2 v3 b):D b:=by
 rcases hb with hb | hb | hb
 ·exact h.labels.2 b hb
 ·exact h.owners.2 b hb
 ·exact h.holds.2 b hb
theorem OwnB.type {w:World} {v1 v2 v3:Value} (h:LooseO w v1 v2 v3) (b:Nat) (hb:OwnB v1 v2 v3 b):∃ cs,w.heap[b]? = some (.cells cs 66 (0,0))∨w.heap[b]? = some (.cells cs 9 (0,0)):=by
 rcases hb with hb | hb | hb
 ·obtain⟨cs,h1⟩:=h.labels.lt hb;exact⟨cs,.inl h1⟩
 ·obtain⟨cs,h1⟩:=h.owners.lt hb;exact⟨cs,.inr h1⟩
 ·obtain⟨cs,h1⟩:=h.holds.lt hb;exact⟨cs,.inr h1⟩
theorem OwnB.off {w:World} {v1 v2 v3:Value} (h:LooseO w v1 v2 v3) {g:Nat} {cs:Array Value} {t:TypeId} (hg:w.heap[g]? = some (.cells cs t (0,0))) (h1:t≠66) (h2:t≠9):¬OwnB v1 v2 v3 g:=fun hb=>by
 obtain⟨c,h3 | h3⟩:=OwnB.type h g hb
 ·rw [hg] at h3;injection h3 with h4;injection h4 with h5 h6;exact h1 h6
 ·rw [hg] at h3;injection h3 with h4;injection h4 with h5 h6;exact h2 h6
theorem spoil_of {w:World} {v:Value} (h:LooseS 9 1 w v):Calls Tryz.prog 43 #[v] w fun e w'=>e=.returned (.tuple #[])∧Only (fun b=>v.ownBlock=some b) w w'∧Shape w w':=by
 rcases h with rfl | ⟨g,n,c,cs,rfl,h2,h3,h4,h5⟩
 ·refine (spoil_nil 0 w).mono ?_
  rintro e w' ⟨rfl,rfl⟩
  exact⟨rfl,Only.refl _ _,Shape.refl _⟩
 ·refine (spoil_big g n c cs _ w h2 h3 (by omega) (by unfold maxLen at h5;omega)).mono ?_
  rintro e w' ⟨rfl,hb,cs',h6,h7⟩
  exact⟨rfl,Only.but hb rfl,Shape.but hb h2 h6 h7⟩
set_option maxRecDepth 100000 in
set_option maxHeartbeats 3200000 in
theorem spoilObj_any (o:GObject) (v1 v2 v3:Value) (w:World) (h:LooseO w v1 v2 v3) :
  Calls Tryz.prog 45 #[objW o v1 v2 v3] w fun e w'=>e=.returned (.tuple #[])∧Only (OwnB v1 v2 v3) w w'∧Shape w w':=by
 have HL:=Lib.hid h
 obtain⟨a1,n1,c1,hv1⟩:∃ a n c,v1=.slice a n c:=by rcases h.labels with rfl | ⟨g,n,c,cs,rfl,-⟩<;>exact⟨_,_,_,rfl⟩
 obtain⟨a2,n2,c2,hv2⟩:∃ a n c,v2=.slice a n c:=by rcases h.owners with rfl | ⟨g,n,c,cs,rfl,-⟩<;>exact⟨_,_,_,rfl⟩
 obtain⟨a3,n3,c3,hv3⟩:∃ a n c,v3=.slice a n c:=by rcases h.holds with rfl | ⟨g,n,c,cs,rfl,-⟩<;>exact⟨_,_,_,rfl⟩
 have hnl:0<n1→∃ g cs,a1=some ⟨g,0,none⟩∧w.heap[g]? = some (.cells cs 66 (0,0))∧n1*2≤cs.size:=fun h0=>by
  rcases h.labels with h9 | ⟨g,n,c,cs,h9,h2,h3,h4,h5⟩
  ·rw [hv1] at h9;injection h9 with e1 e2;omega
  ·rw [hv1] at h9;injection h9 with e1 e2 e3;subst e1;subst e2;exact⟨g,cs,rfl,h2,by omega⟩
 have hnm:n1≤maxLen:=by
  rcases h.labels with h9 | ⟨g,n,c,cs,h9,h2,h3,h4,h5⟩
  ·rw [hv1] at h9;injection h9 with e1 e2;omega
  ·rw [hv1] at h9;injection h9 with e1 e2 e3;omega
 have hnm:n1≤9223372036854775807:=by unfold maxLen at hnm;omega
 subst hv1;subst hv2;subst hv3
 have Hnl:=Lib.hid hnl
 obtain⟨W,hW⟩:∃ W,W=w.alloc (.cells #[.string o.okey.kind,.string o.okey.space,.string o.okey.name,.slice a1 n1 c1,.slice a2 n2 c2,.slice a3 n3 c3,.bool o.ending,.string o.uid,.int .i64 o.rev,.string o.doc] 30):=⟨_,rfl⟩
 obtain⟨gb,hgb⟩:∃ g,g=w.heap.size:=⟨_,rfl⟩
 have BP:=Lib.hid (show W.heap[gb]? = some (.cells #[.string o.okey.kind,.string o.okey.space,.string o.okey.name,.slice a1 n1 c1,.slice a2 n2 c2,.slice a3 n3 c3,.bool o.ending,.string o.uid,.int .i64 o.rev,.string o.doc] 30 (0,0)) by rw [hW,hgb];exact heap_alloc_new w _)
 have HB1:Hid (Below w.heap.size w W):=Lib.hid (by rw [hW];exact (Below.refl _ w).alloc (Nat.le_refl _) _)
 have HLW:=Lib.hid (HL.out.shape (Shape.of HB1.out))
 have Hoff:=Lib.hid (OwnB.off HLW.out BP.out (by decide) (by decide))
 clear h hnl
 rw [show objW o (.slice a1 n1 c1) (.slice a2 n2 c2) (.slice a3 n3 c3)=.agg #[.string o.okey.kind,.string o.okey.space,.string o.okey.name,.slice a1 n1 c1,.slice a2 n2 c2,.slice a3 n3 c3,.bool o.ending,.string o.uid,.int .i64 o.rev,.string o.doc] from rfl]
 have cc:=fun i=>cell_block BP.out i
 go_enter Tryz.func45,Tryz.ntmps45
 go_upto_region 1 with fail
 rw [←hW]
 try rw [←hgb]
 clear hW hgb
 go_wp2_with fail
 clear cc
 go_loopg [6] n1 (fun k u6 wr=>∃ i:Nat,i+k=n1∧u6=.int .i64 (i:Int)∧Hid (Only (OwnB (.slice a1 n1 c1) (.slice a2 n2 c2) (.slice a3 n3 c3)) W wr)∧Hid (Shape W wr))
 case atStart=>exact⟨0,by omega,rfl,Lib.hid (Only.refl _ _),Lib.hid (Shape.refl _)⟩
 case round=>
  obtain⟨i,hik,rfl,HO,HS⟩:=hrel
  have BR:=Lib.hid ((HO.out.block gb (lt_of_some BP.out) Hoff.out).trans BP.out)
  have cc:=fun i=>cell_block BR.out i
  cases gk with
  | zero=>
   obtain rfl:i=n1:=by omega
   have HS1:=Lib.hid (spoil_of (HLW.out.shape HS.out).owners)
   go_wp2_with fail
   refine HS1.out.mono ?_
   rintro E w2 ⟨rfl,ho2,hs2⟩
   have HO2:=Lib.hid (HO.out.trans ho2 fun b hb _=>.inr (.inl hb))
   have HS2:=Lib.hid (HS.out.trans hs2)
   have BR2:=Lib.hid ((HO2.out.block gb (lt_of_some BP.out) Hoff.out).trans BP.out)
   have HS3:=Lib.hid (spoil_of (HLW.out.shape HS2.out).holds)
   clear ho2 hs2 HS1 cc BR HO HS
   have cc:=fun i=>cell_block BR2.out i
   go_wp2_with fail
   refine HS3.out.mono ?_
   rintro E w3 ⟨rfl,ho3,hs3⟩
   have HO3:=Lib.hid (HO2.out.trans ho3 fun b hb _=>.inr (.inr hb))
   have HS4:=Lib.hid (HS2.out.trans hs3)
   clear ho3 hs3 HS3 cc
   go_wp2_with fail
   go_end0
   exact⟨rfl,Only.after HB1.out HO3.out,(Shape.of HB1.out).trans HS4.out⟩
  | succ k=>
   obtain⟨g,cs,hg,hcs,hsz⟩:=Hnl.out (by omega)
   subst hg
   obtain⟨cs',hcs',hsz'⟩:=HS.out g cs _ (below_block HB1.out hcs)
   have q1:(0:Int)≤(i:Int):=by omega
   have q2:(i:Int)<(n1:Int):=by omega
   have HC:=Lib.hid hcs'
   have hi2:i*2+2≤cs'.size:=by omega
   clear hcs hcs'
   go_wp2_with (refine wpList_store_part (by rfl) _ _ _ (by rfl) g (i*2) #[.string ⟨#[115,112,111,105,108,116]⟩,.string {data:=#[]}] (by rfl) (by rfl) _ _ (by exact HC.out) (by kernel_rfl) (by exact hi2) (by simp [Value.oneCell']) ?_)
   intro w2 hw2 t2
   have HO2:=Lib.hid (HO.out.trans (Only.touch (D:=OwnB (.slice (some ⟨g,0,none⟩) n1 c1) (.slice a2 n2 c2) (.slice a3 n3 c3)) t2 (.inl rfl)) fun b hb _=>hb)
   have HS2:=Lib.hid (HS.out.trans (Shape.but (But.touch t2) HC.out hw2 (by
    unfold partPut
    simp
    omega)))
   clear hw2 t2 HC cc BR HO HS
   go_wp2_with fail
   go_roundg k
   case measure=>omega
   case rel=>exact⟨i+1,by omega,by go_num,HO2,HS2⟩
end Sto
end Go.Proofs.YtnnceaapodgfbaaGreatDoor
namespace Go.Proofs.YtnnceaapodgfbaaGreatDoor
namespace Sto
open Go.RowKit
theorem flat_labO:Flat LabelR:=fun _ _ _ _ h=>h
theorem oneR_labO:OneR LabelR:=fun _ _ _ h u hu=>by
 rw [h] at hu
 simp only [List.mem_cons,List.not_mem_nil,or_false] at hu
 rcases hu with rfl | rfl<;>rfl
theorem Tryz.infoLabO:(Tryz.prog.info? 66).map (fun i=>(i.zero,i.size,i.bytes))=some (some (.agg #[.string ByteArray.empty,.string ByteArray.empty]),2,32):=by kernel_rfl
set_option maxRecDepth 100000 in
theorem copyLabO_any (v:Value) (l:List GLabel) (w:World) (h:RowAt LabelR 2 w v l) (hl:l.length≤1048576) :
  Calls Tryz.prog 82 #[v] w fun e w'=>∃ v',e=.returned v'∧OwnAt LabelR 2 w' w.heap.size 66 v' l∧Below w.heap.size w w':=by
 obtain⟨i0,hi0,hz0,hz1,hz2⟩:=info_parts Tryz.infoLabO
 have Hrow:=Lib.hid h
 clear h
 go_enter Tryz.func82,Tryz.ntmps82
 go_wp2_with (at_builtin;refine wpList_append_ownAt (R:=LabelR) (k:=2) (e:=66) (B:=w.heap.size) (l:=[]) (m:=l) _ (by rfl) _ _ _ (by rfl) i0 _ 32 Tryz.underlying27 hi0 hz0 hz1 hz2 rfl (by omega) flat_labO oneR_labO _ (by rfl) (OwnAt.nil _) _ (by rfl) Hrow.out (by unfold maxLen;simp;omega) (by simp;omega) (Nat.le_refl _) ?_)
 intro v' w' hv' hg hr _
 have hb:Below w.heap.size w w':=below_of_grown (Below.refl _ _) (Nat.le_refl _) hg hr
 go_wp2_with fail
 go_ret
 exact⟨_,rfl,by simpa using hv',hb⟩
def TexA (B:Nat) (w:World) (u:Value) (l:List ByteArray) (n:Nat):Prop:=∃ g,u=.slice (some ⟨g,0,none⟩) n (n+2)∧B≤g∧n=l.length∧w.heap[g]? = some (.cells (strs (l++[markB,markB])).toArray 9 (0,0))
theorem TexA.below {B:Nat} {w w':World} {u:Value} {l:List ByteArray} {n:Nat} (h:TexA B w u l n) (hb:Below w.heap.size w w'):TexA B w' u l n:=let ⟨g,h1,h2,h3,h4⟩:=h;⟨g,h1,h2,h3,below_block hb h4⟩
theorem TexA.row {B:Nat} {w:World} {u:Value} {l:List ByteArray} {n:Nat} (h:TexA B w u l n) (hl:l.length≤1048576):StrAt w u l:=by
 obtain⟨g,rfl,-,rfl,h4⟩:=h
 refine .inr ⟨⟨g,0,none⟩,_,rfl,by omega,by unfold maxLen;omega,fun j x hx=>?_⟩
 have hj:=(List.getElem?_eq_some_iff.1 hx).1
 rw [add_plain',Nat.zero_add,cell_block h4 j]
 simp only [strs,List.getElem?_toArray,List.getElem?_map]
 rw [List.getElem?_append_left hj,hx]
 rfl
theorem TexA.loose {B:Nat} {w:World} {u:Value} {l:List ByteArray} {n:Nat} (h:TexA B w u l n) (hl:l.length≤1048576):LooseS 9 1 w u:=by
 obtain⟨g,rfl,-,rfl,h4⟩:=h
 exact LooseS.text h4 hl
theorem TexA.own {B:Nat} {w:World} {u:Value} {l:List ByteArray} {n:Nat} (h:TexA B w u l n) {b:Nat} (hb:u.ownBlock=some b):B≤b:=by
 obtain⟨g,rfl,h2,-⟩:=h
 injection hb with hb
 have hb:g=b:=hb
 omega
theorem TexA.lt {B:Nat} {w:World} {u:Value} {l:List ByteArray} {n:Nat} (h:TexA B w u l n) {b:Nat} (hb:u.ownBlock=some b):b<w.heap.size:=by
 obtain⟨g,rfl,h2,-,h4⟩:=h
 injection hb with hb
 subst hb
 exact lt_of_some h4
theorem flat_one:∀ l:List ByteArray,(l.map fun x=>[Value.string x]).flatten=strs l
 | []=>rfl
 | a :: r=>by simp only [List.map_cons,List.flatten_cons,flat_one r];rfl
theorem TexA.ownAt {B:Nat} {w:World} {u:Value} {l:List ByteArray} {n:Nat} (h:TexA B w u l n) (hl:l.length≤1048576):OwnAt RString 1 w B 9 u l:=by
 obtain⟨g,rfl,h2,rfl,h4⟩:=h
 refine⟨l.map fun x=>[.string x],by rw [List.length_map],fun cs hcs=>?_,⟨?_,.inr ⟨g,l.length+2,_,rfl,h2,h4,by omega,by unfold maxLen;omega,by simp [strs],?_⟩⟩,fun j cs x hcs hx=>?_⟩
 ·obtain⟨x,-,rfl⟩:=List.mem_map.1 hcs
  rfl
 ·rw [flat_one];simp [strs]
 ·rw [flat_one,Nat.mul_one]
  simp [strs]
 ·rw [List.getElem?_map,hx] at hcs
  injection hcs with hcs
  rw [←hcs]
  rfl
def CopyAt (o:GObject) (w:World) (e:Ending) (w':World):Prop:=
 ∃ E u1 u2 u3,e=.returned (objW o u1 u2 u3)∧ObjIn E w' u1 u2 u3 o∧(∀ b,E b→w.heap.size≤b∧b<w'.heap.size)∧Below w.heap.size w w'
set_option maxRecDepth 100000 in
set_option maxHeartbeats 6400000 in
theorem object_any (o:GObject) (v1 v2 v3:Value) (w:World) (hl:RowAt LabelR 2 w v1 o.labels) (ho:StrAt w v2 o.owners) (hh:StrAt w v3 o.holds) (hok:OkObj o) :
  Calls Tryz.prog 44 #[objW o v1 v2 v3] w (CopyAt o w):=by
 obtain⟨a1,c1,rfl,-,-⟩:=hl.len
 obtain⟨a2,c2,rfl,-,-⟩:=ho.row.len
 obtain⟨a3,c3,rfl,-,-⟩:=hh.row.len
 obtain⟨n1,Hn1⟩:∃ n,Hid (o.labels.length=n):=⟨_,Lib.hid rfl⟩
 obtain⟨n2,Hn2⟩:∃ n,Hid (o.owners.length=n):=⟨_,Lib.hid rfl⟩
 obtain⟨n3,Hn3⟩:∃ n,Hid (o.holds.length=n):=⟨_,Lib.hid rfl⟩
 rw [Hn1.out] at hl
 rw [Hn2.out] at ho
 rw [Hn3.out] at hh
 rw [Hn1.out,Hn2.out,Hn3.out]
 have HL:=Lib.hid hl
 have HOo:=Lib.hid ho
 have HOh:=Lib.hid hh
 have Hok:=Lib.hid hok
 obtain⟨w1,hw1⟩:∃ w1,w1=(w.alloc (.cells #[.string o.okey.kind,.string o.okey.space,.string o.okey.name,.slice a1 n1 c1,.slice a2 n2 c2,.slice a3 n3 c3,.bool o.ending,.string o.uid,.int .i64 o.rev,.string o.doc] 30)).alloc (.cells noA 30):=⟨_,rfl⟩
 obtain⟨gb,hgb⟩:∃ gb,gb=w.heap.size:=⟨_,rfl⟩
 obtain⟨gr,hgr⟩:∃ gr,gr=w.heap.size+1:=⟨_,rfl⟩
 have B1:Hid (w1.heap[gb]? = some (.cells #[.string o.okey.kind,.string o.okey.space,.string o.okey.name,.slice a1 n1 c1,.slice a2 n2 c2,.slice a3 n3 c3,.bool o.ending,.string o.uid,.int .i64 o.rev,.string o.doc] 30 (0,0))):=Lib.hid (by rw [hw1,hgb];exact heap_alloc_old (heap_alloc_new w _))
 have R1:Hid (w1.heap[gr]? = some (.cells noA 30 (0,0))):=Lib.hid (by rw [hw1,hgr];exact heap_alloc_at (World.size_alloc _ _).symm)
 have hb1:Below w.heap.size w w1:=by rw [hw1];exact ((Below.refl _ w).alloc (Nat.le_refl _) _).alloc (by rw [World.size_alloc];omega) _
 have hs1:w1.heap.size=w.heap.size+2:=by rw [hw1,World.size_alloc,World.size_alloc]
 have Hb1:=Lib.hid hb1
 have hwr:w.heap.size≤gr:=by omega
 have hwb:w.heap.size≤gb:=by omega
 have hne:gb≠gr:=by omega
 have hl1:gb<w1.heap.size:=by omega
 have hl2:gr<w1.heap.size:=by omega
 clear hl ho hh hok hb1
 rw [show objW o (.slice a1 n1 c1) (.slice a2 n2 c2) (.slice a3 n3 c3)=.agg #[.string o.okey.kind,.string o.okey.space,.string o.okey.name,.slice a1 n1 c1,.slice a2 n2 c2,.slice a3 n3 c3,.bool o.ending,.string o.uid,.int .i64 o.rev,.string o.doc] from rfl]
 go_enter Tryz.func44,Tryz.ntmps44
 go_upto_region 1 with fail
 have hex:((w.alloc (.cells #[.string o.okey.kind,.string o.okey.space,.string o.okey.name,.slice a1 n1 c1,.slice a2 n2 c2,.slice a3 n3 c3,.bool o.ending,.string o.uid,.int .i64 o.rev,.string o.doc] 30)).alloc (.cells #[.string {data:=#[]},.string {data:=#[]},.string {data:=#[]},.slice none 0 0,.slice none 0 0,.slice none 0 0,.bool false,.string {data:=#[]},.int .i64 0,.string {data:=#[]}] 30))=w1:=hw1.symm
 rw [hex]
 try rw [←hgr]
 rw [←hgb]
 clear hw1 hex hgb hgr
 refine wp_region_relB 10 (fun jj U w'=>match jj with
  | 0=>U 0=.pointer (some ⟨gb,3,none⟩)
  | 1=>U 1=.slice a1 n1 c1
  | 2=>OwnAt LabelR 2 w' w1.heap.size 66 (U 2) o.labels
  | 3=>U 3=.pointer (some ⟨gb,4,none⟩)
  | 4=>U 4=.slice a2 n2 c2
  | 5=>TexA w1.heap.size w' (U 5) o.owners n2
  | 6=>U 6=.pointer (some ⟨gb,5,none⟩)
  | 7=>U 7=.slice a3 n3 c3
  | 8=>TexA w1.heap.size w' (U 8) o.holds n3
  | 9=>U 9=.pointer (some ⟨gb,3,none⟩)
  | _=>True)
  (fun | 1=>[0] | 2=>[1] | 4=>[3] | 5=>[4] | 7=>[6] | 8=>[7] | _=>[]) (by kernel_rfl) (by kernel_rfl) (fun jj U wa wb hb h=>?_) ⟨?_,?_,?_,?_,?_,?_,?_,?_,?_,?_,trivial⟩ ?_
 ·match jj,h with
  | 0,h=>exact h
  | 1,h=>exact h
  | 2,h=>exact OwnAt.below flat_labO.stays h hb
  | 3,h=>exact h
  | 4,h=>exact h
  | 5,h=>exact h.below hb
  | 6,h=>exact h
  | 7,h=>exact h
  | 8,h=>exact h.below hb
  | 9,h=>exact h
  | _+10,_=>trivial
 ·intro x w' hb hd
  refine owes_here (.pointer (some ⟨gb,3,none⟩)) (by rfl) ?_ rfl
  clear hd
  simp only [putAll,List.take_succ_cons,List.take_zero]
  go_simp
 ·intro x w' hb hd
  have h0:x 0=.pointer (some ⟨gb,3,none⟩):=hd 0 (by simp)
  have hb2:Below w1.heap.size w1 w':=((Below.refl w1.heap.size w1).drew).trans hb
  have cc:=fun i=>cell_block (below_block hb2 B1.out) i
  refine owes_here (.slice a1 n1 c1) (by rfl) ?_ rfl
  clear hd
  simp only [putAll,List.take_succ_cons,List.take_zero]
  go_simp
 ·intro x w' hb hd
  have h1:x 1=.slice a1 n1 c1:=hd 1 (by simp)
  have hb2:Below w1.heap.size w1 w':=((Below.refl w1.heap.size w1).drew).trans hb
  have hbw:=Hb1.out.trans (hb2.mono Hb1.out.size)
  refine owes_call 82 #[.slice a1 n1 c1] (by rfl) ?_ ((copyLabO_any _ o.labels w' (HL.out.below stays_label hbw) Hok.out.labels.1).mono ?_)
  ·clear hd
   simp only [putAll,List.take_succ_cons,List.take_zero]
   go_simp
  ·rintro _ w2 ⟨v2,rfl,ho,hb3⟩
   exact⟨v2,rfl,ho.mono hb2.size,hb3⟩
 ·intro x w' hb hd
  refine owes_here (.pointer (some ⟨gb,4,none⟩)) (by rfl) ?_ rfl
  clear hd
  simp only [putAll,List.take_succ_cons,List.take_zero]
  go_simp
 ·intro x w' hb hd
  have h3:x 3=.pointer (some ⟨gb,4,none⟩):=hd 3 (by simp)
  have hb2:Below w1.heap.size w1 w':=((Below.refl w1.heap.size w1).drew).trans hb
  have cc:=fun i=>cell_block (below_block hb2 B1.out) i
  refine owes_here (.slice a2 n2 c2) (by rfl) ?_ rfl
  clear hd
  simp only [putAll,List.take_succ_cons,List.take_zero]
  go_simp
 ·intro x w' hb hd
  have h4:x 4=.slice a2 n2 c2:=hd 4 (by simp)
  have hb2:Below w1.heap.size w1 w':=((Below.refl w1.heap.size w1).drew).trans hb
  have hbw:=Hb1.out.trans (hb2.mono Hb1.out.size)
  refine owes_call 42 #[.slice a2 n2 c2] (by rfl) ?_ ((texts_any _ o.owners w' (HOo.out.below hbw) Hok.out.owners.1).mono ?_)
  ·clear hd
   simp only [putAll,List.take_succ_cons,List.take_zero]
   go_simp
  ·rintro _ w2 ⟨g,rfl,hg,hc,hb3⟩
   refine⟨_,rfl,?_,hb3⟩
   show TexA w1.heap.size w2 (.slice (some ⟨g,0,none⟩) o.owners.length (o.owners.length+2)) o.owners n2
   rw [Hn2.out]
   exact⟨g,rfl,Nat.le_trans hb2.size hg,Hn2.out.symm,hc⟩
 ·intro x w' hb hd
  refine owes_here (.pointer (some ⟨gb,5,none⟩)) (by rfl) ?_ rfl
  clear hd
  simp only [putAll,List.take_succ_cons,List.take_zero]
  go_simp
 ·intro x w' hb hd
  have h6:x 6=.pointer (some ⟨gb,5,none⟩):=hd 6 (by simp)
  have hb2:Below w1.heap.size w1 w':=((Below.refl w1.heap.size w1).drew).trans hb
  have cc:=fun i=>cell_block (below_block hb2 B1.out) i
  refine owes_here (.slice a3 n3 c3) (by rfl) ?_ rfl
  clear hd
  simp only [putAll,List.take_succ_cons,List.take_zero]
  go_simp
 ·intro x w' hb hd
  have h7:x 7=.slice a3 n3 c3:=hd 7 (by simp)
  have hb2:Below w1.heap.size w1 w':=((Below.refl w1.heap.size w1).drew).trans hb
  have hbw:=Hb1.out.trans (hb2.mono Hb1.out.size)
  refine owes_call 42 #[.slice a3 n3 c3] (by rfl) ?_ ((texts_any _ o.holds w' (HOh.out.below hbw) Hok.out.holds.1).mono ?_)
  ·clear hd
   simp only [putAll,List.take_succ_cons,List.take_zero]
   go_simp
  ·rintro _ w2 ⟨g,rfl,hg,hc,hb3⟩
   refine⟨_,rfl,?_,hb3⟩
   show TexA w1.heap.size w2 (.slice (some ⟨g,0,none⟩) o.holds.length (o.holds.length+2)) o.holds n3
   rw [Hn3.out]
   exact⟨g,rfl,Nat.le_trans hb2.size hg,Hn3.out.symm,hc⟩
 ·intro x w' hb hd
  refine owes_here (.pointer (some ⟨gb,3,none⟩)) (by rfl) ?_ rfl
  clear hd
  simp only [putAll,List.take_succ_cons,List.take_zero]
  go_simp
 ·intro x w9 hb hd9
  have hb9:Below w1.heap.size w1 w9:=((Below.refl w1.heap.size w1).drew).trans hb
  have g2:OwnAt LabelR 2 w9 w1.heap.size 66 (x 2) o.labels:=hd9 2 (by omega)
  have g5:TexA w1.heap.size w9 (x 5) o.owners n2:=hd9 5 (by omega)
  have g8:TexA w1.heap.size w9 (x 8) o.holds n3:=hd9 8 (by omega)
  have g9:x 9=.pointer (some ⟨gb,3,none⟩):=hd9 9 (by omega)
  obtain⟨u1,hu1⟩:∃ u,x 2=u:=⟨_,rfl⟩
  obtain⟨u2,hu2⟩:∃ u,x 5=u:=⟨_,rfl⟩
  obtain⟨u3,hu3⟩:∃ u,x 8=u:=⟨_,rfl⟩
  rw [hu1] at g2
  rw [hu2] at g5
  rw [hu3] at g8
  obtain⟨x1,y1,e1,-,-⟩:=g2.row.len
  obtain⟨q2,e2,-⟩:=id g5
  obtain⟨q3,e3,-⟩:=id g8
  subst e1;subst e2;subst e3
  rw [Hn1.out] at hu1 g2
  obtain⟨w10,hw10⟩:∃ w10,((w9.setCell ⟨gb,3,none⟩ (.slice x1 n1 y1)).setCell ⟨gb,4,none⟩ (.slice (some ⟨q2,0,none⟩) n2 (n2+2))).setCell ⟨gb,5,none⟩ (.slice (some ⟨q3,0,none⟩) n3 (n3+2))=w10:=⟨_,rfl⟩
  have BB:=Lib.hid (below_block hb9 B1.out)
  have RR:=Lib.hid (below_block hb9 R1.out)
  have t1:=touch_setCell (i:=3) (v:=.slice x1 n1 y1) BB.out
  have t2:=touch_setCell (i:=4) (v:=.slice (some ⟨q2,0,none⟩) n2 (n2+2)) t1.1
  have t3:=touch_setCell (i:=5) (v:=.slice (some ⟨q3,0,none⟩) n3 (n3+2)) t2.1
  rw [hw10] at t3
  have hbut:But gb w9 w10:=((But.touch t1.2).trans (But.touch t2.2)).trans (But.touch t3.2)
  have B10:Hid (w10.heap[gb]? = some (.cells #[.string o.okey.kind,.string o.okey.space,.string o.okey.name,.slice x1 n1 y1,.slice (some ⟨q2,0,none⟩) n2 (n2+2),.slice (some ⟨q3,0,none⟩) n3 (n3+2),.bool o.ending,.string o.uid,.int .i64 o.rev,.string o.doc] 30 (0,0))):=Lib.hid t3.1
  have R10:=Lib.hid (hbut.keep RR.out (Ne.symm hne))
  have hsz:=hb9.size
  have hKL:Hid (OwnAt LabelR 2 w10 w1.heap.size 66 (.slice x1 n1 y1) o.labels):=Lib.hid (OwnAt.butLow flat_labO g2 hbut hl1)
  have hK2:Hid (TexA w1.heap.size w10 (.slice (some ⟨q2,0,none⟩) n2 (n2+2)) o.owners n2):=Lib.hid (by
   obtain⟨g,e,h1,h2,h3⟩:=g5
   exact⟨g,e,h1,h2,hbut.keep h3 (by omega)⟩)
  have hK3:Hid (TexA w1.heap.size w10 (.slice (some ⟨q3,0,none⟩) n3 (n3+2)) o.holds n3):=Lib.hid (by
   obtain⟨g,e,h1,h2,h3⟩:=g8
   exact⟨g,e,h1,h2,hbut.keep h3 (by omega)⟩)
  have Hb10:Hid (Below w.heap.size w w10):=Lib.hid (hbut.below (Hb1.out.trans (hb9.mono Hb1.out.size)) (by have:=Hb1.out.size;omega) hwb)
  have cc:=fun i=>cell_block BB.out i
  have fc:=fun i=>free_block BB.out i
  clear t1 t2 t3 hbut hd9 g2 g5 g8 RR hb9 hb
  simp only [putAll,List.take_succ_cons,List.take_zero,List.drop_succ_cons,List.drop_zero]
  go_upto_region 2 with fail
  try rw [hw10]
  clear hw10 cc fc BB hu1 hu2 hu3 g9
  have cc:=fun i=>cell_block B10.out i
  go_wp2_with (refine wpList_store_box (by rfl) _ _ _ (by rfl) gr #[.string o.okey.kind,.string o.okey.space,.string o.okey.name,.slice x1 n1 y1,.slice (some ⟨q2,0,none⟩) n2 (n2+2),.slice (some ⟨q3,0,none⟩) n3 (n3+2),.bool o.ending,.string o.uid,.int .i64 o.rev,.string o.doc] (by rfl) (by rfl) _ _ (by exact R10.out) (by exact Tryz.sizeObj) (by rfl) (by simp [Value.oneCell']) ?_)
  intro w11 b11 t11
  have B11:=Lib.hid b11
  have HF:Hid (Below w.heap.size w w11):=Lib.hid (t11.below Hb10.out hwr)
  have HKL:Hid (OwnAt LabelR 2 w11 w1.heap.size 66 (.slice x1 n1 y1) o.labels):=Lib.hid (OwnAt.butLow flat_labO hKL.out (But.touch t11) hl2)
  have HK2:Hid (TexA w1.heap.size w11 (.slice (some ⟨q2,0,none⟩) n2 (n2+2)) o.owners n2):=Lib.hid (by
   obtain⟨g,e,h1,h2,h3⟩:=hK2.out
   exact⟨g,e,h1,h2,t11.block h3 (by omega)⟩)
  have HK3:Hid (TexA w1.heap.size w11 (.slice (some ⟨q3,0,none⟩) n3 (n3+2)) o.holds n3):=Lib.hid (by
   obtain⟨g,e,h1,h2,h3⟩:=hK3.out
   exact⟨g,e,h1,h2,t11.block h3 (by omega)⟩)
  clear b11 t11 cc
  go_wp2_with fail
  refine bodyPost_ret (v:=objW o (.slice x1 n1 y1) (.slice (some ⟨q2,0,none⟩) n2 (n2+2)) (.slice (some ⟨q3,0,none⟩) n3 (n3+2))) ?_ rfl ?_
  ·exact results_one_box Tryz.results44 _ _ gr _ _ _ _ (by rfl) B11.out Tryz.underlying30 rfl (by exact Tryz.sizeObj)
  ·have h9:=Hb1.out.size
   have k2:=HK2.out.ownAt Hok.out.owners.1
   have k3:=HK3.out.ownAt Hok.out.holds.1
   exact⟨fun b=>w.heap.size≤b∧b<w11.heap.size,_,_,_,rfl,⟨OwnX.ofFlat HKL.out fun b hb=>⟨by have:=(HKL.out.at hb).1;omega,(HKL.out.at hb).2.1⟩,OwnX.ofFlat k2 fun b hb=>⟨by have:=(k2.at hb).1;omega,(k2.at hb).2.1⟩,OwnX.ofFlat k3 fun b hb=>⟨by have:=(k3.at hb).1;omega,(k3.at hb).2.1⟩⟩,fun b hb=>hb,HF.out⟩
end Sto
end Go.Proofs.YtnnceaapodgfbaaGreatDoor
namespace Go.Proofs.YtnnceaapodgfbaaGreatDoor
namespace Sto
open Go.RowKit
def idE (oe:Int):Int:=if oe=0 then 1 else 0
def noH:GKey→Bool:=fun _=>false
def HubW (w:World) (gh gs om:Nat) (v:GView) (oe:Int) (K:Dom):Prop:=
 (oe≠0∧HubAt w gh gs om (fun _=>none) 0 0∧∀ b,K b↔b=gh∨b=om)∨
 (oe=0∧∃ gw hm vr R,HubAt w gh gs om (fun k=>if k=1 then some gw else none) 1 1∧WatchAt w gw hm vr R v 0 noH 0∧∀ b,K b↔b=gh∨b=om∨b=gw∨b=hm∨R b)
theorem HubW.lt {w:World} {gh gs om:Nat} {v:GView} {oe:Int} {K:Dom} (h:HubW w gh gs om v oe K) (b:Nat) (hb:K b):b<w.heap.size:=by
 rcases h with ⟨-,h1,h2⟩ | ⟨-,gw,hm,vr,R,h1,h2,h3⟩
 ·rcases (h2 b).1 hb with rfl | rfl
  ·exact h1.lts.1
  ·exact h1.lts.2
 ·rcases (h3 b).1 hb with rfl | rfl | rfl | rfl | h9
  ·exact h1.lts.1
  ·exact h1.lts.2
  ·exact h2.lts.1
  ·exact h2.lts.2
  ·exact (h2.low b h9).1
theorem HubW.agree {w w':World} {gh gs om:Nat} {v:GView} {oe:Int} {K:Dom} (h:HubW w gh gs om v oe K) (hs:w.heap.size≤w'.heap.size) (ha:∀ b,K b→w'.heap[b]? = w.heap[b]?):HubW w' gh gs om v oe K:=by
 rcases h with ⟨h0,h1,h2⟩ | ⟨h0,gw,hm,vr,R,h1,h2,h3⟩
 ·exact .inl ⟨h0,h1.agreeX fun b hb=>ha b ((h2 b).2 hb),h2⟩
 ·refine .inr ⟨h0,gw,hm,vr,R,h1.agreeX fun b hb=>ha b ((h3 b).2 ?_),h2.agreeX hs fun b hb=>ha b ((h3 b).2 (.inr (.inr hb))),h3⟩
  rcases hb with hb | hb
  ·exact .inl hb
  ·exact .inr (.inl hb)
theorem open_hub {D:Dom} {w:World} {gh gs om:Nat} {va:Value} {v:GView} {S:St} (hst:StoreAt D w gs S) (hS:OkSt S) (hh:HubAt w gh gs om (fun _=>none) 0 0) (hr:RowAt ReqR 3 w va v.reqs) (hv:OkView v) (hm9:∃ m,MaxOK m w) :
  Calls Tryz.prog 34 #[.pointer (some ⟨gh,0,none⟩),.agg #[.string v.kind,.string v.space,va],.int .i64 0] w fun e w'=>∃ K,e=.returned (.tuple #[.int .i64 (idE (openE v S)),.int .i64 (openE v S)])∧HubW w' gh gs om v (openE v S) K∧(∀ b,K b→b=gh∨b=om∨w.heap.size≤b)∧Only (fun b=>b=gh∨b=om) w w':=by
 have h9:=open_any (mk:=0) (n:=0) hst hS hh (by decide) (by decide) hr hv hm9
 refine h9.mono ?_
 rintro e w' (⟨h1,rfl,h3⟩ | ⟨h1,gw,hm,vr,R,rfl,h3,h4,h5,h6⟩)
 ·refine⟨fun b=>b=gh∨b=om,by unfold idE;rw [if_neg h1],.inl ⟨h1,hh.belowX h3,fun b=>Iff.rfl⟩,fun b hb=>hb.elim .inl fun h=>.inr (.inl h),Only.of h3⟩
 ·refine⟨fun b=>b=gh∨b=om∨b=gw∨b=hm∨R b,by unfold idE;rw [h1,if_pos rfl];rfl,.inr ⟨h1,gw,hm,vr,R,?_,h4,fun b=>Iff.rfl⟩,fun b hb=>?_,h6⟩
  ·exact h3
  ·rcases hb with hb | hb | hb
   ·exact .inl hb
   ·exact .inr (.inl hb)
   ·exact .inr (.inr (h5 b hb))
theorem takeG_obj (v:GView) (most:Nat):∀ (l out:List GEvent) (H:GKey→Bool) (a:Int) (y:GEvent),y∈(takeG v most l out H a).1→y∈out∨∃ x∈l,y.object=x.object
 | [],out,H,a,y,h=>.inl h
 | x :: l,out,H,a,y,h=>by
  unfold takeG at h
  by_cases h1:out.length=most
  ·rw [if_pos h1] at h;exact .inl h
  ·rw [if_neg h1] at h
   rcases takeG_obj v most l _ _ _ y h with h2 | ⟨z,h2,h3⟩
   ·rcases List.mem_append.1 h2 with h2 | h2
    ·exact .inl h2
    ·unfold seenE at h2
     split at h2
     ·rw [List.mem_singleton] at h2
      exact .inr ⟨x,List.mem_cons_self,by rw [h2]⟩
     ·cases h2
   ·exact .inr ⟨z,List.mem_cons_of_mem _ h2,h3⟩
theorem seenE_le (v:GView) (H:GKey→Bool) (x:GEvent):(seenE v H x).length≤1:=by
 unfold seenE
 split
 ·exact Nat.le_refl _
 ·exact Nat.zero_le _
theorem takeG_len (v:GView) (most:Nat):∀ (l out:List GEvent) (H:GKey→Bool) (a:Int),(takeG v most l out H a).1.length≤out.length+l.length
 | [],out,H,a=>Nat.le_add_right _ _
 | x :: l,out,H,a=>by
  unfold takeG
  by_cases h1:out.length=most
  ·rw [if_pos h1];exact Nat.le_add_right _ _
  ·rw [if_neg h1]
   have h2:=takeG_len v most l (out++seenE v H x) (seenH v H x) x.rev
   have h3:=seenE_le v H x
   rw [List.length_append] at h2
   rw [List.length_cons]
   omega
def tkE (oe:Int) (S:St):Int:=if oe=0 then sinceE S 0 else 7
def tkL (v:GView) (oe:Int) (S:St):List GEvent:=if oe=0∧sinceE S 0=0 then (takeG v 50 (sinceL S 0) [] noH 0).1 else []
theorem tkL_ok {v:GView} {oe:Int} {S:St} (hS:OkSt S):(tkL v oe S).length≤S.log.length∧∀ x∈tkL v oe S,okEvS x:=by
 unfold tkL
 split
 ·have h1:=takeG_len v 50 (sinceL S 0) [] noH 0
  have h2:=since_len S 0
  refine⟨by rw [List.length_nil,Nat.zero_add] at h1;omega,fun x hx=>?_⟩
  rcases takeG_obj v 50 _ _ _ _ x hx with h3 | ⟨z,h3,h4⟩
  ·cases h3
  ·unfold okEvS
   rw [h4]
   exact hS.obj z (since_mem h3)
 ·exact⟨Nat.zero_le _,fun x hx=>by cases hx⟩
set_option maxRecDepth 100000 in
set_option maxHeartbeats 1600000 in
theorem take_none {w:World} {gh gs om:Nat} (hh:HubAt w gh gs om (fun _=>none) 0 0) :
  Calls Tryz.prog 37 #[.pointer (some ⟨gh,0,none⟩),.int .i64 0,.int .i64 50] w fun e w'=>e=.returned (.tuple #[.slice none 0 0,.int .i64 7])∧w=w':=by
 have hl:(Instr.lookup 146 (.map (some om)) (.int .i64 0) false).run Tryz.prog w=.ok (.pointer none) w:=hh.look 0 (by decide)
 have cc:=fun i=>cell_block hh.box i
 clear hh
 go_enter Tryz.func37,Tryz.ntmps37
 go_wp2_with fail
 go_ret2
 exact⟨rfl,rfl⟩
theorem take_hub {D:Dom} {w0 w:World} {gh gs om:Nat} {v:GView} {oe:Int} {K:Dom} {S:St} (hst:StoreAt D w gs S) (hS:OkSt S) (hh:HubW w gh gs om v oe K) (hv:OkView v) (hn:S.log.length≤1073741824) (hmx:∃ m,MaxOK m w0) (hb0:Below w0.heap.size w0 w) (hK:∀ b,K b→w0.heap.size≤b) :
  Calls Tryz.prog 37 #[.pointer (some ⟨gh,0,none⟩),.int .i64 (idE oe),.int .i64 50] w fun e w'=>∃ E u,e=.returned (.tuple #[u,.int .i64 (tkE oe S)])∧OwnX EvX 12 E w' 56 u (tkL v oe S)∧(∀ b,E b→w.heap.size≤b∧b<w'.heap.size)∧Only K w w':=by
 rcases hh with ⟨h0,h1,h2⟩ | ⟨h0,gw,hm,vr,R,h1,h2,h3⟩
 ·have e1:idE oe=0:=by unfold idE;rw [if_neg h0]
  have e2:tkE oe S=7:=by unfold tkE;rw [if_neg h0]
  have e3:tkL v oe S = []:=by unfold tkL;rw [if_neg fun h=>h0 h.1]
  rw [e1,e2,e3]
  refine (take_none h1).mono ?_
  rintro e w' ⟨rfl,rfl⟩
  exact⟨fun _=>False,_,rfl,OwnX.nil,fun b hb=>hb.elim,Only.refl _ _⟩
 ·have e1:idE oe=1:=by unfold idE;rw [if_pos h0]
  have e2:tkE oe S=sinceE S 0:=by unfold tkE;rw [if_pos h0]
  rw [e1,e2]
  have h9:=take_any hst hS h1 (id:=1) (by decide) (by show (if (1:Int)=1 then some gw else none)=some gw;rw [if_pos rfl]) h2 hv (by omega) 50 (by decide) (by decide) hmx hb0 ⟨hK gw ((h3 gw).2 (.inr (.inr (.inl rfl)))),hK hm ((h3 hm).2 (.inr (.inr (.inr (.inl rfl)))))⟩
  refine h9.mono ?_
  rintro e w' (⟨k1,rfl,k3,k4⟩ | ⟨k1,E,u,rfl,k3,k4,k5,k6⟩)
  ·have e3:tkL v oe S = []:=by unfold tkL;rw [if_neg fun h=>k1 h.2]
   rw [e3]
   exact⟨fun _=>False,_,rfl,OwnX.nil,fun b hb=>hb.elim,k4.mono fun b hb=>(h3 b).2 (.inr (.inl hb))⟩
  ·have e3:tkL v oe S=(takeG v 50 (sinceL S 0) [] noH 0).1:=by unfold tkL;rw [if_pos ⟨h0,k1⟩]
   rw [e3,k1]
   refine⟨E,u,rfl,k3,k4,k6.mono fun b hb=>(h3 b).2 ?_⟩
   rcases hb with hb | hb
   ·exact .inr (.inr (.inr (.inl hb)))
   ·exact .inr (.inr (.inl hb))
end Sto
end Go.Proofs.YtnnceaapodgfbaaGreatDoor
namespace Go.Proofs.YtnnceaapodgfbaaGreatDoor
namespace Sto
open Go.RowKit
open JP (Bs)
structure OnceIs (S:St) (k:GKey) (doc other:ByteArray):Prop where
 no:getE S k 0≠0→(remove S k 0).2.2=getE S k 0
 yes:getE S k 0=0→∀ o Ua Ub,o=getO S k 0→Ua=update S {o with doc:=doc}→Ub=update Ua.1 {o with doc:=other}→
  getE Ub.1 k 0=0∧(Ua.2.2=0→(Ub.2.2=12∨objE {o with doc:=other} = Ub.2.2)∧Ub.2.2≠0∧Ub.1.rev=S.rev+1∧getO Ub.1 k 0=Ua.2.1∧Ua.2.1.rev=(S.rev:Int)+1)∧
  (Ua.2.2≠0→Ub.2.2=0→Ub.1.rev=S.rev+1∧getO Ub.1 k 0=Ub.2.1)∧(Ua.2.2≠0→Ub.2.2≠0→Ub.1.rev=S.rev∧(getO Ub.1 k 0).rev=o.rev)
end Sto
end Go.Proofs.YtnnceaapodgfbaaGreatDoor
namespace Go.Proofs.YtnnceaapodgfbaaGreatDoor
open Go.RowKit
def restOf (a b:Int):Int:=if a.tmod b<0 then a.tmod b+b else a.tmod b
theorem rest_any (a b:Int) (w:World) (hb:0<b) (hb2:b≤1073741824):Calls Tryz.prog 29 #[.int .i64 a,.int .i64 b] w fun e w'=>e=.returned (.int .i64 (restOf a b))∧w=w':=by
 have h1:=Int.tmod_lt_of_pos a hb
 have h2 : -b<a.tmod b:=by
  have:=Int.lt_tmod_of_pos a hb
  omega
 have hb0:(b == 0)=false:=by rw [beq_eq_false_iff_ne];omega
 by_cases h:a.tmod b<0
 ·have hr:restOf a b=a.tmod b+b:=by unfold restOf;rw [if_pos h]
  have Hr:=Lib.hid hr
  have q1:IntKind.i64.wrap (a.tmod b)=a.tmod b:=IntWalk.i64_in _ (by omega)
  have q2:IntKind.i64.wrap (a.tmod b+b)=a.tmod b+b:=IntWalk.i64_in _ (by omega)
  clear hr
  go_enter Tryz.func29,Tryz.ntmps29
  go_wp2_with fail
  go_ret
  exact⟨congrArg (fun x=>Ending.returned (Value.int .i64 x)) Hr.out.symm,rfl⟩
 ·have hr:restOf a b=a.tmod b:=by unfold restOf;rw [if_neg h]
  have Hr:=Lib.hid hr
  have q1:IntKind.i64.wrap (a.tmod b)=a.tmod b:=IntWalk.i64_in _ (by omega)
  clear hr
  go_enter Tryz.func29,Tryz.ntmps29
  go_wp2_with fail
  go_ret
  exact⟨congrArg (fun x=>Ending.returned (Value.int .i64 x)) Hr.out.symm,rfl⟩
end Go.Proofs.YtnnceaapodgfbaaGreatDoor
namespace Go.Proofs.YtnnceaapodgfbaaGreatDoor
namespace Sto
open Go.RowKit
theorem restOf_mod {a b:Int} (hb:0<b):restOf a b=a % b:=by
 unfold restOf
 rw [Int.tmod_eq_emod]
 have h1:=Int.emod_nonneg a (by omega:b≠0)
 have h2:=Int.emod_lt_of_pos a hb
 have h3:(b.natAbs:Int)=b:=by omega
 (repeat' split)<;>omega
theorem step_any (a b:Int) (w:World) (hb:0<b) (hb2:b≤1073741824):Calls Tryz.prog 21 #[.int .i64 a,.int .i64 b] w fun e w'=>e=.returned (.int .i64 (modI a b))∧w=w':=by
 have H:=Lib.hid (rest_any a b w hb hb2)
 rw [restOf_mod hb] at H
 have h1:=Int.emod_nonneg a (by omega:b≠0)
 have h2:=Int.emod_lt_of_pos a hb
 have q1:IntKind.i64.wrap (a % b)=a % b:=IntWalk.i64_in _ (by omega)
 clear h1 h2
 go_enter Tryz.func21,Tryz.ntmps21
 go_wp2_with fail
 refine H.out.mono ?_
 rintro E w1 ⟨rfl,rfl⟩
 go_wp2_with fail
 go_ret
 exact⟨rfl,rfl⟩
theorem did_box {D D' E:Dom} {w w2 w3 w4:World} {g go:Nat} {T:Told} {u1 u2 u3:Value} (hb:Below w.heap.size w w2) (hD:∀ b,D b→b<w.heap.size) (hgo:w.heap.size≤go∧go<w2.heap.size) (h1:StoreAt D' w3 g T.1) (h2:ObjIn E w3 u1 u2 u3 T.2.1) (h3:∀ b,E b→w2.heap.size≤b∧b<w3.heap.size∧¬D' b) (h4:∀ b,D' b→D b∨w2.heap.size≤b) (h5:Only D w2 w3) (ht:Touch go w3 w4) :
  Did D w g T (.returned (.tuple #[objW T.2.1 u1 u2 u3,.int .i64 T.2.2])) w4:=by
 have s1:=hb.size
 have s2:=ht.size
 have n1:∀ b,D' b→b≠go:=fun b hb9 e=>by
  rcases h4 b hb9 with h | h
  ·have:=hD b h;omega
  ·omega
 refine⟨D',E,u1,u2,u3,rfl,h1.agree (fun b hb9=>ht.other b (n1 b hb9)) (by omega),h2.agree fun b hb9=>ht.other b fun e=>by have:=(h3 b hb9).1;omega,fun b hb9=>?_,fun b hb9=>?_,?_⟩
 ·obtain⟨e1,e2,e3⟩:=h3 b hb9
  exact⟨by omega,by omega,e3⟩
 ·rcases h4 b hb9 with h | h
  ·exact .inl h
  ·exact .inr (by omega)
 ·have x1:Only D w w3:=Only.after hb h5
  exact x1.trans (Only.touch (D:=fun b=>b=go) ht rfl) fun b hb hl=>by omega
def stepW (x:GStoreStep) (v1 v2 v3:Value):Value:=.agg (.int .i64 x.kind :: .int .i64 x.rev :: objCs x.o v1 v2 v3).toArray
set_option maxRecDepth 100000 in
set_option maxHeartbeats 3200000 in
theorem do_any {D:Dom} {w0 w:World} {g:Nat} {S:St} (h:StoreAt D w g S) (hH:Home w0 D w) (hS:OkSt S) (hrv:S.rev≤4194303) (x:GStoreStep) (v1 v2 v3:Value) (hl:RowAt LabelR 2 w v1 x.o.labels) (ho:StrAt w v2 x.o.owners) (hh:StrAt w v3 x.o.holds) (hok:OkObj x.o) :
  Calls Tryz.prog 20 #[.pointer (some ⟨g,0,none⟩),stepW x v1 v2 v3] w (Did D w g (doS S x)):=by
 obtain⟨a1,c1,rfl,-,-⟩:=hl.len
 obtain⟨a2,c2,rfl,-,-⟩:=ho.row.len
 obtain⟨a3,c3,rfl,-,-⟩:=hh.row.len
 obtain⟨n1,Hn1⟩:∃ n,Hid (x.o.labels.length=n):=⟨_,Lib.hid rfl⟩
 obtain⟨n2,Hn2⟩:∃ n,Hid (x.o.owners.length=n):=⟨_,Lib.hid rfl⟩
 obtain⟨n3,Hn3⟩:∃ n,Hid (x.o.holds.length=n):=⟨_,Lib.hid rfl⟩
 rw [Hn1.out] at hl
 rw [Hn2.out] at ho
 rw [Hn3.out] at hh
 rw [Hn1.out,Hn2.out,Hn3.out]
 obtain⟨T,HT⟩:∃ T,Hid (doS S x=T):=⟨_,Lib.hid rfl⟩
 rw [HT.out]
 obtain⟨w1,hw1⟩:∃ w1,w1=(w.alloc (.cells #[.int .i64 x.kind,.int .i64 x.rev,.string x.o.okey.kind,.string x.o.okey.space,.string x.o.okey.name,.slice a1 n1 c1,.slice a2 n2 c2,.slice a3 n3 c3,.bool x.o.ending,.string x.o.uid,.int .i64 x.o.rev,.string x.o.doc] 40)).alloc (.cells noA 30):=⟨_,rfl⟩
 obtain⟨gx,hgx⟩:∃ gx,gx=w.heap.size:=⟨_,rfl⟩
 obtain⟨go,hgo⟩:∃ go,go=w.heap.size+1:=⟨_,rfl⟩
 have XO:Hid (w1.heap[gx]? = some (.cells #[.int .i64 x.kind,.int .i64 x.rev,.string x.o.okey.kind,.string x.o.okey.space,.string x.o.okey.name,.slice a1 n1 c1,.slice a2 n2 c2,.slice a3 n3 c3,.bool x.o.ending,.string x.o.uid,.int .i64 x.o.rev,.string x.o.doc] 40 (0,0))):=Lib.hid (by rw [hw1,hgx];exact heap_alloc_old (heap_alloc_new w _))
 have RO:Hid (w1.heap[go]? = some (.cells noA 30 (0,0))):=Lib.hid (by rw [hw1,hgo];exact heap_alloc_at (World.size_alloc _ _).symm)
 have hb1:Below w.heap.size w w1:=by rw [hw1];exact ((Below.refl _ w).alloc (Nat.le_refl _) _).alloc (by rw [World.size_alloc];omega) _
 have hgw:w.heap.size≤go:=by omega
 have hs1:go<w1.heap.size:=by rw [hw1,World.size_alloc,World.size_alloc];omega
 have HB:=Lib.hid hb1
 have HS:=Lib.hid hS
 have HA:=Lib.hid h
 have HH:=Lib.hid (hH.below hb1)
 have HA1:=Lib.hid (h.belowW hb1)
 have HL:=Lib.hid (hl.below stays_label hb1)
 have HO:=Lib.hid (ho.below hb1)
 have HHh:=Lib.hid (hh.below hb1)
 have Hok:=Lib.hid hok
 have HSt:=fun w=>Lib.hid (step_any x.kind 4 w (by decide) (by decide))
 obtain⟨kd,Hkd⟩:∃ kd,Hid (modI x.kind 4=kd):=⟨_,Lib.hid rfl⟩
 rw [Hkd.out] at HSt
 clear hb1 h hS hH hl ho hh hok
 rw [show stepW x (.slice a1 n1 c1) (.slice a2 n2 c2) (.slice a3 n3 c3)=.agg #[.int .i64 x.kind,.int .i64 x.rev,.string x.o.okey.kind,.string x.o.okey.space,.string x.o.okey.name,.slice a1 n1 c1,.slice a2 n2 c2,.slice a3 n3 c3,.bool x.o.ending,.string x.o.uid,.int .i64 x.o.rev,.string x.o.doc] from rfl]
 go_enter Tryz.func20,Tryz.ntmps20
 go_upto_region 1 with fail
 have hex:((w.alloc (.cells #[.int .i64 x.kind,.int .i64 x.rev,.string x.o.okey.kind,.string x.o.okey.space,.string x.o.okey.name,.slice a1 n1 c1,.slice a2 n2 c2,.slice a3 n3 c3,.bool x.o.ending,.string x.o.uid,.int .i64 x.o.rev,.string x.o.doc] 40)).alloc (.cells #[.string {data:=#[]},.string {data:=#[]},.string {data:=#[]},.slice none 0 0,.slice none 0 0,.slice none 0 0,.bool false,.string {data:=#[]},.int .i64 0,.string {data:=#[]}] 30))=w1:=hw1.symm
 rw [hex]
 try rw [←hgo]
 rw [←hgx]
 clear hw1 hex hgx hgo
 have cc:=fun i=>cell_block XO.out i
 go_wp2_with fail
 refine (HSt _).out.mono ?_
 rintro E w2 ⟨rfl,hw2⟩
 subst hw2
 clear HSt
 by_cases hk0:kd=0
 ·subst hk0
  have HTE:Hid (T=create S x.o):=Lib.hid (by rw [←HT.out];unfold doS;rw [Hkd.out,if_pos rfl])
  have HX:=Lib.hid (by have h9:=create_any HA1.out HH.out HS.out hrv x.o (.slice a1 n1 c1) (.slice a2 n2 c2) (.slice a3 n3 c3) HL.out HO.out HHh.out Hok.out;rw [show objW x.o (.slice a1 n1 c1) (.slice a2 n2 c2) (.slice a3 n3 c3)=.agg #[.string x.o.okey.kind,.string x.o.okey.space,.string x.o.okey.name,.slice a1 n1 c1,.slice a2 n2 c2,.slice a3 n3 c3,.bool x.o.ending,.string x.o.uid,.int .i64 x.o.rev,.string x.o.doc] from rfl] at h9;exact h9)
  clear HT
  go_wp2_with fail
  refine HX.out.mono ?_
  rintro E w3 ⟨D9,E9,u1,u2,u3,rfl,k1,k2,k3,k4,k5⟩
  have K1:=Lib.hid k1
  have K2:=Lib.hid k2
  have K3:=Lib.hid k3
  have K4:=Lib.hid k4
  have K5:=Lib.hid k5
  have R3:Hid (w3.heap[go]? = some (.cells noA 30 (0,0))):=Lib.hid ((k5.block go (by omega) fun hm=>by have:=HA.out.low hm;omega).trans RO.out)
  clear k1 k2 k3 k4 k5 HX
  rw [←HTE.out] at K1 K2 ⊢
  obtain⟨TO9,HTO⟩:∃ y,Hid (T.2.1=y):=⟨_,Lib.hid rfl⟩
  obtain⟨TE9,HTE9⟩:∃ y,Hid (T.2.2=y):=⟨_,Lib.hid rfl⟩
  rw [HTO.out,HTE9.out]
  go_wp2_with (refine wpList_store_box (by rfl) _ _ _ (by rfl) go (objCs TO9 u1 u2 u3).toArray (by rfl) (by rfl) _ _ (by exact R3.out) (by exact Tryz.sizeObj) (by rfl) (by rw [←HTO.out];exact objA_ones K2.out) ?_)
  intro WF bF tF
  have BF:=Lib.hid bF
  have TF:=Lib.hid tF
  clear bF tF
  go_wp2_with fail
  refine bodyPost_ret (v:=.tuple #[objW TO9 u1 u2 u3,.int .i64 TE9]) ?_ rfl ?_
  ·exact results_two_obj Tryz.results20 _ _ go _ (by rfl) BF.out rfl
  ·rw [←HTO.out,←HTE9.out]
   exact did_box HB.out (fun b hb=>HA.out.low hb) ⟨hgw,hs1⟩ K1.out K2.out K3.out K4.out K5.out TF.out
 ·have p0:(kd == 0)=false:=by rw [beq_eq_false_iff_ne];exact hk0
  by_cases hk1:kd=1
  ·subst hk1
   clear p0
   have HTE:Hid (T=update S x.o):=Lib.hid (by rw [←HT.out];unfold doS;rw [Hkd.out,if_neg (by decide),if_pos rfl])
   have HX:=Lib.hid (by have h9:=update_any HA1.out HH.out HS.out hrv x.o (.slice a1 n1 c1) (.slice a2 n2 c2) (.slice a3 n3 c3) HL.out HO.out HHh.out Hok.out;rw [show objW x.o (.slice a1 n1 c1) (.slice a2 n2 c2) (.slice a3 n3 c3)=.agg #[.string x.o.okey.kind,.string x.o.okey.space,.string x.o.okey.name,.slice a1 n1 c1,.slice a2 n2 c2,.slice a3 n3 c3,.bool x.o.ending,.string x.o.uid,.int .i64 x.o.rev,.string x.o.doc] from rfl] at h9;exact h9)
   clear HT
   go_wp2_with fail
   refine HX.out.mono ?_
   rintro E w3 ⟨D9,E9,u1,u2,u3,rfl,k1,k2,k3,k4,k5⟩
   have K1:=Lib.hid k1
   have K2:=Lib.hid k2
   have K3:=Lib.hid k3
   have K4:=Lib.hid k4
   have K5:=Lib.hid k5
   have R3:Hid (w3.heap[go]? = some (.cells noA 30 (0,0))):=Lib.hid ((k5.block go (by omega) fun hm=>by have:=HA.out.low hm;omega).trans RO.out)
   clear k1 k2 k3 k4 k5 HX
   rw [←HTE.out] at K1 K2 ⊢
   obtain⟨TO9,HTO⟩:∃ y,Hid (T.2.1=y):=⟨_,Lib.hid rfl⟩
   obtain⟨TE9,HTE9⟩:∃ y,Hid (T.2.2=y):=⟨_,Lib.hid rfl⟩
   rw [HTO.out,HTE9.out]
   go_wp2_with (refine wpList_store_box (by rfl) _ _ _ (by rfl) go (objCs TO9 u1 u2 u3).toArray (by rfl) (by rfl) _ _ (by exact R3.out) (by exact Tryz.sizeObj) (by rfl) (by rw [←HTO.out];exact objA_ones K2.out) ?_)
   intro WF bF tF
   have BF:=Lib.hid bF
   have TF:=Lib.hid tF
   clear bF tF
   go_wp2_with fail
   refine bodyPost_ret (v:=.tuple #[objW TO9 u1 u2 u3,.int .i64 TE9]) ?_ rfl ?_
   ·exact results_two_obj Tryz.results20 _ _ go _ (by rfl) BF.out rfl
   ·rw [←HTO.out,←HTE9.out]
    exact did_box HB.out (fun b hb=>HA.out.low hb) ⟨hgw,hs1⟩ K1.out K2.out K3.out K4.out K5.out TF.out
  ·have p1:(kd == 1)=false:=by rw [beq_eq_false_iff_ne];exact hk1
   by_cases hk2:kd=2
   ·subst hk2
    clear p0 p1
    have HTE:Hid (T=remove S x.o.okey x.rev):=Lib.hid (by rw [←HT.out];unfold doS;rw [Hkd.out,if_neg (by decide),if_neg (by decide),if_pos rfl])
    have HX:=Lib.hid (remove_any HA1.out HH.out HS.out hrv x.o.okey x.rev ⟨Hok.out.kind,Hok.out.space,Hok.out.name⟩)
    clear HT
    go_wp2_with fail
    refine HX.out.mono ?_
    rintro E w3 ⟨D9,E9,u1,u2,u3,rfl,k1,k2,k3,k4,k5⟩
    have K1:=Lib.hid k1
    have K2:=Lib.hid k2
    have K3:=Lib.hid k3
    have K4:=Lib.hid k4
    have K5:=Lib.hid k5
    have R3:Hid (w3.heap[go]? = some (.cells noA 30 (0,0))):=Lib.hid ((k5.block go (by omega) fun hm=>by have:=HA.out.low hm;omega).trans RO.out)
    clear k1 k2 k3 k4 k5 HX
    rw [←HTE.out] at K1 K2 ⊢
    obtain⟨TO9,HTO⟩:∃ y,Hid (T.2.1=y):=⟨_,Lib.hid rfl⟩
    obtain⟨TE9,HTE9⟩:∃ y,Hid (T.2.2=y):=⟨_,Lib.hid rfl⟩
    rw [HTO.out,HTE9.out]
    go_wp2_with (refine wpList_store_box (by rfl) _ _ _ (by rfl) go (objCs TO9 u1 u2 u3).toArray (by rfl) (by rfl) _ _ (by exact R3.out) (by exact Tryz.sizeObj) (by rfl) (by rw [←HTO.out];exact objA_ones K2.out) ?_)
    intro WF bF tF
    have BF:=Lib.hid bF
    have TF:=Lib.hid tF
    clear bF tF
    go_wp2_with fail
    refine bodyPost_ret (v:=.tuple #[objW TO9 u1 u2 u3,.int .i64 TE9]) ?_ rfl ?_
    ·exact results_two_obj Tryz.results20 _ _ go _ (by rfl) BF.out rfl
    ·rw [←HTO.out,←HTE9.out]
     exact did_box HB.out (fun b hb=>HA.out.low hb) ⟨hgw,hs1⟩ K1.out K2.out K3.out K4.out K5.out TF.out
   ·have p2:(kd == 2)=false:=by rw [beq_eq_false_iff_ne];exact hk2
    obtain⟨rv,Hrv⟩:∃ rv,Hid (modI x.rev 3=rv):=⟨_,Lib.hid rfl⟩
    have HTE:Hid (T=(compact S rv,noObj,compactE S rv)):=Lib.hid (by rw [←HT.out,←Hrv.out];unfold doS;rw [Hkd.out,if_neg hk0,if_neg hk1,if_neg hk2])
    have HRe:=fun w=>Lib.hid (rest_any x.rev 3 w (by decide) (by decide))
    rw [restOf_mod (by decide),show x.rev % 3=rv from Hrv.out] at HRe
    have HC:=Lib.hid (compact_any HA1.out rv)
    have hr1:0≤rv∧rv<3:=by rw [←Hrv.out];exact⟨Int.emod_nonneg _ (by decide),Int.emod_lt_of_pos _ (by decide)⟩
    have q1:IntKind.i64.wrap rv=rv:=IntWalk.i64_in _ (by omega)
    clear HT hk0 hk1 hk2 hr1
    go_wp2_with fail
    refine (HRe _).out.mono ?_
    rintro E w2 ⟨rfl,hw2⟩
    subst hw2
    go_wp2_with fail
    refine HC.out.mono ?_
    rintro E w3 ⟨rfl,k1,k5⟩
    have K1:=Lib.hid k1
    have K5:=Lib.hid k5
    have R3:Hid (w3.heap[go]? = some (.cells noA 30 (0,0))):=Lib.hid ((k5.block go (by omega) fun hm=>by have:=HA.out.low hm;omega).trans RO.out)
    clear k1 k5 HC HRe q1
    go_wp2_with (refine wpList_store_box (by rfl) _ _ _ (by rfl) go noA (by rfl) (by rfl) _ _ (by exact R3.out) (by exact Tryz.sizeObj) (by rfl) (by simp [Value.oneCell',noA]) ?_)
    intro WF bF tF
    have BF:=Lib.hid bF
    have TF:=Lib.hid tF
    clear bF tF
    go_wp2_with fail
    refine bodyPost_ret (v:=.tuple #[.agg noA,.int .i64 (compactE S rv)]) ?_ rfl ?_
    ·exact results_two_obj Tryz.results20 _ _ go _ (by rfl) BF.out rfl
    ·rw [HTE.out]
     exact did_box (T:=(compact S rv,noObj,compactE S rv)) (u1:=nilS) (u2:=nilS) (u3:=nilS) (E:=fun _=>False) HB.out (fun b hb=>HA.out.low hb) ⟨hgw,hs1⟩ K1.out (objIn_no _) (fun b hb=>hb.elim) (fun b hb=>.inl hb) K5.out TF.out
end Sto
end Go.Proofs.YtnnceaapodgfbaaGreatDoor
namespace Go.Proofs.YtnnceaapodgfbaaGreatDoor
namespace Sto
open Go.RowKit
theorem uidOf_size (n:Nat) (h:n≤4194304):(uidOf n).size≤32:=by
 unfold uidOf
 rw [mkB_size,List.length_cons]
 have:=Lib.itoa_length_le (n:Int) (by omega) (by omega)
 omega
theorem okObj_put {n:Nat} {kind:Int} {o:GObject} (h:OkObj o) (hn:n≤4194304):OkObj (putO n kind o):=
 ⟨h.kind,h.space,h.name,h.labels,h.owners,h.holds,by
  unfold putO
  dsimp only
  split
  ·have:=uidOf_size n hn;omega
  ·exact h.uid,by unfold putO i64;dsimp only;exact decide_eq_true (by have h1:IntKind.i64.max=9223372036854775807:=rfl;have h2:IntKind.i64.min = -9223372036854775808:=rfl;omega),h.doc⟩
theorem okSt0:OkSt St0:=⟨fun _ h=>(by cases h),by decide,good0⟩
theorem okSt_put {S:St} {kind:Int} {o:GObject} (h:OkSt S) (ho:OkObj o) (hr:S.rev≤4194303):∀ e∈(put S kind o).log,OkObj e.object:=fun e he=>by
 unfold put at he
 rcases List.mem_append.1 he with he | he
 ·exact h.obj e he
 ·rw [List.mem_singleton] at he
  subst he
  exact okObj_put ho (by omega)
theorem okSt_do {S:St} (h:OkSt S) {x:GStoreStep} (hx:OkObj x.o) (hr:S.rev≤4194303):OkSt (doS S x).1:=by
 refine⟨?_,by have:=(rev_do S x).2;omega,good_do h.good x⟩
 have hk:=okObj_kept hx
 unfold doS
 split
 ·rcases create_cases S x.o with ⟨h1,_⟩ | ⟨h1,_⟩
  ·rw [h1];exact h.obj
  ·rw [h1];exact okSt_put h ⟨hk.kind,hk.space,hk.name,hk.labels,hk.owners,hk.holds,hk.uid,hk.rev,hk.doc⟩ hr
 ·split
  ·rcases update_cases S x.o with ⟨h1,_⟩ | ⟨was,h1,_,h2,_⟩
   ·rw [h1];exact h.obj
   ·obtain⟨e,he,h9⟩:=cur_mem h2
    have hw:OkObj was:=h9▸h.obj e he
    rw [h1];exact okSt_put h ⟨hk.kind,hk.space,hk.name,hk.labels,hk.owners,hk.holds,hw.uid,hk.rev,hk.doc⟩ hr
  ·split
   ·rcases remove_cases S x.o.okey x.rev with ⟨h1,_⟩ | ⟨was,h1,h2⟩
    ·rw [h1];exact h.obj
    ·obtain⟨e,he,h9⟩:=cur_mem h2
     rw [h1];exact okSt_put h (h9▸h.obj e he) hr
   ·show ∀ e∈(compact S _).log,_
    rw [grow_compact];exact h.obj
theorem run_snoc (S:St) (l:List GStoreStep) (x:GStoreStep):run S (l++[x])=(doS (run S l) x).1:=by
 induction l generalizing S with
 | nil=>rfl
 | cons a r ih=>exact ih _
theorem okSt_run {S:St} (h:OkSt S):∀ (l:List GStoreStep),(∀ x∈l,OkObj x.o)→S.rev+l.length≤4194303→OkSt (run S l)
 | [],_,_=>h
 | x :: r,hl,hn=>by
  rw [List.length_cons] at hn
  exact okSt_run (okSt_do h (hl x List.mem_cons_self) (by omega)) r (fun y hy=>hl y (List.mem_cons_of_mem _ hy)) (by have:=(rev_do S x).2;omega)
theorem Tryz.sizeStep:(Tryz.prog.info? 40).map (·.size)=some 12:=by kernel_rfl
theorem step_cells {w w':World} {va:Option Addr} {vn vc:Nat} {l:List GStoreStep} (h:RowAt StoreStepR 12 w (.slice va vn vc) l) (hn:l.length=vn) (hb:Below w.heap.size w w') {m:Nat} {x:GStoreStep} (he:l[m]? = some x) :
  ∃ b o v1 v2 v3,va=some ⟨b,o,none⟩∧RowAt LabelR 2 w' v1 x.o.labels∧StrAt w' v2 x.o.owners∧StrAt w' v3 x.o.holds∧∀ i u,(Value.int .i64 x.kind :: .int .i64 x.rev :: objCs x.o v1 v2 v3)[i]? = some u→w'.cell? ⟨b,o+m*12+i,none⟩=some u:=by
 have hm:=(List.getElem?_eq_some_iff.1 he).1
 obtain⟨b,o,c',hv,_,_,hbs,hcell⟩:=h.form (by omega) (by omega)
 injection hv with u1 u2 u3
 obtain⟨ds,_,hcc,c2,rfl,_,_,v1,v2,v3,rfl,g1,g2,g3,_⟩:=hcell m x he
 exact⟨b,o,v1,v2,v3,u1,g1.below stays_label hb,g2.below hb,g3.below hb,fun i u hu=>(hb.cell (p:=⟨b,_,none⟩) hbs).trans (hcc i u hu)⟩
set_option maxRecDepth 100000 in
set_option maxHeartbeats 3200000 in
theorem stored_any (v:Value) (l:List GStoreStep) (w:World) (h:RowAt StoreStepR 12 w v l) (hl:l.length≤4194303) (hok:∀ x∈l,OkObj x.o) (hE:Env w) :
  Calls Tryz.prog 13 #[v] w fun e w'=>∃ g D,e=.returned (.pointer (some ⟨g,0,none⟩))∧StoreAt D w' g (run St0 l)∧(∀ b,D b→w.heap.size≤b)∧Below w.heap.size w w':=by
 obtain⟨a1,c1,rfl,-,-⟩:=h.len
 obtain⟨n,hn⟩:∃ n,l.length=n:=⟨_,rfl⟩
 rw [hn] at h hl ⊢
 have HR:=Lib.hid h
 have HN:=Lib.hid hn
 have Hok:=Lib.hid hok
 have HEn:=Lib.hid hE
 have HNew:=fun w=>Lib.hid (new_any w)
 have HK:∀ w,Hid (Calls Tryz.prog 47 #[.agg #[.string {data:=#[]},.string {data:=#[]},.string {data:=#[]}]] w fun e w'=>e=.returned (.int .i64 6)∧Below w.heap.size w w'):=fun w=>Lib.hid (key_any ByteArray.empty ByteArray.empty ByteArray.empty w (by decide) (by decide) (by decide))
 clear h hn hok hE
 go_enter Tryz.func13,Tryz.ntmps13
 go_wp2_with fail
 refine (HNew _).out.mono ?_
 rintro E w1 ⟨g,D,rfl,hst,hlow,hb1⟩
 have HA:=Lib.hid hst
 have HD:=Lib.hid hlow
 have HB:=Lib.hid hb1
 clear hst hlow hb1 HNew
 go_wp2_with fail
 refine (HK _).out.mono ?_
 rintro E w2 ⟨rfl,hb2⟩
 have HA2:=Lib.hid (HA.out.belowW hb2)
 have HB2:=Lib.hid (HB.out.trans (hb2.mono HB.out.size))
 clear hb2 HK HA HB
 go_wp2_with fail
 go_loopg [16] n (fun k u16 wr=>∃ (i:Nat) (D':Dom),i+k=n∧u16=.int .i64 (i:Int)∧Hid (StoreAt D' wr g (run St0 (l.take i)))∧Hid (∀ b,D' b→w.heap.size≤b)∧Hid (Below w.heap.size w wr))
 case atStart=>exact⟨0,D,by omega,rfl,HA2,HD,HB2⟩
 case round=>
  clear HA2 HB2 HD
  obtain⟨i,D',hik,rfl,HA,HD,HB⟩:=hrel
  cases gk with
  | zero=>
   obtain rfl:n=i:=by omega
   have HA9:Hid (StoreAt D' wr g (run St0 l)):=Lib.hid (by have h9:=HA.out;rw [←HN.out,List.take_length] at h9;exact h9)
   go_wp2_with fail
   go_ret
   exact⟨g,D',rfl,HA9.out,HD.out,HB.out⟩
  | succ k=>
   have hil:i<n:=by omega
   obtain⟨x,hx⟩:∃ x,l[i]? = some x:=⟨l[i]'(by rw [HN.out];exact hil),List.getElem?_eq_getElem _⟩
   obtain⟨b,o,v1,v2,v3,hva,g1,g2,g3,ec⟩:=step_cells HR.out HN.out HB.out hx
   subst hva
   obtain⟨a7,c7,rfl,-,-⟩:=g1.len
   obtain⟨a8,c8,rfl,-,-⟩:=g2.row.len
   obtain⟨a9,c9,rfl,-,-⟩:=g3.row.len
   obtain⟨n7,Hn7⟩:∃ n,Hid (x.o.labels.length=n):=⟨_,Lib.hid rfl⟩
   obtain⟨n8,Hn8⟩:∃ n,Hid (x.o.owners.length=n):=⟨_,Lib.hid rfl⟩
   obtain⟨n9,Hn9⟩:∃ n,Hid (x.o.holds.length=n):=⟨_,Lib.hid rfl⟩
   rw [Hn7.out] at g1 ec
   rw [Hn8.out] at g2 ec
   rw [Hn9.out] at g3 ec
   have f0:=ec 0 _ rfl
   have f1:=ec 1 _ rfl
   have f2:=ec 2 _ rfl
   have f3:=ec 3 _ rfl
   have f4:=ec 4 _ rfl
   have f5:=ec 5 _ rfl
   have f6:=ec 6 _ rfl
   have f7:=ec 7 _ rfl
   have f8:=ec 8 _ rfl
   have f9:=ec 9 _ rfl
   have f10:=ec 10 _ rfl
   have f11:=ec 11 _ rfl
   rw [Nat.add_zero] at f0
   have q1:(0:Int)≤(i:Int):=by omega
   have q2:(i:Int)<(n:Int):=by omega
   have HX:=Lib.hid hx
   have G1:=Lib.hid g1
   have G2:=Lib.hid g2
   have G3:=Lib.hid g3
   have H7:=Lib.hid (heap_alloc_new wr (.cells #[.int .i64 0,.int .i64 0,.string {data:=#[]},.string {data:=#[]},.string {data:=#[]},.slice none 0 0,.slice none 0 0,.slice none 0 0,.bool false,.string {data:=#[]},.int .i64 0,.string {data:=#[]}] 40))
   have hb4:Below wr.heap.size wr (wr.alloc (.cells #[.int .i64 0,.int .i64 0,.string {data:=#[]},.string {data:=#[]},.string {data:=#[]},.slice none 0 0,.slice none 0 0,.slice none 0 0,.bool false,.string {data:=#[]},.int .i64 0,.string {data:=#[]}] 40)):=(Below.refl _ wr).alloc (Nat.le_refl _) _
   have HB4:=Lib.hid hb4
   have hs4:(wr.alloc (.cells #[.int .i64 0,.int .i64 0,.string {data:=#[]},.string {data:=#[]},.string {data:=#[]},.slice none 0 0,.slice none 0 0,.slice none 0 0,.bool false,.string {data:=#[]},.int .i64 0,.string {data:=#[]}] 40)).heap.size=wr.heap.size+1:=World.size_alloc _ _
   have HokX:Hid (OkObj x.o):=Lib.hid (Hok.out x (List.mem_of_getElem? hx))
   have HSi:Hid (OkSt (run St0 (l.take i))):=Lib.hid (okSt_run okSt0 _ (fun y hy=>Hok.out y (List.mem_of_mem_take hy)) (by show 0+_≤_;rw [List.length_take];have:=HN.out;omega))
   have Hrev:Hid ((run St0 (l.take i)).rev≤4194303):=Lib.hid (by have h9:=rev_run St0 (l.take i);have h8:St0.rev=0:=rfl;rw [List.length_take] at h9;have:=HN.out;omega)
   clear hx ec g1 g2 g3 hb4
   go_wp2_with (refine wpList_store_box (by rfl) _ _ _ (by rfl) wr.heap.size #[.int .i64 x.kind,.int .i64 x.rev,.string x.o.okey.kind,.string x.o.okey.space,.string x.o.okey.name,.slice a7 n7 c7,.slice a8 n8 c8,.slice a9 n9 c9,.bool x.o.ending,.string x.o.uid,.int .i64 x.o.rev,.string x.o.doc] (by rfl) (by rfl) _ _ (by exact H7.out) (by exact Tryz.sizeStep) (by rfl) (by simp [Value.oneCell']) ?_)
   intro w5 b5 t5
   have B5:=Lib.hid b5
   have hbb:Below wr.heap.size wr w5:=t5.below HB4.out (Nat.le_refl _)
   have HB5:=Lib.hid hbb
   have hs5:w5.heap.size=wr.heap.size+1:=t5.size.trans hs4
   have HDo:=Lib.hid (do_any (w0:=w) (HA.out.belowW hbb) ⟨HEn.out.1,HEn.out.2.2,HB.out.trans (hbb.mono HB.out.size),HD.out⟩ HSi.out Hrev.out x (.slice a7 n7 c7) (.slice a8 n8 c8) (.slice a9 n9 c9) (G1.out.below stays_label hbb) (G2.out.below hbb) (G3.out.below hbb) HokX.out)
   rw [show stepW x (.slice a7 n7 c7) (.slice a8 n8 c8) (.slice a9 n9 c9)=.agg #[.int .i64 x.kind,.int .i64 x.rev,.string x.o.okey.kind,.string x.o.okey.space,.string x.o.okey.name,.slice a7 n7 c7,.slice a8 n8 c8,.slice a9 n9 c9,.bool x.o.ending,.string x.o.uid,.int .i64 x.o.rev,.string x.o.doc] from rfl] at HDo
   clear b5 t5 hs4 H7 HB4 hbb f0 f1 f2 f3 f4 f5 f6 f7 f8 f9 f10 f11
   have cc:=fun i=>cell_block B5.out i
   go_wp2_with fail
   refine HDo.out.mono ?_
   rintro E w6 ⟨D9,E9,u1,u2,u3,rfl,k1,k2,k3,k4,k5⟩
   have hw:=HB.out.size
   have K1:Hid (StoreAt D9 w6 g (run St0 (l.take (i+1)))):=Lib.hid (by rw [take_snoc HX.out,run_snoc];exact k1)
   have K4:Hid (∀ b,D9 b→w.heap.size≤b):=Lib.hid fun b hb=>(k4 b hb).elim (HD.out b) fun h9=>by omega
   have K5:Hid (Below w.heap.size w w6):=Lib.hid ((HB.out.trans (HB5.out.mono hw)).trans (k5.below HD.out (by omega)))
   clear k1 k2 k3 k4 k5 HDo cc
   go_wp2_with fail
   go_roundg k
   case measure=>omega
   case rel=>exact⟨i+1,D9,by omega,by simp,K1,K4,K5⟩
end Sto
end Go.Proofs.YtnnceaapodgfbaaGreatDoor
namespace Go.Proofs.YtnnceaapodgfbaaGreatDoor
open Go.Shelf
def Tryz.objSort_ren:Go.Shelf.Ren:=⟨fun | 6=>63 | 15=>92 | 14=>91 | 28=>126 | 29=>127 | 20=>118 | 21=>119 | 22=>120 | 23=>121 | 24=>122 | 25=>123 | 26=>124 | 27=>125 | 46=>149 | 47=>150 | 48=>151 | 49=>152 | 50=>153 | 57=>178 | n=>n,fun | 22=>45 | 24=>30 | 25=>123 | 3=>3 | 39=>170 | 0=>0 | 53=>219 | 55=>221 | 4=>4 | 46=>213 | 45=>212 | 50=>160 | 5=>5 | 9=>9 | 66=>243 | 70=>247 | 76=>266 | 77=>267 | n=>n,fun | n=>n⟩
theorem Tryz.objSort:Go.Proofs.SlLaysF0.n6 Tryz.prog Tryz.objSort_ren:={
 mixed:=by kernel_rfl
 f6:=⟨Tryz.f63.name,by decide,Tryz.func63.trans (congrArg some (by kernel_rfl))⟩
 f14:=⟨Tryz.f91.name,by decide,Tryz.func91.trans (congrArg some (by kernel_rfl))⟩
 f15:=Tryz.func92.trans (congrArg some (by kernel_rfl))
 f20:=⟨Tryz.f118.name,by decide,Tryz.func118.trans (congrArg some (by kernel_rfl))⟩
 f21:=⟨Tryz.f119.name,by decide,Tryz.func119.trans (congrArg some (by kernel_rfl))⟩
 f22:=⟨Tryz.f120.name,by decide,Tryz.func120.trans (congrArg some (by kernel_rfl))⟩
 f23:=⟨Tryz.f121.name,by decide,Tryz.func121.trans (congrArg some (by kernel_rfl))⟩
 f24:=⟨Tryz.f122.name,by decide,Tryz.func122.trans (congrArg some (by kernel_rfl))⟩
 f25:=⟨Tryz.f123.name,by decide,Tryz.func123.trans (congrArg some (by kernel_rfl))⟩
 f26:=⟨Tryz.f124.name,by decide,Tryz.func124.trans (congrArg some (by kernel_rfl))⟩
 f27:=⟨Tryz.f125.name,by decide,Tryz.func125.trans (congrArg some (by kernel_rfl))⟩
 f28:=Tryz.func126.trans (congrArg some (by kernel_rfl))
 f29:=Tryz.func127.trans (congrArg some (by kernel_rfl))
 f46:=⟨Tryz.f149.name,by decide,Tryz.func149.trans (congrArg some (by kernel_rfl))⟩
 f47:=Tryz.func150.trans (congrArg some (by kernel_rfl))
 f48:=Tryz.func151.trans (congrArg some (by kernel_rfl))
 f49:=⟨Tryz.f152.name,by decide,Tryz.func152.trans (congrArg some (by kernel_rfl))⟩
 f50:=⟨Tryz.f153.name,by decide,Tryz.func153.trans (congrArg some (by kernel_rfl))⟩
 f57:=⟨Tryz.f178.name,by decide,Tryz.func178.trans (congrArg some (by kernel_rfl))⟩
 t0:=Tryz.underlying0
 a0:=Tryz.isAgg0
 z0:=Tryz.sizeOf0
 v0:=Tryz.zeroValue0
 t3:=Tryz.underlying3
 a3:=Tryz.isAgg3
 z3:=Tryz.sizeOf3
 v3:=Tryz.zeroValue3
 t4:=Tryz.underlying4
 a4:=Tryz.isAgg4
 z4:=Tryz.sizeOf4
 v4:=Tryz.zeroValue4
 t5:=Tryz.underlying5
 a5:=Tryz.isAgg5
 z5:=Tryz.sizeOf5
 v5:=Tryz.zeroValue5
 t9:=Tryz.underlying9
 a9:=Tryz.isAgg9
 z9:=Tryz.sizeOf9
 v9:=Tryz.zeroValue9
 t22:=Tryz.underlying45
 a22:=Tryz.isAgg45
 z22:=Tryz.sizeOf45
 v22:=Tryz.zeroValue45
 t25:=Tryz.underlying123
 a25:=Tryz.isAgg123
 z25:=Tryz.sizeOf123
 v25:=Tryz.zeroValue123
 t39:=Tryz.underlying170
 a39:=Tryz.isAgg170
 z39:=Tryz.sizeOf170
 v39:=Tryz.zeroValue170
 t45:=Tryz.underlying212
 a45:=Tryz.isAgg212
 z45:=Tryz.sizeOf212
 v45:=Tryz.zeroValue212
 t46:=Tryz.underlying213
 a46:=Tryz.isAgg213
 z46:=Tryz.sizeOf213
 v46:=Tryz.zeroValue213
 t50:=Tryz.underlying160
 a50:=Tryz.isAgg160
 z50:=Tryz.sizeOf160
 v50:=Tryz.zeroValue160
 t53:=Tryz.underlying219
 a53:=Tryz.isAgg219
 z53:=Tryz.sizeOf219
 v53:=Tryz.zeroValue219
 t55:=Tryz.underlying221
 a55:=Tryz.isAgg221
 z55:=Tryz.sizeOf221
 v55:=Tryz.zeroValue221
 t66:=Tryz.underlying243
 a66:=Tryz.isAgg243
 z66:=Tryz.sizeOf243
 v66:=Tryz.zeroValue243
 t70:=Tryz.underlying247
 a70:=Tryz.isAgg247
 z70:=Tryz.sizeOf247
 v70:=Tryz.zeroValue247
 t76:=Tryz.underlying266
 a76:=Tryz.isAgg266
 z76:=Tryz.sizeOf266
 v76:=Tryz.zeroValue266
 t77:=Tryz.underlying267
 a77:=Tryz.isAgg267
 z77:=Tryz.sizeOf267
 v77:=Tryz.zeroValue267}
end Go.Proofs.YtnnceaapodgfbaaGreatDoor
namespace Go.Proofs.YtnnceaapodgfbaaGreatDoor
namespace Sto
open Go.RowKit
theorem bl_cb:∀ a b:List UInt8,Op.bytesLess a b=decide (Lib.compareBytes a b<0)
 | [],[]=>rfl
 | [],_ :: _=>rfl
 | _ :: _,[]=>rfl
 | x :: xs,y :: ys=>by
  have ih:=bl_cb xs ys
  unfold Op.bytesLess Lib.compareBytes
  by_cases h1:x<y
  ·simp [h1]
  ·by_cases h2:y<x
   ·have h3:¬x=y:=fun e=>by subst e;exact UInt8.lt_irrefl _ h2
    simp [h1,h2,h3]
   ·have h3:x=y:=by
     rw [UInt8.lt_iff_toNat_lt] at h1 h2
     exact UInt8.toNat_inj.1 (by omega)
    subst h3
    simp [h1,ih]
theorem nanS_any (x:ByteArray) (w:World):Calls Tryz.prog 108 #[.string x] w fun e w'=>e=.returned (.bool false)∧w=w':=by
 go_enter Tryz.func108,Tryz.ntmps108
 go_wp2_with fail
 go_ret
 exact⟨by simp,rfl⟩
def cmpB (a b:ByteArray):Int:=Lib.compareBytes a.data.toList b.data.toList
theorem cmpB_lt {a b:ByteArray} (h:Op.bytesLess a.toList b.toList=true):cmpB a b = -1:=by
 rw [bl_cb,decide_eq_true_iff,Lib.toList_data,Lib.toList_data] at h
 unfold cmpB
 rcases cb_range a.data.toList b.data.toList with e | e | e<;>omega
theorem cmpS_any (a b:ByteArray) (w:World):Calls Tryz.prog 75 #[.string a,.string b] w fun e w'=>e=.returned (.int .i64 (cmpB a b))∧w=w':=by
 have H:=fun x (w:World)=>Lib.hid (nanS_any x w)
 obtain⟨r,Hr⟩:∃ r,Hid (cmpB a b=r):=⟨_,Lib.hid rfl⟩
 rw [Hr.out]
 go_enter Tryz.func75,Tryz.ntmps75
 go_wp2_with fail
 refine (H a w).out.mono ?_
 rintro E w1 ⟨rfl,rfl⟩
 go_wp2_with fail
 refine (H b w).out.mono ?_
 rintro E w1 ⟨rfl,rfl⟩
 cases h1:Op.bytesLess a.toList b.toList with
 | true=>
  obtain rfl:r = -1:=by rw [←Hr.out];exact cmpB_lt h1
  go_wp2_with fail
  go_ret
  exact⟨rfl,rfl⟩
 | false=>
  have q9:(binOp .gtr 9 (.string a) (.string b)).run Tryz.prog w=.ok (.bool (!(Op.bytesLess a.toList b.toList || a.toList == b.toList))) w:=by simp [binOp,Op.stringOp]
  cases h2:(a.toList == b.toList) with
  | true=>
   have Hr0:Hid (r=0):=Lib.hid (by
    rw [←Hr.out]
    unfold cmpB
    have h3:=eq_of_beq h2
    rw [Lib.toList_data,Lib.toList_data] at h3
    rw [h3,cb_self])
   rw [h1,h2] at q9
   go_wp2_with fail
   go_ret
   exact⟨by rw [Hr0.out];rfl,rfl⟩
  | false=>
   have Hr1:Hid (r=1):=Lib.hid (by
    rw [←Hr.out]
    unfold cmpB
    rw [bl_cb,decide_eq_false_iff_not,Lib.toList_data,Lib.toList_data] at h1
    rw [beq_eq_false_iff_ne,Lib.toList_data,Lib.toList_data] at h2
    rcases cb_range a.data.toList b.data.toList with e | e | e
    ·omega
    ·exact absurd (cb_eq _ _ e) h2
    ·exact e)
   rw [h1,h2] at q9
   go_wp2_with fail
   go_ret
   exact⟨by rw [Hr1.out];rfl,rfl⟩
def orI (a b:Int):Int:=if a≠0 then a else b
set_option maxRecDepth 100000 in
theorem or_any (g:Nat) (a b:Int) (w:World) (T:TypeId) (h:w.heap[g]? = some (.cells #[.int .i64 a,.int .i64 b] T (0,0))):Calls Tryz.prog 74 #[.slice (some ⟨g,0,none⟩) 2 2] w fun e w'=>e=.returned (.int .i64 (orI a b))∧w=w':=by
 have cc:=fun i=>cell_block h i
 have c0:w.cell? ⟨g,0,none⟩=some (.int .i64 a):=cc 0
 have c1:w.cell? ⟨g,0+1*1,none⟩=some (.int .i64 b):=cc 1
 have c2:w.cell? ⟨g,1,none⟩=some (.int .i64 b):=cc 1
 have c3:w.cell? ⟨g,0+1,none⟩=some (.int .i64 b):=cc 1
 obtain⟨r,Hr⟩:∃ r,Hid (orI a b=r):=⟨_,Lib.hid rfl⟩
 rw [Hr.out]
 clear cc h
 go_enter Tryz.func74,Tryz.ntmps74
 go_wp2_with fail
 go_loopg [5,8] 2 (fun k u5 u8 wr=>wr=w∧∃ i:Nat,i+k=2∧u8=.int .i64 (i:Int)∧(i≠0→Hid (a=0))∧(i=2→Hid (b=0)))
 case atStart=>exact⟨rfl,0,rfl,rfl,fun h=>absurd rfl h,fun h=>by cases h⟩
 case round=>
  obtain⟨rfl,i,hik,rfl,h1,h2⟩:=hrel
  match gk,hik with
  | 0,hik=>
   obtain rfl:i=2:=by omega
   have Ha:=h1 (by decide)
   have Hb:=h2 rfl
   have Hr0:Hid (r=0):=Lib.hid (by rw [←Hr.out,Ha.out,Hb.out];rfl)
   clear h1 h2 Ha Hb hik
   go_wp2_with fail
   go_ret
   exact⟨by rw [Hr0.out];rfl,rfl⟩
  | 1,hik=>
   obtain rfl:i=1:=by omega
   have Ha:=h1 (by decide)
   clear h1 h2 hik
   by_cases hb:b=0
   ·subst hb
    go_wp2_with fail
    go_roundg 0
    case measure=>omega
    case rel=>exact⟨rfl,2,rfl,rfl,fun _=>Ha,fun _=>Lib.hid trivial⟩
   ·have q1:(b != 0)=true:=bne_iff_ne.2 hb
    have Hr1:Hid (r=b):=Lib.hid (by rw [←Hr.out,Ha.out];rfl)
    clear hb
    go_wp2_with fail
    go_ret
    exact⟨by rw [Hr1.out];rfl,rfl⟩
  | k+2,hik=>
   obtain rfl:i=0:=by omega
   obtain rfl:k=0:=by omega
   clear h1 h2 hik
   by_cases ha:a=0
   ·subst ha
    go_wp2_with fail
    go_roundg 1
    case measure=>omega
    case rel=>exact⟨rfl,1,rfl,rfl,fun _=>Lib.hid trivial,fun h=>by cases h⟩
   ·have q1:(a != 0)=true:=bne_iff_ne.2 ha
    have Hr1:Hid (r=a):=Lib.hid (by rw [←Hr.out];unfold orI;rw [if_pos ha])
    clear ha
    go_wp2_with fail
    go_ret
    exact⟨by rw [Hr1.out];rfl,rfl⟩
set_option maxRecDepth 100000 in
set_option maxHeartbeats 1600000 in
theorem order_any (a1 a2 a3 b1 b2 b3:ByteArray) (x1 x2 x3 x4 x5 x6 x7 y1 y2 y3 y4 y5 y6 y7:Value) (W:World):Calls Tryz.prog 64 #[.agg #[.string a1,.string a2,.string a3,x1,x2,x3,x4,x5,x6,x7],.agg #[.string b1,.string b2,.string b3,y1,y2,y3,y4,y5,y6,y7]] W fun e w'=>e=.returned (.int .i64 (orI (cmpB a2 b2) (cmpB a3 b3)))∧∃ q os',w'=Go.Sort.grow (W.drewN q) os':=by
 have HC:=fun a b w=>Lib.hid (cmpS_any a b w)
 obtain⟨W2,hW2⟩:∃ W2,W2=(W.alloc (.cells #[.string a1,.string a2,.string a3,x1,x2,x3,x4,x5,x6,x7] 30)).alloc (.cells #[.string b1,.string b2,.string b3,y1,y2,y3,y4,y5,y6,y7] 30):=⟨_,rfl⟩
 obtain⟨ga,hga⟩:∃ ga,ga=W.heap.size:=⟨_,rfl⟩
 obtain⟨gb,hgb⟩:∃ gb,gb=W.heap.size+1:=⟨_,rfl⟩
 have XA:Hid (W2.heap[ga]? = some (.cells #[.string a1,.string a2,.string a3,x1,x2,x3,x4,x5,x6,x7] 30 (0,0))):=Lib.hid (by rw [hW2,hga];exact heap_alloc_old (heap_alloc_new W _))
 have XB:Hid (W2.heap[gb]? = some (.cells #[.string b1,.string b2,.string b3,y1,y2,y3,y4,y5,y6,y7] 30 (0,0))):=Lib.hid (by rw [hW2,hgb];exact heap_alloc_at (World.size_alloc _ _).symm)
 have HW2:=Lib.hid hW2
 go_enter Tryz.func64,Tryz.ntmps64
 go_upto_region 1 with fail
 rw [←hW2]
 try rw [←hgb]
 rw [←hga]
 clear hW2 hga hgb
 refine wp_region_hold 14 (fun w'=>∃ q,w'=W2.drewN q) (by kernel_rfl) (by kernel_rfl) ?_ ?_
 ·exact⟨1,rfl⟩
 simp only [List.take_succ_cons,List.take_zero,List.drop_succ_cons,List.drop_zero]
 (first | (refine wpHold_pure (v:=?_) (by rfl) (fun w=>?_) ?_;rotate_left;focus (first | (go_simp;done) | (go_simp;with_reducible rfl))) | (refine wpHold_skip ?_ ?_;focus (go_simp;done)) | (refine wpHold_pure' (v:=?_) ?_ (fun w=>?_) ?_;rotate_left;focus (go_simp;done);focus (first | (go_simp;done) | (go_simp;with_reducible rfl))));try simp only [Act.put,List.setIfInBounds_toArray,List.set_cons_zero,List.set_cons_succ]
 (first | (refine wpHold_pure (v:=?_) (by rfl) (fun w=>?_) ?_;rotate_left;focus (first | (go_simp;done) | (go_simp;with_reducible rfl))) | (refine wpHold_skip ?_ ?_;focus (go_simp;done)) | (refine wpHold_pure' (v:=?_) ?_ (fun w=>?_) ?_;rotate_left;focus (go_simp;done);focus (first | (go_simp;done) | (go_simp;with_reducible rfl))));try simp only [Act.put,List.setIfInBounds_toArray,List.set_cons_zero,List.set_cons_succ]
 refine wpHold_read (v:=.string a2) (by rfl) (fun w' hI=>?_) ?_
 ·obtain⟨q,rfl⟩:=hI
  have ca:∀ i,(W2.drewN q).cell? ⟨ga,i,none⟩=_:=fun i=>cell_block XA.out i
  have cb:∀ i,(W2.drewN q).cell? ⟨gb,i,none⟩=_:=fun i=>cell_block XB.out i
  go_simp
  done
 try simp only [Act.put,List.setIfInBounds_toArray,List.set_cons_zero,List.set_cons_succ]
 (first | (refine wpHold_pure (v:=?_) (by rfl) (fun w=>?_) ?_;rotate_left;focus (first | (go_simp;done) | (go_simp;with_reducible rfl))) | (refine wpHold_skip ?_ ?_;focus (go_simp;done)) | (refine wpHold_pure' (v:=?_) ?_ (fun w=>?_) ?_;rotate_left;focus (go_simp;done);focus (first | (go_simp;done) | (go_simp;with_reducible rfl))));try simp only [Act.put,List.setIfInBounds_toArray,List.set_cons_zero,List.set_cons_succ]
 (first | (refine wpHold_pure (v:=?_) (by rfl) (fun w=>?_) ?_;rotate_left;focus (first | (go_simp;done) | (go_simp;with_reducible rfl))) | (refine wpHold_skip ?_ ?_;focus (go_simp;done)) | (refine wpHold_pure' (v:=?_) ?_ (fun w=>?_) ?_;rotate_left;focus (go_simp;done);focus (first | (go_simp;done) | (go_simp;with_reducible rfl))));try simp only [Act.put,List.setIfInBounds_toArray,List.set_cons_zero,List.set_cons_succ]
 refine wpHold_read (v:=.string b2) (by rfl) (fun w' hI=>?_) ?_
 ·obtain⟨q,rfl⟩:=hI
  have ca:∀ i,(W2.drewN q).cell? ⟨ga,i,none⟩=_:=fun i=>cell_block XA.out i
  have cb:∀ i,(W2.drewN q).cell? ⟨gb,i,none⟩=_:=fun i=>cell_block XB.out i
  go_simp
  done
 try simp only [Act.put,List.setIfInBounds_toArray,List.set_cons_zero,List.set_cons_succ]
 refine wpHold_call (v:=.int .i64 (cmpB a2 b2)) (f:=75) (args:=#[.string a2,.string b2]) (by rfl) (fun w'=>?_) (fun w' hI=>?_) ?_
 ·go_simp
  done
 ·exact (HC a2 b2 w').out.mono fun e w'' ⟨h1,h2⟩=>⟨h1,h2▸hI⟩
 try simp only [Act.put,List.setIfInBounds_toArray,List.set_cons_zero,List.set_cons_succ]
 (first | (refine wpHold_pure (v:=?_) (by rfl) (fun w=>?_) ?_;rotate_left;focus (first | (go_simp;done) | (go_simp;with_reducible rfl))) | (refine wpHold_skip ?_ ?_;focus (go_simp;done)) | (refine wpHold_pure' (v:=?_) ?_ (fun w=>?_) ?_;rotate_left;focus (go_simp;done);focus (first | (go_simp;done) | (go_simp;with_reducible rfl))));try simp only [Act.put,List.setIfInBounds_toArray,List.set_cons_zero,List.set_cons_succ]
 (first | (refine wpHold_pure (v:=?_) (by rfl) (fun w=>?_) ?_;rotate_left;focus (first | (go_simp;done) | (go_simp;with_reducible rfl))) | (refine wpHold_skip ?_ ?_;focus (go_simp;done)) | (refine wpHold_pure' (v:=?_) ?_ (fun w=>?_) ?_;rotate_left;focus (go_simp;done);focus (first | (go_simp;done) | (go_simp;with_reducible rfl))));try simp only [Act.put,List.setIfInBounds_toArray,List.set_cons_zero,List.set_cons_succ]
 refine wpHold_read (v:=.string a3) (by rfl) (fun w' hI=>?_) ?_
 ·obtain⟨q,rfl⟩:=hI
  have ca:∀ i,(W2.drewN q).cell? ⟨ga,i,none⟩=_:=fun i=>cell_block XA.out i
  have cb:∀ i,(W2.drewN q).cell? ⟨gb,i,none⟩=_:=fun i=>cell_block XB.out i
  go_simp
  done
 try simp only [Act.put,List.setIfInBounds_toArray,List.set_cons_zero,List.set_cons_succ]
 (first | (refine wpHold_pure (v:=?_) (by rfl) (fun w=>?_) ?_;rotate_left;focus (first | (go_simp;done) | (go_simp;with_reducible rfl))) | (refine wpHold_skip ?_ ?_;focus (go_simp;done)) | (refine wpHold_pure' (v:=?_) ?_ (fun w=>?_) ?_;rotate_left;focus (go_simp;done);focus (first | (go_simp;done) | (go_simp;with_reducible rfl))));try simp only [Act.put,List.setIfInBounds_toArray,List.set_cons_zero,List.set_cons_succ]
 (first | (refine wpHold_pure (v:=?_) (by rfl) (fun w=>?_) ?_;rotate_left;focus (first | (go_simp;done) | (go_simp;with_reducible rfl))) | (refine wpHold_skip ?_ ?_;focus (go_simp;done)) | (refine wpHold_pure' (v:=?_) ?_ (fun w=>?_) ?_;rotate_left;focus (go_simp;done);focus (first | (go_simp;done) | (go_simp;with_reducible rfl))));try simp only [Act.put,List.setIfInBounds_toArray,List.set_cons_zero,List.set_cons_succ]
 refine wpHold_read (v:=.string b3) (by rfl) (fun w' hI=>?_) ?_
 ·obtain⟨q,rfl⟩:=hI
  have ca:∀ i,(W2.drewN q).cell? ⟨ga,i,none⟩=_:=fun i=>cell_block XA.out i
  have cb:∀ i,(W2.drewN q).cell? ⟨gb,i,none⟩=_:=fun i=>cell_block XB.out i
  go_simp
  done
 try simp only [Act.put,List.setIfInBounds_toArray,List.set_cons_zero,List.set_cons_succ]
 refine wpHold_call (v:=.int .i64 (cmpB a3 b3)) (f:=75) (args:=#[.string a3,.string b3]) (by rfl) (fun w'=>?_) (fun w' hI=>?_) ?_
 ·go_simp
  done
 ·exact (HC a3 b3 w').out.mono fun e w'' ⟨h1,h2⟩=>⟨h1,h2▸hI⟩
 try simp only [Act.put,List.setIfInBounds_toArray,List.set_cons_zero,List.set_cons_succ]
 refine wpHold_nil ?_
 intro w' hI
 obtain⟨q,rfl⟩:=hI
 go_wp2_with fail
 refine (or_any W2.heap.size (cmpB a2 b2) (cmpB a3 b3) _ 3 (heap_alloc_new (W2.drewN q) _)).mono ?_
 rintro E w2 ⟨rfl,hw⟩
 subst hw
 go_wp2_with fail
 go_ret
 have hgrow:∀ o1 o2 o3:Obj,(((W.drewN q).alloc o1).alloc o2).alloc o3=Go.Sort.grow (W.drewN q) (#[o1]++(#[o2] ++ #[o3])):=fun o1 o2 o3=>by
  rw [Go.Sort.alloc_eq_grow,Go.Sort.alloc_eq_grow,Go.Sort.alloc_eq_grow,Go.Sort.grow_grow,Go.Sort.grow_grow]
 exact⟨rfl,q,_,by rw [HW2.out];exact hgrow _ _ _⟩
end Sto
end Go.Proofs.YtnnceaapodgfbaaGreatDoor
namespace Go.Proofs.YtnnceaapodgfbaaGreatDoor
namespace Sto
open Go.RowKit Go.Shelf Go.Sort
instance inhKey:Inhabited GKey:=⟨noKey⟩
instance inhOb:Inhabited GObject:=⟨noObj⟩
def oneV (v:Value):Value:=if v.oneCell'=true then v else .nilIface
theorem oneV_one (v:Value):(oneV v).oneCell'=true:=by
 unfold oneV
 split
 ·assumption
 ·rfl
theorem oneV_of {v:Value} (h:v.oneCell'=true):oneV v=v:=if_pos h
abbrev OC:=(Value × Value × Value) × GObject
def encOw (p:OC):List Value:=objCs p.2 (oneV p.1.1) (oneV p.1.2.1) (oneV p.1.2.2)
def cfOb (a b:GObject):Int:=orI (cmpB a.okey.space b.okey.space) (cmpB a.okey.name b.okey.name)
def cfOw (p q:OC):Int:=cfOb p.2 q.2
theorem ltOw (p q:OC):ltOf cfOw p q=decide (cfOb p.2 q.2<0):=rfl
theorem cfOb_lt (a b:GObject):cfOb a b<0↔ahead a b:=by
 unfold cfOb orI ahead lessS cmpB
 by_cases h:Lib.compareBytes a.okey.space.data.toList b.okey.space.data.toList=0
 ·have e:a.okey.space=b.okey.space:=by have h9:=cb_eq _ _ h;exact toList_inj (by rw [Lib.toList_data,Lib.toList_data];exact h9)
  rw [if_neg (fun h9=>h9 h)]
  constructor
  ·exact fun h9=>.inr ⟨e,h9⟩
  ·rintro (h9 | ⟨_,h9⟩)
   ·omega
   ·exact h9
 ·rw [if_pos h]
  constructor
  ·exact fun h9=>.inl h9
  ·rintro (h9 | ⟨e,_⟩)
   ·exact h9
   ·rw [e,cb_self] at h;exact absurd rfl h
theorem cfOb_nlt_trans (a b c:GObject) (h1:¬cfOb a b<0) (h2:¬cfOb b c<0):¬cfOb a c<0:=by
 have n2:=cb_ntrans a.okey.name.data.toList b.okey.name.data.toList c.okey.name.data.toList
 have s1:=cb_swap a.okey.space.data.toList b.okey.space.data.toList
 have s2:=cb_swap b.okey.space.data.toList c.okey.space.data.toList
 have s3:=cb_swap a.okey.space.data.toList c.okey.space.data.toList
 have t1:=cb_trans c.okey.space.data.toList b.okey.space.data.toList a.okey.space.data.toList
 have z1:Lib.compareBytes a.okey.space.data.toList b.okey.space.data.toList=0→Lib.compareBytes a.okey.space.data.toList c.okey.space.data.toList=Lib.compareBytes b.okey.space.data.toList c.okey.space.data.toList:=fun h=>by rw [cb_eq _ _ h]
 have z2:Lib.compareBytes b.okey.space.data.toList c.okey.space.data.toList=0→Lib.compareBytes a.okey.space.data.toList c.okey.space.data.toList=Lib.compareBytes a.okey.space.data.toList b.okey.space.data.toList:=fun h=>by rw [cb_eq _ _ h]
 unfold cfOb orI cmpB at *
 split at h1<;>split at h2<;>split<;>omega
theorem swoOw:SWO (ltOf cfOw) where
 irrefl x:=by
  rw [ltOw,decide_eq_false_iff_not,cfOb_lt]
  exact ahead_irrefl _
 trans x y z h1 h2:=by
  rw [ltOw,decide_eq_true_iff,cfOb_lt] at *
  exact ahead_trans h1 h2
 ntrans x y z h1 h2:=by
  rw [ltOw,decide_eq_false_iff_not] at *
  exact cfOb_nlt_trans _ _ _ h1 h2
theorem ownedCmp (x y:OC) (W:World):Calls Tryz.prog 64 #[.agg (encOw x).toArray,.agg (encOw y).toArray] W fun e w'=>e=.returned (.int .i64 (cfOw x y))∧∃ q os',w'=Go.Sort.grow (W.drewN q) os':=
 order_any x.2.okey.kind x.2.okey.space x.2.okey.name y.2.okey.kind y.2.okey.space y.2.okey.name _ _ _ _ _ _ _ _ _ _ _ _ _ _ W
theorem ownedLays (blk off size:Nat) (w:World):CmpLays Tryz.prog 64 #[] encOw 10 cfOw blk off size w:=fun _ _ _ _ x y=>ownedCmp x y _
theorem sorted_pairs {α:Type} [Inhabited α] {cf:α→α→Int} (c:α→α→Int) (hc:∀ p q,ltOf cf p q=decide (c p q<0)) {d:Array α} {n:Nat} (hn:d.size=n) (h:SortedIn (ltOf cf) 0 n d):d.toList.Pairwise fun p q=>¬c q p<0:=by
 rw [List.pairwise_iff_getElem]
 intro i j hi hj hij
 have h1:=h i j (Nat.zero_le _) hij (by rw [←hn];simpa using hj)
 rw [hc,decide_eq_false_iff_not] at h1
 rw [getElem!_pos d j (by simpa using hj),getElem!_pos d i (by simpa using hi)] at h1
 simpa using h1
theorem encOw_len (x:OC):(encOw x).length=10:=rfl
theorem encOw_one (x:OC):∀ v∈encOw x,v.oneCell'=true:=fun v hv=>by
 unfold encOw objCs at hv
 simp only [List.mem_cons,List.not_mem_nil,or_false] at hv
 rcases hv with rfl | rfl | rfl | rfl | rfl | rfl | rfl | rfl | rfl | rfl
 ·rfl
 ·rfl
 ·rfl
 ·exact oneV_one _
 ·exact oneV_one _
 ·exact oneV_one _
 ·rfl
 ·rfl
 ·rfl
 ·rfl
theorem flatK_getOw (d:List OC):(flatK encOw 10 d.toArray).toList=(d.map encOw).flatten:=by
 have hk:∀ cs∈d.map encOw,cs.length=10:=fun cs h=>by
  obtain⟨x,_,rfl⟩:=List.mem_map.1 h
  rfl
 have hl:(d.map encOw).flatten.length=d.length*10:=by rw [flat_len hk,List.length_map]
 refine List.ext_getElem? fun t=>?_
 by_cases ht:t<d.length*10
 ·have e1:t=t / 10*10+t % 10:=by omega
  have hj:t / 10<d.length:=by omega
  have hi:t % 10<10:=by omega
  have e2:(d.map encOw).flatten[t]? = some (encOw d[t / 10])[t % 10]:=by
   conv=>lhs;rw [e1]
   exact get_flat hk (by rw [List.getElem?_map,List.getElem?_eq_getElem hj];rfl) (List.getElem?_eq_getElem (by rw [encOw_len];exact hi))
  rw [e2]
  have e3:=get_flatK encOw 10 d.toArray t (by simpa using ht)
  have e4:t<(flatK encOw 10 d.toArray).size:=by rw [size_flatK];simpa using ht
  rw [getElem!_pos _ t e4] at e3
  rw [Array.getElem?_toList,Array.getElem?_eq_getElem e4,e3,getElem!_pos d.toArray (t / 10) (by simpa using hj),getElem!_pos _ (t % 10) (by rw [encOw_len];exact hi)]
  rfl
 ·rw [List.getElem?_eq_none (by rw [Array.length_toList,size_flatK];simp;omega),List.getElem?_eq_none (by rw [hl];omega)]
theorem ow_sorted {E:Dom} {w0 w:World} {B g n c:Nat} {l:List GObject} (h:OwnAt (ObjX E w0) 10 w B 30 (.slice (some ⟨g,0,none⟩) n c) l) :
  n=l.length∧g<w.heap.size∧∃ d:List OC,d.length=l.length∧HoldsK encOw 10 w g 0 d.toArray∧∀ (q:Nat) (d':List OC),d'.Perm d→(d'.map (·.2)).Perm l∧
   OwnAt (ObjX E w0) 10 (putRowK encOw 10 (Go.Sort.ahead w q) g 0 d'.toArray) B 30 (.slice (some ⟨g,0,none⟩) n c) (d'.map (·.2))∧RowKit.Below B w (putRowK encOw 10 (Go.Sort.ahead w q) g 0 d'.toArray)∧(∀ k,k≠g→(putRowK encOw 10 (Go.Sort.ahead w q) g 0 d'.toArray).heap[k]? = w.heap[k]?)∧(putRowK encOw 10 (Go.Sort.ahead w q) g 0 d'.toArray).heap.size=w.heap.size:=by
 obtain⟨css,c1,c2,⟨c3,c4⟩,c5⟩:=h
 rcases c4 with ⟨h0,_⟩ | ⟨g',cap,cur,hv,hB,hh,hle,hm,hzc,ht⟩
 ·cases h0
 ·injection hv with u1 u2 u3
  injection u1 with u1
  injection u1 with u1
  subst u1;subst u2;subst u3
  have hgl:g<w.heap.size:=by
   rcases Nat.lt_or_ge g w.heap.size with h1 | h1
   ·exact h1
   ·rw [Array.getElem?_eq_none h1] at hh;cases hh
  obtain⟨d,hd1,hd2⟩:=pick_each (fun j (p:OC)=>∃ cs x,css[j]? = some cs∧l[j]? = some x∧p.2=x∧encOw p=cs) l.length (fun j hj=>by
   have hj1:css[j]? = some (css[j]'(by omega)):=List.getElem?_eq_getElem _
   have hj2:l[j]? = some l[j]:=List.getElem?_eq_getElem _
   obtain⟨s1,s2,s3,e1,e2⟩:=c5 j _ _ hj1 hj2
   refine⟨((s1,s2,s3),l[j]),_,_,hj1,hj2,rfl,?_⟩
   rw [e1]
   unfold encOw
   rw [oneV_of (own_one e2.labels.own),oneV_of (own_one e2.owners.own),oneV_of (own_one e2.holds.own)])
  have hdl:d.map (·.2)=l:=by
   refine List.ext_getElem? fun j=>?_
   rw [List.getElem?_map]
   by_cases hj:j<l.length
   ·have hp:d[j]? = some (d[j]'(by omega)):=List.getElem?_eq_getElem _
    obtain⟨cs,x,_,e2,e3,_⟩:=hd2 j _ hp
    rw [hp,e2,←e3]
    rfl
   ·rw [List.getElem?_eq_none (by omega),List.getElem?_eq_none (by omega)];rfl
  have hdc:d.map encOw=css:=by
   refine List.ext_getElem? fun j=>?_
   rw [List.getElem?_map]
   by_cases hj:j<l.length
   ·have hp:d[j]? = some (d[j]'(by omega)):=List.getElem?_eq_getElem _
    obtain⟨cs,x,e1,_,_,e4⟩:=hd2 j _ hp
    rw [hp,e1,←e4]
    rfl
   ·rw [List.getElem?_eq_none (by omega),List.getElem?_eq_none (by omega)];rfl
  have hR:∀ p∈d,ObjX E w0 w (encOw p) p.2:=fun p hp=>by
   obtain⟨j,hj,rfl⟩:=List.getElem_of_mem hp
   obtain⟨cs,x,e1,e2,e3,e4⟩:=hd2 j _ (List.getElem?_eq_getElem hj)
   rw [e3,e4]
   exact c5 j cs x e1 e2
  refine⟨rfl,hgl,d,hd1,?_,?_⟩
  ·intro j hj
   rw [size_flatK] at hj
   have hj3:j<l.length*10:=by simpa [hd1] using hj
   refine⟨?_,free_block hh _⟩
   have e4:j<(flatK encOw 10 d.toArray).size:=by rw [size_flatK];exact hj
   rw [getElem!_pos _ j e4,Nat.zero_add,cell_block hh]
   have e5:(flatK encOw 10 d.toArray).toList[j]? = cur.toList[j]?:=by
    rw [flatK_getOw,hdc,←ht,List.getElem?_take_of_lt hj3]
   rw [Array.getElem?_toList,Array.getElem?_toList,Array.getElem?_eq_getElem e4] at e5
   exact e5.symm
  ·intro q d' hp
   have hl':d'.length=l.length:=by rw [hp.length_eq,hd1]
   obtain⟨W,hW⟩:∃ W,putRowK encOw 10 (Go.Sort.ahead w q) g 0 d'.toArray=W:=⟨_,rfl⟩
   rw [hW]
   have hw:W.heap[g]? = some (.cells (putCells id 0 (flatK encOw 10 d'.toArray) cur) 30 (0,0)):=by
    rw [←hW]
    unfold putRowK putRow mapBlock
    show (Array.modify w.heap g _)[g]? = _
    rw [Array.getElem?_modify,if_pos rfl,hh]
    rfl
   have ho:∀ k,k≠g→W.heap[k]? = w.heap[k]?:=fun k hk=>by
    rw [←hW]
    unfold putRowK putRow mapBlock
    show (Array.modify w.heap g _)[k]? = _
    rw [Array.getElem?_modify,if_neg (Ne.symm hk)]
   have hs:W.heap.size=w.heap.size:=by
    rw [←hW]
    unfold putRowK putRow mapBlock
    show (Array.modify w.heap g _).size=_
    rw [Array.size_modify]
   have hk':∀ cs∈d'.map encOw,cs.length=10:=fun cs h=>by
    obtain⟨x,_,rfl⟩:=List.mem_map.1 h
    rfl
   refine⟨by rw [←hdl];exact hp.map _,⟨d'.map encOw,by rw [List.length_map,List.length_map],hk',⟨by rw [flat_len hk',List.length_map,List.length_map],.inr ⟨g,c,_,by rw [List.length_map,hl'],hB,hw,by rw [List.length_map,hl'];exact hle,hm,by unfold putCells;rw [Array.size_mapIdx];exact hzc,?_⟩⟩,?_⟩,⟨by rw [←hW];rfl,by rw [←hW];rfl,by rw [←hW];rfl,by rw [hs];exact Nat.le_refl _,fun k hk=>ho k (by omega)⟩,ho,hs⟩
   ·rw [←flatK_getOw,List.length_map,hl']
    apply List.ext_getElem?
    intro t
    by_cases htl:t<l.length*10
    ·have htc:t<cur.size:=by rw [hzc];omega
     have e4:t<(flatK encOw 10 d'.toArray).size:=by rw [size_flatK];simp [hl'];omega
     rw [List.getElem?_take_of_lt htl,Array.getElem?_toList,Array.getElem?_toList]
     unfold putCells
     rw [Array.getElem?_mapIdx,Array.getElem?_eq_getElem htc,Option.map_some,if_pos ⟨by omega,by omega⟩,Nat.sub_zero,getElem!_pos _ t e4,Array.getElem?_eq_getElem e4]
     rfl
    ·rw [List.getElem?_eq_none (by rw [List.length_take];omega),List.getElem?_eq_none (by rw [Array.length_toList,size_flatK];simp [hl'];omega)]
   ·intro j cs x hcs hx
    rw [List.getElem?_map] at hcs hx
    obtain⟨p,hp1,rfl⟩:=Option.map_eq_some_iff.1 hcs
    rw [hp1] at hx
    obtain rfl:p.2=x:=by simpa using hx
    exact hR p (hp.mem_iff.1 (List.mem_of_getElem? hp1))
def RiseB (l:List GObject):Prop:=l.Pairwise fun x y=>¬ahead y x
theorem objSort_any (v:Value) (l:List GObject) (B:Nat) (E:Dom) (w0 w:World) (h:OwnAt (ObjX E w0) 10 w B 30 v l) (hB:B≤w.heap.size) (hl:l.length≤1073741824) :
  Calls Tryz.prog 63 #[v,.func (.func 64) #[] #[]] w fun e w'=>e=.returned (.tuple #[])∧∃ l',l'.Perm l∧RiseB l'∧OwnAt (ObjX E w0) 10 w' B 30 v l'∧RowKit.Below B w w'∧Only (fun b=>v.ownBlock=some b) w w':=by
 rcases h.form with ⟨rfl,rfl⟩ | ⟨g,c,rfl,_,hg,_,_⟩
 ·refine (AnyF.slices_SortFunc_none Tryz.objSort none 0 _ w).mono fun e w' ⟨h1,h2⟩=>?_
  subst h2
  exact⟨h1,[],List.Perm.refl _,List.Pairwise.nil,OwnAt.nil _,Below.refl _ _,Only.refl _ _⟩
 ·obtain⟨_,_,d,hd1,hH,ho⟩:=ow_sorted h
  have eg:∀ args w,(callFunc 64 args).run Tryz.prog w=.ok (.enter 64 args) w:=enters_of Tryz.func64 (by kernel_rfl) rfl
  have hs:=AnyQ.slices_SortFunc Tryz.objSort 10 Tryz.isAgg30 Tryz.sizeOf30 encOw encOw_len encOw_one cfOw swoOw 64 #[] g 0 c d.toArray w eg (ownedLays g 0 _ w) hH hg (by simp [hd1];omega)
  have hsz:d.toArray.size=l.length:=by simp [hd1]
  rw [hsz] at hs
  refine hs.mono fun e w' ⟨h1,d',n,os,hp,hso,h2⟩=>?_
  have hpp:d'.toList.Perm d:=by
   obtain⟨p1,_,p3⟩:=hp
   have e1:d'.size=l.length:=by rw [p1,hsz]
   have e2:d'.extract 0 l.length=d':=by rw [←e1];exact Array.extract_size
   have e3:d.toArray.extract 0 l.length=d.toArray:=by rw [←hsz];exact Array.extract_size
   rw [e2,e3] at p3
   exact p3
  obtain⟨o0,o1,o2,o3,o4⟩:=ho n d'.toList hpp
  rw [Array.toArray_toList] at o1 o2 o3 o4
  have hgr:RowKit.Below (putRowK encOw 10 (Go.Sort.ahead w n) g 0 d').heap.size (putRowK encOw 10 (Go.Sort.ahead w n) g 0 d') w':=by
   rw [h2]
   exact Lib.below_grow _ _ (Nat.le_refl _) 0 os
  have hrise:RiseB (d'.toList.map (·.2)):=by
   unfold RiseB
   rw [List.pairwise_map]
   exact (sorted_pairs (fun p q:OC=>cfOb p.2 q.2) (fun p q=>ltOw p q) (by rw [hp.1,hsz]) hso).imp fun h h9=>h ((cfOb_lt _ _).2 h9)
  refine⟨h1,_,o0,hrise,o1.stay (fun _ _ _ _ h=>h) fun b hb=>hgr.block b (o1.at hb).2.1,o2.trans (hgr.mono (by rw [o4];exact hB)),?_⟩
  have x1:Only (fun b=>(Value.slice (some ⟨g,0,none⟩) l.length c).ownBlock=some b) w (putRowK encOw 10 (Go.Sort.ahead w n) g 0 d'):=⟨o2.os,o2.tape,o2.output,by rw [o4];exact Nat.le_refl _,fun k _ hk=>o3 k fun e=>hk (by rw [e];rfl)⟩
  exact x1.then hgr
end Sto
end Go.Proofs.YtnnceaapodgfbaaGreatDoor
namespace Go.Proofs.YtnnceaapodgfbaaGreatDoor
namespace Sto
open Go.RowKit
structure Gathered (L:List GEvent) (kind space:ByteArray) (left:GKey→Bool) (l:List GObject):Prop where
 mem:∀ o,o∈l↔fitsK kind space o.okey∧cur L o.okey=some o∧left o.okey=false
 one:(l.map (·.okey)).Nodup
section
variable {L : List GEvent} {kind space : ByteArray} {left : GKey → Bool} {l : List GObject}
theorem Gathered.start (h:∀ k o,cur L k=some o→left k=true):Gathered L kind space left []:=
 ⟨fun o=>⟨fun h9=>(by cases h9),fun ⟨_,h2,h3⟩=>by rw [h _ _ h2] at h3;cases h3⟩,List.nodup_nil⟩
theorem Gathered.pass (h:Gathered L kind space left l) {k:GKey} (hk:¬fitsK kind space k∨cur L k=none):Gathered L kind space (fun z=>left z && !decide (z=k)) l:=by
 refine⟨fun o=>(h.mem o).trans ⟨fun ⟨h1,h2,h3⟩=>⟨h1,h2,by show (left o.okey && _)=false;rw [h3];rfl⟩,fun ⟨h1,h2,h3⟩=>⟨h1,h2,?_⟩⟩,h.one⟩
 have h4:(left o.okey && !decide (o.okey=k))=false:=h3
 by_cases e:o.okey=k
 ·rcases hk with hk | hk
  ·rw [e] at h1;exact absurd h1 hk
  ·rw [e,hk] at h2;cases h2
 ·rw [decide_eq_false e] at h4;simpa using h4
theorem Gathered.more (h:Gathered L kind space left l) {k:GKey} {o:GObject} (hf:fitsK kind space k) (hc:cur L k=some o) (hl:left k=true):Gathered L kind space (fun z=>left z && !decide (z=k)) (l++[o]):=by
 have hk:o.okey=k:=cur_key hc
 have hno:∀ x∈l,x.okey≠k:=fun x hx e=>by
  have h1:=((h.mem x).1 hx).2.2
  rw [e,hl] at h1;cases h1
 refine⟨fun x=>?_,?_⟩
 ·rw [List.mem_append,List.mem_singleton]
  constructor
  ·rintro (hx | rfl)
   ·obtain⟨h1,h2,h3⟩:=(h.mem x).1 hx
    exact⟨h1,h2,by show (left x.okey && _)=false;rw [h3];rfl⟩
   ·exact⟨hk▸hf,by rw [hk];exact hc,by show (left x.okey && !decide (x.okey=k))=false;rw [decide_eq_true hk];simp⟩
  ·rintro ⟨h1,h2,h3⟩
   have h4:(left x.okey && !decide (x.okey=k))=false:=h3
   by_cases e:x.okey=k
   ·right
    rw [e,hc] at h2
    exact (Option.some.inj h2).symm
   ·left
    rw [decide_eq_false e] at h4
    exact (h.mem x).2 ⟨h1,h2,by simpa using h4⟩
 ·rw [List.map_append,List.nodup_append]
  refine⟨h.one,List.nodup_cons.2 ⟨fun h=>(by cases h),List.nodup_nil⟩,fun a ha b hb=>?_⟩
  obtain⟨x,hx,rfl⟩:=List.mem_map.1 ha
  obtain rfl:=List.mem_singleton.1 hb
  show x.okey≠o.okey
  rw [hk]
  exact hno x hx
theorem lessS_total {a b:ByteArray} (h1:¬lessS a b) (h2:¬lessS b a):a=b:=by
 unfold lessS at h1 h2
 have s1:=cb_swap a.data.toList b.data.toList
 have h9:=cb_eq _ _ (by omega:Lib.compareBytes a.data.toList b.data.toList=0)
 rw [←mkB_of a,←mkB_of b,h9]
theorem ahead_of {a b:GObject} (hk:a.okey.kind=b.okey.kind) (hne:a.okey≠b.okey) (h:¬ahead b a):ahead a b:=by
 unfold ahead at h ⊢
 by_cases h1:lessS a.okey.space b.okey.space
 ·exact .inl h1
 ·have h2:a.okey.space=b.okey.space:=lessS_total h1 fun h9=>h (.inl h9)
  refine .inr ⟨h2,Classical.byContradiction fun h3=>hne ?_⟩
  have h4:a.okey.name=b.okey.name:=lessS_total h3 fun h9=>h (.inr ⟨h2.symm,h9⟩)
  have e:∀ x y:GKey,x.kind=y.kind→x.space=y.space→x.name=y.name→x=y:=fun x y p q r=>by
   obtain⟨a1,a2,a3⟩:=x
   obtain⟨b1,b2,b3⟩:=y
   cases p;cases q;cases r;rfl
  exact e _ _ hk h2 h4
theorem Gathered.done (h:Gathered L kind space (fun _=>false) l) {l':List GObject} (hp:l'.Perm l) (hr:l'.Pairwise fun x y=>¬ahead y x):IsList L kind space l':=by
 have hm:∀ o,o∈l'↔fitsK kind space o.okey∧cur L o.okey=some o:=fun o=>(hp.mem_iff).trans ((h.mem o).trans ⟨fun ⟨a,b,_⟩=>⟨a,b⟩,fun ⟨a,b⟩=>⟨a,b,rfl⟩⟩)
 have hn:(l'.map (·.okey)).Nodup:=((hp.map (·.okey)).nodup_iff).2 h.one
 refine⟨?_,hm⟩
 have hn2:l'.Pairwise fun x y=>x.okey≠y.okey:=List.pairwise_map.1 hn
 refine List.Pairwise.imp_of_mem (fun {a b} ha hb h9=>?_) (hr.and hn2)
 exact ahead_of (((hm a).1 ha).1.1.trans ((hm b).1 hb).1.1.symm) h9.2 h9.1
end
end Sto
end Go.Proofs.YtnnceaapodgfbaaGreatDoor
