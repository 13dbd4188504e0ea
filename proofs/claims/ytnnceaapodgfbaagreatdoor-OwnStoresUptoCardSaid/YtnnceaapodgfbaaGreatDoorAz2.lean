/- Texts of ours joined. -/
import Derived.Deep.LoopGhost
import Derived.Deep.DeepCutAuto
import Derived.WalkSpells
import Derived.Test.YtnnceaapodgfbaaGreatDoorShelf
import Derived.Maps.OwnSet
import Derived.Maps.RangeWalk
import Derived.Below
import Derived.Lib.Join
import Derived.Lib.ItoaNum
import Derived.Lib.Atoi
import Derived.IntWalk
import Derived.Deep.QuietTactic
import Derived.BigQuiet
import Derived.OwnWalk
import Derived.Test.YtnnceaapodgfbaaGreatDoorAz1
set_option linter.unusedVariables false
set_option linter.unusedSimpArgs false
namespace Go.Proofs.YtnnceaapodgfbaaGreatDoor
open Go.RowKit
def errF {α:Type} (f:α→Int) (l:List α):Int:=match l.find? (fun x=>f x != 0) with
 | none=>0
 | some x=>f x
theorem errF_none {α:Type} {f:α→Int} {l:List α} (h:∀ x∈l,f x=0):errF f l=0:=by
 unfold errF
 rw [List.find?_eq_none.2 fun x hx=>by rw [h x hx];simp]
theorem errF_at {α:Type} {f:α→Int} {l:List α} {i:Nat} {x:α} (hx:l[i]? = some x) (h:∀ y∈l.take i,f y=0) (hf:f x≠0):errF f l=f x:=by
 have hi:=(List.getElem?_eq_some_iff.1 hx).1
 have he:=(List.getElem?_eq_some_iff.1 hx).2
 have h1:l=l.take i++x :: l.drop (i+1):=by rw [←he,←List.drop_eq_getElem_cons hi,List.take_append_drop]
 have h2:l.find? (fun x=>f x != 0)=some x:=by
  rw [h1,List.find?_append,List.find?_eq_none.2 (fun y hy=>by rw [h y hy];simp)]
  simp [hf]
 unfold errF
 rw [h2]
def keyE (s:ByteArray):Int:=NameP.checkKey s.data.toList
def valE (s:ByteArray):Int:=NameP.checkVal s.data.toList
def listsK (k:Int):Bool:=k == 1 || k == 2
def argR (r:GReq):Bool:=decide (r.kind<1) || (decide (4<r.kind) || (listsK r.kind != decide (0<r.vals.length)))
def reqE (r:GReq):Int:=
 if keyE r.key≠0 then keyE r.key else if argR r=true then 1 else if 8<r.vals.length then 2 else errF valE r.vals
def reqsE (l:List GReq):Int:=if 8<l.length then 2 else errF reqE l
def labZ (l:List GLabel):List (Option ByteArray × GLabel):=(none :: l.map (some ·.key)).zip l
def prevE (p:Option ByteArray) (key:ByteArray):Int:=match p with
 | none=>0
 | some k=>if lessB k key=true then 0 else 1
def labE (x:Option ByteArray × GLabel):Int:=
 if keyE x.2.key≠0 then keyE x.2.key else if valE x.2.val≠0 then valE x.2.val else prevE x.1 x.2.key
def labelsE (l:List GLabel):Int:=if 10<l.length then 2 else errF labE (labZ l)
def holdsB (labels:List GLabel) (r:GReq):Bool:=match labels.find? fun x=>decide (x.key=r.key) with
 | some x=>if r.kind=1 then Lib.containsS r.vals x.val else if r.kind=2 then !Lib.containsS r.vals x.val else decide (r.kind=3)
 | none=>if r.kind=1 then false else if r.kind=2 then true else decide (r.kind≠3)
def matchE (l:List GReq) (labels:List GLabel):Int:=if reqsE l=0 then labelsE labels else reqsE l
def matchB (l:List GReq) (labels:List GLabel):Bool:=decide (matchE l labels=0) && l.all (holdsB labels)
end Go.Proofs.YtnnceaapodgfbaaGreatDoor
namespace Go.Proofs.YtnnceaapodgfbaaGreatDoor
open Go.RowKit
def okReq (r:GReq):Prop:=r.key.size≤1048576∧r.vals.length≤1048576∧∀ x∈r.vals,x.size≤1048576
def okLab (x:GLabel):Prop:=x.key.size≤1048576∧x.val.size≤1048576
theorem ret_int {a b:Int} (h:a=b):Ending.returned (.int .i64 a)=.returned (.int .i64 b):=by rw [h]
set_option maxRecDepth 100000 in
set_option maxHeartbeats 3200000 in
theorem check1_any (r:GReq) (v2:Value) (m:Int) (w:World) (h:ReqR w [.string r.key,.int .i64 r.kind,v2] r) (hok:okReq r) (hm:MaxOK m w) :
  Calls Tryz.prog 140 #[.agg #[.string r.key,.int .i64 r.kind,v2]] w fun e w'=>e=.returned (.int .i64 (reqE r))∧Below w.heap.size w w':=by
 obtain⟨v2',h1,_,hst⟩:=h
 obtain rfl:v2=v2':=by injection h1 with _ h1;injection h1 with _ h1;injection h1
 clear h1
 obtain⟨ao,c,rfl,_,_⟩:=hst.row.len
 obtain⟨ok1,ok2,ok3⟩:=hok
 obtain⟨R,HR⟩:∃ R,Hid (reqE r=R):=⟨_,Lib.hid rfl⟩
 rw [HR.out]
 have hE:reqE r=if keyE r.key≠0 then keyE r.key else if argR r=true then 1 else if 8<r.vals.length then 2 else errF valE r.vals:=rfl
 rw [HR.out] at hE
 have HE:=Lib.hid hE
 have Hst:=Lib.hid hst
 have Hm:=Lib.hid hm
 have Hok3:=Lib.hid ok3
 obtain⟨nv,Hnv⟩:∃ nv,Hid (r.vals.length=nv):=⟨_,Lib.hid rfl⟩
 rw [Hnv.out] at ok2 ⊢
 obtain⟨kd,Hkd⟩:∃ kd,Hid (r.kind=kd):=⟨_,Lib.hid rfl⟩
 rw [Hkd.out]
 obtain⟨ky,Hky⟩:∃ ky,Hid (r.key=ky):=⟨_,Lib.hid rfl⟩
 rw [Hky.out] at ok1 ⊢
 clear hE hst hm ok3
 obtain⟨w1,hw1⟩:∃ w1,w1=w.alloc (.cells #[.string ky,.int .i64 kd,.slice ao nv c] 97):=⟨_,rfl⟩
 obtain⟨g,hg⟩:∃ g,g=w.heap.size:=⟨_,rfl⟩
 have b1:w1.heap[g]? = some (.cells #[.string ky,.int .i64 kd,.slice ao nv c] 97 (0,0)):=by rw [hw1,hg];exact heap_alloc_new w _
 have hb1:Below w.heap.size w w1:=by rw [hw1];exact (Below.refl _ _).alloc (Nat.le_refl _) _
 have Hb1:=Lib.hid hb1
 have B1:=Lib.hid b1
 have cc:=fun i=>cell_block b1 i
 clear b1 hb1
 obtain⟨ls,Hls⟩:∃ ls,Hid (listsK kd=ls):=⟨_,Lib.hid rfl⟩
 have way:(kd=1∧ls=true)∨((kd == 1)=false∧kd=2∧ls=true)∨((kd == 1)=false∧(kd == 2)=false∧ls=false):=by
  have:=Hls.out
  unfold listsK at this
  by_cases k1:kd=1
  ·subst k1;exact .inl ⟨rfl,this.symm⟩
  ·by_cases k2:kd=2
   ·subst k2;exact .inr (.inl ⟨rfl,rfl,this.symm⟩)
   ·have e1:(kd == 1)=false:=by rw [beq_eq_false_iff_ne];exact k1
    have e2:(kd == 2)=false:=by rw [beq_eq_false_iff_ne];exact k2
    rw [e1,e2] at this
    exact .inr (.inr ⟨e1,e2,this.symm⟩)
 go_enter Tryz.func140,Tryz.ntmps140
 go_upto_region 1 with fail
 rw [←hw1]
 try rw [←hg]
 clear hw1 hg
 go_cut [3] (fun u3 wx=>u3=.bool ls∧w1=wx)
 case first=>
  rcases way with ⟨rfl,rfl⟩ | ⟨q1,rfl,rfl⟩ | ⟨q1,q2,rfl⟩
  all_goals
   go_wp2_with fail
   go_meet
   exact⟨rfl,rfl⟩
 case rest=>
 obtain⟨rfl,rfl⟩:=hcut
 clear way
 go_wp2_with fail
 refine (checkKey_any ky m w1 (by omega) (Hm.out.below Hb1.out)).mono ?_
 rintro E w2 ⟨rfl,hb2⟩
 have Hb2:=Lib.hid (Hb1.out.trans (hb2.mono Hb1.out.size))
 have b2:=below_block hb2 B1.out
 have B2:=Lib.hid b2
 have hkk:keyE r.key=NameP.checkKey ky.data.toList:=by rw [Hky.out];rfl
 obtain⟨kE,HkE⟩:∃ kE,Hid (NameP.checkKey ky.data.toList=kE):=⟨_,Lib.hid rfl⟩
 rw [HkE.out] at hkk ⊢
 have Hkk:=Lib.hid hkk
 clear cc hb2 hkk
 have cc:=fun i=>cell_block b2 i
 clear b2
 by_cases hk0:kE=0
 ·subst hk0
  have hR2:R=if argR r=true then 1 else if 8<nv then 2 else errF valE r.vals:=by rw [HE.out,Hkk.out,if_neg (by simp),Hnv.out]
  have HR2:=Lib.hid hR2
  clear hR2
  obtain⟨ar,Har⟩:∃ ar,Hid (argR r=ar):=⟨_,Lib.hid rfl⟩
  have way:(kd<1∧ar=true)∨(¬kd<1∧4<kd∧ar=true)∨(¬kd<1∧¬4<kd∧(0:Int)<(nv:Int)∧ls=true∧ar=false)∨(¬kd<1∧¬4<kd∧(0:Int)<(nv:Int)∧ls=false∧ar=true)∨(¬kd<1∧¬4<kd∧¬(0:Int)<(nv:Int)∧ls=true∧ar=true)∨(¬kd<1∧¬4<kd∧¬(0:Int)<(nv:Int)∧ls=false∧ar=false):=by
   have e:=Har.out
   unfold argR at e
   rw [Hkd.out,Hnv.out,Hls.out] at e
   by_cases k1:kd<1
   ·rw [decide_eq_true k1,Bool.true_or] at e;exact .inl ⟨k1,e.symm⟩
   ·rw [decide_eq_false k1,Bool.false_or] at e
    by_cases k2:4<kd
    ·rw [decide_eq_true k2,Bool.true_or] at e;exact .inr (.inl ⟨k1,k2,e.symm⟩)
    ·rw [decide_eq_false k2,Bool.false_or] at e
     by_cases k3:0<nv
     ·rw [decide_eq_true k3] at e
      cases ls with
      | true=>exact .inr (.inr (.inl ⟨k1,k2,by omega,rfl,e.symm⟩))
      | false=>exact .inr (.inr (.inr (.inl ⟨k1,k2,by omega,rfl,e.symm⟩)))
     ·rw [decide_eq_false k3] at e
      cases ls with
      | true=>exact .inr (.inr (.inr (.inr (.inl ⟨k1,k2,by omega,rfl,e.symm⟩))))
      | false=>exact .inr (.inr (.inr (.inr (.inr ⟨k1,k2,by omega,rfl,e.symm⟩))))
  go_upto_region 5 with fail
  go_cut [22] (fun u22 wx=>u22=.bool ar∧w2=wx)
  case first=>
   clear Har HR2 Hls
   rcases way with ⟨k1,rfl⟩ | ⟨k1,k2,rfl⟩ | ⟨k1,k2,k3,rfl,rfl⟩ | ⟨k1,k2,k3,rfl,rfl⟩ | ⟨k1,k2,k3,rfl,rfl⟩ | ⟨k1,k2,k3,rfl,rfl⟩
   all_goals
    go_wp2_with fail
    go_meet
    exact⟨by first | rfl | (simp [k1,k2];omega),rfl⟩
  case rest=>
  obtain⟨rfl,rfl⟩:=hcut
  clear way
  rw [Har.out] at HR2
  cases ar with
  | true=>
   go_wp2_with fail
   go_ret
   exact⟨ret_int (by rw [HR2.out];rfl),Hb2.out⟩
  | false=>
   have HR3:Hid (R=if 8<nv then 2 else errF valE r.vals):=Lib.hid (by rw [HR2.out];rfl)
   clear HR2
   by_cases h8:8<nv
   ·have q0:(8:Int)<(nv:Int):=by omega
    have HR4:Hid (2=R):=Lib.hid (by rw [HR3.out,if_pos h8])
    clear HR3 h8
    go_wp2_with fail
    go_ret
    exact⟨ret_int HR4.out,Hb2.out⟩
   ·have q0:¬(8:Int)<(nv:Int):=by omega
    have HR4:Hid (R=errF valE r.vals):=Lib.hid (by rw [HR3.out,if_neg h8])
    clear HR3 h8
    go_wp2_with fail
    go_loopg [47] nv (fun k u47 wr=>∃ i:Nat,i+k=nv∧u47=.int .i64 (i:Int)∧Hid (∀ x∈r.vals.take i,valE x=0)∧w2=wr)
    case atStart=>exact⟨0,by omega,rfl,Lib.hid (by simp),rfl⟩
    case round=>
     obtain⟨i,hig,rfl,Hall,rfl⟩:=hrel
     cases gk with
     | zero=>
      obtain rfl:i=nv:=by omega
      have HR5:Hid (0=R):=Lib.hid (by
       rw [HR4.out,errF_none]
       intro x hx
       refine Hall.out x ?_
       rw [List.take_of_length_le (by rw [Hnv.out];exact Nat.le_refl _)];exact hx)
      go_wp2_with fail
      go_ret
      exact⟨ret_int HR5.out,Hb2.out⟩
     | succ k=>
      have hil:i<r.vals.length:=by rw [Hnv.out];omega
      obtain⟨x,hxi⟩:∃ x,r.vals[i]? = some x:=⟨r.vals[i]'(by omega),List.getElem?_eq_getElem _⟩
      have hst2:=Hst.out.below Hb2.out
      obtain⟨b,o,c',hv,_,_,_,hcell⟩:=hst2.form (by omega)
      injection hv with u1 u2 u3
      subst u1
      clear u2 u3
      have e0:w2.cell? ⟨b,o+i,none⟩=some (.string x):=hcell i x hxi
      have q1:(0:Int)≤(i:Int):=by omega
      have q2:(i:Int)<(nv:Int):=by omega
      have hxs:=Hok3.out x (List.mem_of_getElem? hxi)
      have Hxi:=Lib.hid hxi
      clear hcell hst2 hxi
      obtain⟨vE,HvE⟩:∃ vE,Hid (NameP.checkVal x.data.toList=vE):=⟨_,Lib.hid rfl⟩
      go_wp2_with fail
      refine (checkVal_any x _ (by omega)).mono ?_
      rintro E w' ⟨rfl,rfl⟩
      rw [HvE.out]
      by_cases hv0:vE=0
      ·subst hv0
       have Hall2:Hid (∀ y∈r.vals.take (i+1),valE y=0):=Lib.hid fun y hy=>by
        rw [List.take_add_one,Hxi.out] at hy
        rcases List.mem_append.1 hy with h | h
        ·exact Hall.out y h
        ·simp at h;subst h;exact HvE.out
       go_wp2_with fail
       go_roundg k
       case measure=>omega
       case rel=>exact⟨i+1,by omega,by go_num,Hall2,rfl⟩
      ·have q3:(vE == 0)=false:=by rw [beq_eq_false_iff_ne];exact hv0
       have q4:(vE != 0)=true:=by rw [bne_iff_ne];exact hv0
       have HR5:Hid (vE=R):=Lib.hid (by rw [HR4.out,errF_at Hxi.out Hall.out (by unfold valE;rw [HvE.out];exact hv0)];exact HvE.out.symm)
       clear hv0
       go_wp2_with fail
       go_ret
       exact⟨ret_int HR5.out,Hb2.out⟩
 ·have q0:(kE == 0)=false:=by rw [beq_eq_false_iff_ne];exact hk0
  have q1:(kE != 0)=true:=by rw [bne_iff_ne];exact hk0
  have HR2:Hid (kE=R):=Lib.hid (by rw [HE.out,Hkk.out,if_pos hk0])
  clear hk0
  go_wp2_with fail
  go_ret
  exact⟨ret_int HR2.out,Hb2.out⟩
end Go.Proofs.YtnnceaapodgfbaaGreatDoor
namespace Go.Proofs.YtnnceaapodgfbaaGreatDoor
open Go.RowKit
theorem zero_snoc {α:Type} {l:List α} {f:α→Int} {i:Nat} {x:α} (h:∀ y∈l.take i,f y=0) (hx:l[i]? = some x) (hf:f x=0):∀ y∈l.take (i+1),f y=0:=fun y hy=>by
 rw [List.take_add_one,hx] at hy
 rcases List.mem_append.1 hy with h1 | h1
 ·exact h y h1
 ·simp at h1;subst h1;exact hf
set_option maxRecDepth 100000 in
set_option maxHeartbeats 3200000 in
theorem checks_any (v:Value) (l:List GReq) (m:Int) (w:World) (h:RowAt ReqR 3 w v l) (hl:l.length≤1048576) (hok:∀ r∈l,okReq r) (hm:MaxOK m w) :
  Calls Tryz.prog 109 #[v] w fun e w'=>e=.returned (.int .i64 (reqsE l))∧Below w.heap.size w w':=by
 obtain⟨a1,c1,rfl,_,_⟩:=h.len
 obtain⟨R,HR⟩:∃ R,Hid (reqsE l=R):=⟨_,Lib.hid rfl⟩
 rw [HR.out]
 have hE:R=if 8<l.length then 2 else errF reqE l:=by rw [←HR.out];rfl
 have HE:=Lib.hid hE
 have H:=Lib.hid h
 have Hm:=Lib.hid hm
 have Hok:=Lib.hid hok
 clear hE h hm hok
 by_cases h8:8<l.length
 ·have q0:(8:Int)<(l.length:Int):=by omega
  have HR4:Hid (2=R):=Lib.hid (by rw [HE.out,if_pos h8])
  clear h8
  go_enter Tryz.func109,Tryz.ntmps109
  go_wp2_with fail
  go_ret
  exact⟨ret_int HR4.out,Below.refl _ _⟩
 ·have q0:¬(8:Int)<(l.length:Int):=by omega
  have HR4:Hid (R=errF reqE l):=Lib.hid (by rw [HE.out,if_neg h8])
  clear h8
  go_enter Tryz.func109,Tryz.ntmps109
  go_wp2_with fail
  go_loopg [11] l.length (fun k u11 wr=>∃ i:Nat,i+k=l.length∧u11=.int .i64 (i:Int)∧Hid (∀ x∈l.take i,reqE x=0)∧Hid (Below w.heap.size w wr))
  case atStart=>exact⟨0,by omega,rfl,Lib.hid (by simp),Lib.hid (Below.refl _ _)⟩
  case round=>
   obtain⟨i,hig,rfl,Hall,Hbel⟩:=hrel
   have hsr:=Hbel.out.size
   cases gk with
   | zero=>
    obtain rfl:i=l.length:=by omega
    have HR5:Hid (0=R):=Lib.hid (by
     rw [HR4.out,errF_none]
     intro x hx
     refine Hall.out x ?_
     rw [List.take_of_length_le (Nat.le_refl _)];exact hx)
    go_wp2_with fail
    go_ret
    exact⟨ret_int HR5.out,Hbel.out⟩
   | succ k=>
    have hil:i<l.length:=by omega
    obtain⟨x,hxi⟩:∃ x,l[i]? = some x:=⟨l[i]'(by omega),List.getElem?_eq_getElem _⟩
    obtain⟨b,o,c',hv,_,_,hbs,hcell⟩:=H.out.form (by omega) (by omega)
    injection hv with u1 u2 u3
    subst u1
    clear u2 u3
    obtain⟨ds,_,hcc,hR⟩:=hcell i x hxi
    have hR2:=stays_req _ _ _ _ (keeps_below Hbel.out) hR
    obtain⟨y2,rfl,_,_⟩:=hR
    have e0:wr.cell? ⟨b,o+i*3,none⟩=some (.string x.key):=(Hbel.out.cell (p:=⟨b,_,none⟩) hbs).trans (by simpa using hcc 0 _ rfl)
    have e1:wr.cell? ⟨b,o+i*3+1,none⟩=some (.int .i64 x.kind):=(Hbel.out.cell (p:=⟨b,_,none⟩) hbs).trans (hcc 1 _ rfl)
    have e2:wr.cell? ⟨b,o+i*3+2,none⟩=some y2:=(Hbel.out.cell (p:=⟨b,_,none⟩) hbs).trans (hcc 2 _ rfl)
    have q1:(0:Int)≤(i:Int):=by omega
    have q2:(i:Int)<(l.length:Int):=by omega
    have HRx:=Lib.hid hR2
    have Hxi:=Lib.hid hxi
    obtain⟨ao,co,rfl,_,_⟩:∃ ao co,y2=.slice ao x.vals.length co∧True∧True:=by
     obtain⟨v2,h1,_,h2⟩:=hR2
     obtain⟨ao,co,h3,_,_⟩:=h2.row.len
     injection h1 with _ h1;injection h1 with _ h1;injection h1 with h1 _
     exact⟨ao,co,h1.trans h3,trivial,trivial⟩
    clear hcc hcell hxi hR2
    go_upto_region 6 with fail
    obtain⟨W,hW⟩:∃ W,W=wr.alloc (.cells #[.string x.key,.int .i64 x.kind,.slice ao x.vals.length co] 97):=⟨_,rfl⟩
    obtain⟨gb,hgb⟩:∃ gb,gb=wr.heap.size:=⟨_,rfl⟩
    rw [←hW,←hgb]
    have c0:W.heap[gb]? = some (.cells #[.string x.key,.int .i64 x.kind,.slice ao x.vals.length co] 97 (0,0)):=by rw [hW,hgb];exact heap_alloc_new wr _
    have hb5:Below wr.heap.size wr W:=by rw [hW];exact (Below.refl _ _).alloc (Nat.le_refl _) _
    have HW:=Lib.hid (Hbel.out.trans (hb5.mono hsr))
    have HRW:=Lib.hid (stays_req _ _ _ _ (keeps_below hb5) HRx.out)
    have cc:=fun i=>cell_block c0 i
    clear hW hgb hb5 c0 e0 e1 e2
    go_wp2_with fail
    refine (check1_any x _ m W HRW.out (Hok.out x (List.mem_of_getElem? Hxi.out)) (Hm.out.below HW.out)).mono ?_
    rintro E w3 ⟨rfl,hb3⟩
    have Hb3:=Lib.hid (HW.out.trans (hb3.mono HW.out.size))
    obtain⟨rE,HrE⟩:∃ rE,Hid (reqE x=rE):=⟨_,Lib.hid rfl⟩
    rw [HrE.out]
    clear hb3 cc
    by_cases hr0:rE=0
    ·subst hr0
     have Hall2:=Lib.hid (zero_snoc Hall.out Hxi.out HrE.out)
     go_wp2_with fail
     go_roundg k
     case measure=>omega
     case rel=>exact⟨i+1,by omega,by go_num,Hall2,Hb3⟩
    ·have q3:(rE == 0)=false:=by rw [beq_eq_false_iff_ne];exact hr0
     have q4:(rE != 0)=true:=by rw [bne_iff_ne];exact hr0
     have HR5:Hid (rE=R):=Lib.hid (by rw [HR4.out,errF_at Hxi.out Hall.out (by rw [HrE.out];exact hr0)];exact HrE.out.symm)
     clear hr0
     go_wp2_with fail
     go_ret
     exact⟨ret_int HR5.out,Hb3.out⟩
end Go.Proofs.YtnnceaapodgfbaaGreatDoor
namespace Go.Proofs.YtnnceaapodgfbaaGreatDoor
open Go.RowKit
theorem labZ_length (l:List GLabel):(labZ l).length=l.length:=by unfold labZ;simp
theorem labZ_get0 {l:List GLabel} {x:GLabel} (h:l[0]? = some x):(labZ l)[0]? = some (none,x):=by
 unfold labZ
 rw [List.getElem?_zip_eq_some]
 exact⟨rfl,h⟩
theorem labZ_get {l:List GLabel} {i:Nat} {x y:GLabel} (h:l[i+1]? = some x) (hy:l[i]? = some y):(labZ l)[i+1]? = some (some y.key,x):=by
 unfold labZ
 rw [List.getElem?_zip_eq_some]
 exact⟨by simp [hy],h⟩
theorem below_drew (B:Nat) (w:World):Below B w w.drew:=⟨rfl,rfl,rfl,Nat.le_refl _,fun _ _=>rfl⟩
set_option maxRecDepth 100000 in
set_option maxHeartbeats 3200000 in
theorem labels_any (v:Value) (l:List GLabel) (m:Int) (w:World) (h:RowAt LabelR 2 w v l) (hl:l.length≤1048576) (hok:∀ r∈l,okLab r) (hm:MaxOK m w) :
  Calls Tryz.prog 54 #[v] w fun e w'=>e=.returned (.int .i64 (labelsE l))∧Below w.heap.size w w':=by
 obtain⟨a1,c1,rfl,_,_⟩:=h.len
 obtain⟨R,HR⟩:∃ R,Hid (labelsE l=R):=⟨_,Lib.hid rfl⟩
 rw [HR.out]
 have hE:R=if 10<l.length then 2 else errF labE (labZ l):=by rw [←HR.out];rfl
 have HE:=Lib.hid hE
 have H:=Lib.hid h
 have Hm:=Lib.hid hm
 have Hok:=Lib.hid hok
 clear hE h hm hok
 by_cases h8:10<l.length
 ·have q0:(10:Int)<(l.length:Int):=by omega
  have HR4:Hid (2=R):=Lib.hid (by rw [HE.out,if_pos h8])
  clear h8
  go_enter Tryz.func54,Tryz.ntmps54
  go_wp2_with fail
  go_ret
  exact⟨ret_int HR4.out,Below.refl _ _⟩
 ·have q0:¬(10:Int)<(l.length:Int):=by omega
  have HR4:Hid (R=errF labE (labZ l)):=Lib.hid (by rw [HE.out,if_neg h8])
  clear h8
  go_enter Tryz.func54,Tryz.ntmps54
  go_wp2_with fail
  go_loopg [12] l.length (fun k u12 wr=>∃ i:Nat,i+k=l.length∧u12=.int .i64 (i:Int)∧Hid (∀ x∈(labZ l).take i,labE x=0)∧Hid (Below w.heap.size w wr))
  case atStart=>exact⟨0,by omega,rfl,Lib.hid (by simp),Lib.hid (Below.refl _ _)⟩
  case round=>
   obtain⟨i,hig,rfl,Hall,Hbel⟩:=hrel
   have hsr:=Hbel.out.size
   cases gk with
   | zero=>
    obtain rfl:i=l.length:=by omega
    have HR5:Hid (0=R):=Lib.hid (by
     rw [HR4.out,errF_none]
     intro x hx
     refine Hall.out x ?_
     rw [List.take_of_length_le (by rw [labZ_length];exact Nat.le_refl _)];exact hx)
    go_wp2_with fail
    go_ret
    exact⟨ret_int HR5.out,Hbel.out⟩
   | succ k=>
    have hil:i<l.length:=by omega
    obtain⟨x,hxi⟩:∃ x,l[i]? = some x:=⟨l[i]'(by omega),List.getElem?_eq_getElem _⟩
    obtain⟨b,o,c',hv,_,_,hbs,hcell⟩:=H.out.form (by omega) (by omega)
    injection hv with u1 u2 u3
    subst u1
    clear u2 u3
    obtain⟨ds,_,hcc,hR⟩:=hcell i x hxi
    obtain rfl:ds = [.string x.key,.string x.val]:=hR
    have e0:wr.cell? ⟨b,o+i*2,none⟩=some (.string x.key):=(Hbel.out.cell (p:=⟨b,_,none⟩) hbs).trans (by simpa using hcc 0 _ rfl)
    have e1:wr.cell? ⟨b,o+i*2+1,none⟩=some (.string x.val):=(Hbel.out.cell (p:=⟨b,_,none⟩) hbs).trans (hcc 1 _ rfl)
    have q1:(0:Int)≤(i:Int):=by omega
    have q2:(i:Int)<(l.length:Int):=by omega
    have Hxi:=Lib.hid hxi
    -- the label ahead of it
    have hprev:∃ p,(labZ l)[i]? = some (p,x)∧((i=0∧p=none)∨∃ y:GLabel,0<i∧p=some y.key∧w.cell? ⟨b,o+(i - 1)*2,none⟩=some (.string y.key)):=by
     cases i with
     | zero=>exact⟨none,labZ_get0 hxi,.inl ⟨rfl,rfl⟩⟩
     | succ j=>
      obtain⟨y,hy⟩:∃ y,l[j]? = some y:=⟨l[j]'(by omega),List.getElem?_eq_getElem _⟩
      obtain⟨ds,_,hcc2,hR2⟩:=hcell j y hy
      obtain rfl:ds = [.string y.key,.string y.val]:=hR2
      exact⟨some y.key,labZ_get hxi hy,.inr ⟨y,by omega,rfl,by simpa using hcc2 0 _ rfl⟩⟩
    obtain⟨p,hzi,hp⟩:=hprev
    have Hzi:=Lib.hid hzi
    have Hp:=Lib.hid hp
    have Hlab:Hid (labE (p,x)=if keyE x.key≠0 then keyE x.key else if valE x.val≠0 then valE x.val else prevE p x.key):=Lib.hid rfl
    obtain⟨ok1,ok2⟩:=Hok.out x (List.mem_of_getElem? hxi)
    clear hcc hcell hxi hzi hp
    go_upto_region 6 with fail
    obtain⟨W,hW⟩:∃ W,W=wr.alloc (.cells #[.string x.key,.string x.val] 66):=⟨_,rfl⟩
    obtain⟨gb,hgb⟩:∃ gb,gb=wr.heap.size:=⟨_,rfl⟩
    rw [←hW,←hgb]
    have c0:W.heap[gb]? = some (.cells #[.string x.key,.string x.val] 66 (0,0)):=by rw [hW,hgb];exact heap_alloc_new wr _
    have hb5:Below wr.heap.size wr W:=by rw [hW];exact (Below.refl _ _).alloc (Nat.le_refl _) _
    have HW:=Lib.hid (Hbel.out.trans (hb5.mono hsr))
    have Hc0:=Lib.hid c0
    have cc:=fun i=>cell_block c0 i
    clear hW hgb hb5 c0 e0 e1
    go_wp2_with fail
    refine (checkKey_any x.key m W (by omega) (Hm.out.below HW.out)).mono ?_
    rintro E w3 ⟨rfl,hb3⟩
    have Hb3:=Lib.hid (HW.out.trans (hb3.mono HW.out.size))
    have c3:=below_block hb3 Hc0.out
    have Hc3:=Lib.hid c3
    clear hb3 cc
    have cc:=fun i=>cell_block c3 i
    clear c3
    obtain⟨kE,HkE⟩:∃ kE,Hid (NameP.checkKey x.key.data.toList=kE):=⟨_,Lib.hid rfl⟩
    rw [HkE.out]
    have hk1:keyE x.key=kE:=HkE.out
    have Hk1:=Lib.hid hk1
    clear hk1
    by_cases hr0:kE=0
    ·subst hr0
     go_wp2_with fail
     refine (checkVal_any x.val _ (by omega)).mono ?_
     rintro E w' ⟨rfl,rfl⟩
     obtain⟨vE,HvE⟩:∃ vE,Hid (NameP.checkVal x.val.data.toList=vE):=⟨_,Lib.hid rfl⟩
     rw [HvE.out]
     have hv1:valE x.val=vE:=HvE.out
     have Hv1:=Lib.hid hv1
     clear hv1
     by_cases hv0:vE=0
     ·subst hv0
      have hl2:labE (p,x)=prevE p x.key:=by rw [Hlab.out,if_neg (by rw [Hk1.out];simp),if_neg (by rw [Hv1.out];simp)]
      have Hl2:=Lib.hid hl2
      clear hl2
      go_upto_region 12 with fail
      rcases Hp.out with ⟨hi0,rfl⟩ | ⟨y,hi0,rfl,hy⟩
      ·subst hi0
       have hl3:labE (none,x)=0:=Hl2.out
       have Hall2:=Lib.hid (zero_snoc Hall.out Hzi.out hl3)
       clear hl3
       go_region
       go_wp2_with fail
       go_roundg k
       case measure=>omega
       case rel=>exact⟨1,by omega,by go_num,Hall2,Lib.hid (Hb3.out.trans (below_drew _ _))⟩
      ·have q5:(0:Int)≤(i:Int) - 1:=by omega
       have q6:(i:Int) - 1<(l.length:Int):=by omega
       have q7:(0:Int)<(i:Int):=by omega
       have f0:w3.cell? ⟨b,o+(i - 1)*2,none⟩=some (.string y.key):=(Hb3.out.cell (p:=⟨b,_,none⟩) hbs).trans hy
       clear hy
       cases hless:Op.bytesLess y.key.toList x.key.toList with
       | true=>
        have hl3:labE (some y.key,x)=0:=by rw [Hl2.out];show (if Op.bytesLess y.key.toList x.key.toList=true then (0:Int) else 1)=_;rw [hless];rfl
        have Hall2:=Lib.hid (zero_snoc Hall.out Hzi.out hl3)
        clear hl3
        go_region
        go_wp2_with fail
        go_roundg k
        case measure=>omega
        case rel=>exact⟨i+1,by omega,by go_num,Hall2,Lib.hid (Hb3.out.trans (below_drew _ _))⟩
       | false=>
        have hl3:labE (some y.key,x)=1:=by rw [Hl2.out];show (if Op.bytesLess y.key.toList x.key.toList=true then (0:Int) else 1)=_;rw [hless];rfl
        have HR5:Hid (1=R):=Lib.hid (by rw [HR4.out,errF_at Hzi.out Hall.out (by rw [hl3];decide)];exact hl3.symm)
        clear hl3
        go_region
        go_wp2_with fail
        go_ret
        exact⟨ret_int HR5.out,Hb3.out.trans (below_drew _ _)⟩
     ·have q3:(vE == 0)=false:=by rw [beq_eq_false_iff_ne];exact hv0
      have q4:(vE != 0)=true:=by rw [bne_iff_ne];exact hv0
      have hlab:labE (p,x)=vE:=by rw [Hlab.out,if_neg (by rw [Hk1.out];simp),if_pos (by rw [Hv1.out];exact hv0)];exact Hv1.out
      have HR5:Hid (vE=R):=Lib.hid (by rw [HR4.out,errF_at Hzi.out Hall.out (by rw [hlab];exact hv0)];exact hlab.symm)
      clear hv0 hlab
      go_wp2_with fail
      go_ret
      exact⟨ret_int HR5.out,Hb3.out⟩
    ·have q3:(kE == 0)=false:=by rw [beq_eq_false_iff_ne];exact hr0
     have q4:(kE != 0)=true:=by rw [bne_iff_ne];exact hr0
     have hlab:labE (p,x)=kE:=by rw [Hlab.out,if_pos (by rw [Hk1.out];exact hr0)];exact Hk1.out
     have HR5:Hid (kE=R):=Lib.hid (by rw [HR4.out,errF_at Hzi.out Hall.out (by rw [hlab];exact hr0)];exact hlab.symm)
     clear hr0 hlab
     go_wp2_with fail
     go_ret
     exact⟨ret_int HR5.out,Hb3.out⟩
end Go.Proofs.YtnnceaapodgfbaaGreatDoor
namespace Go.Proofs.YtnnceaapodgfbaaGreatDoor
open Go.RowKit
def FirstAt {α:Type} (l:List α) (p:α→Bool) (w:World) (e:Ending) (w':World):Prop:=
 ∃ n:Int,e=.returned (.int .i64 n)∧((n = -1∧l.find? p=none)∨∃ (i:Nat) (x:α),n=(i:Int)∧l[i]? = some x∧l.find? p=some x∧∀ y∈l.take i,p y=false)∧Below w.heap.size w w'
theorem find_at {α:Type} {l:List α} {p:α→Bool} {i:Nat} {x:α} (h:l[i]? = some x) (hp:p x=true) (hn:∀ y∈l.take i,p y=false):l.find? p=some x:=by
 have hi:=(List.getElem?_eq_some_iff.1 h).1
 have he:=(List.getElem?_eq_some_iff.1 h).2
 have h1:l=l.take i++x :: l.drop (i+1):=by rw [←he,←List.drop_eq_getElem_cons hi,List.take_append_drop]
 rw [h1,List.find?_append,List.find?_eq_none.2 (fun y hy=>by rw [hn y hy];simp)]
 simp [hp]
set_option maxRecDepth 100000 in
set_option maxHeartbeats 800000 in
theorem idxLabel_any {f:FuncId} {cap:Value} {Cap:World→Prop} {p:GLabel→Bool} {OK:GLabel→Prop} (enter:∀ (a:Array Value) (w:World),(callFunc f a).run Tryz.prog w=.ok (.enter f a) w)
  (keepC:∀ w w':World,Cap w→Below w.heap.size w w'→Cap w')
  (clo:∀ (x:GLabel) (w:World),LabelR w [.string x.key,.string x.val] x→OK x→Cap w→Calls Tryz.prog f #[.agg #[.string x.key,.string x.val],cap] w fun e w'=>e=.returned (.bool (p x))∧Below w.heap.size w w')
  (v:Value) (l:List GLabel) (w:World) (h:RowAt LabelR 2 w v l) (hl:l.length≤1073741824) (hok:∀ x∈l,OK x) (hc:Cap w):Calls Tryz.prog 201 #[v,.func (.func f) #[] #[cap]] w (FirstAt l p w):=by
 obtain⟨a1,c1,rfl,_,_⟩:=h.len
 have H:=Lib.hid h
 have Hc:=Lib.hid hc
 have HC:=Lib.hid clo
 have HK:=Lib.hid keepC
 have Hok:=Lib.hid hok
 have ep:=enter
 clear h hc clo keepC enter hok
 go_enter Tryz.func201,Tryz.ntmps201
 go_wp2_with fail
 go_loopg [8] l.length (fun g u8 wr=>∃ i:Nat,i+g=l.length∧u8=.int .i64 (i:Int)∧Hid (∀ x∈l.take i,p x=false)∧Hid (Cap wr)∧Below w.heap.size w wr)
 case atStart=>exact⟨0,by omega,rfl,Lib.hid (fun x hx=>by simp at hx),Hc,Below.refl _ _⟩
 case round=>
  obtain⟨i,hig,rfl,Hall,Hcr,hbel⟩:=hrel
  cases gk with
  | zero=>
   obtain rfl:i=l.length:=by omega
   have Hany:Hid (l.find? p=none):=Lib.hid (List.find?_eq_none.2 fun x hx=>by rw [Hall.out x (by rw [List.take_length];exact hx)];simp)
   have Hbel:=Lib.hid hbel
   clear hbel
   go_wp2_with fail
   go_ret
   exact⟨-1,rfl,.inl ⟨rfl,Hany.out⟩,Hbel.out⟩
  | succ g=>
   have hil:i<l.length:=by omega
   obtain⟨x,hxi⟩:∃ x,l[i]? = some x:=⟨l[i]'(by omega),List.getElem?_eq_getElem _⟩
   obtain⟨b,o,c',hv,_,_,hbs,hcell⟩:=H.out.form (by omega) (by omega)
   cases hv
   obtain⟨ds,_,hcc,hR⟩:=hcell i x hxi
   have hR2:=hR
   obtain rfl:ds = [.string x.key,.string x.val]:=by first | exact hR | exact hR.1
   have HR:=Lib.hid (stays_label _ _ _ _ (keeps_below hbel) hR2)
   have e0:wr.cell? ⟨b,o+i*2,none⟩=some (.string x.key):=(hbel.cell (p:=⟨b,_,none⟩) hbs).trans (by simpa using hcc 0 _ rfl)
   have e1:wr.cell? ⟨b,o+i*2+1,none⟩=some (.string x.val):=(hbel.cell (p:=⟨b,_,none⟩) hbs).trans (hcc 1 _ rfl)
   have q1:(0:Int)≤(i:Int):=by omega
   have q2:(i:Int)<(l.length:Int):=by omega
   have Hbel:=Lib.hid hbel
   have hs0:=hbel.size
   have Hxi:=Lib.hid hxi
   clear hcc hcell hbel hR2 hxi
   obtain⟨pb,Hpb⟩:∃ pb,Hid (p x=pb):=⟨_,Lib.hid rfl⟩
   go_wp2_with fail
   refine (HC.out x  wr HR.out (Hok.out x (List.mem_of_getElem? Hxi.out)) Hcr.out).mono ?_
   rintro E w1 ⟨rfl,hb1⟩
   rw [Hpb.out]
   have Hb1:=Lib.hid (Hbel.out.trans (hb1.mono hs0))
   have Hc1:=Lib.hid (HK.out _ _ Hcr.out hb1)
   clear hb1 e0 e1
   cases pb with
   | true=>
    have Hany:Hid (l.find? p=some x):=Lib.hid (find_at Hxi.out Hpb.out Hall.out)
    go_wp2_with fail
    go_ret
    exact⟨_,rfl,.inr ⟨i,x,rfl,Hxi.out,Hany.out,Hall.out⟩,Hb1.out⟩
   | false=>
    have Hall2:Hid (∀ x∈l.take (i+1),p x=false):=Lib.hid fun y hy=>by
     rw [List.take_add_one,Hxi.out] at hy
     rcases List.mem_append.1 hy with h | h
     ·exact Hall.out y h
     ·have h9:y=x:=by simpa using h
      rw [h9];exact Hpb.out
    go_wp2_with fail
    go_roundg g
    case measure=>omega
    case rel=>exact⟨i+1,by omega,by go_num,Hall2,Hc1,Hb1.out⟩
end Go.Proofs.YtnnceaapodgfbaaGreatDoor
namespace Go.Proofs.YtnnceaapodgfbaaGreatDoor
open Go.RowKit
theorem strAt_getD {l:List ByteArray} {j:Nat} (hj:j<l.length):l[j]? = some (l.getD j ByteArray.empty):=by simp [List.getD,hj]
set_option maxRecDepth 100000 in
theorem contains_any (v:Value) (l:List ByteArray) (x:ByteArray) (w:World) (h:StrAt w v l) (hl:l.length≤1073741824):Calls Tryz.prog 56 #[v,.string x] w fun e w'=>e=.returned (.bool (Lib.containsS l x))∧w=w':=by
 rcases Nat.eq_zero_or_pos l.length with h0 | h0
 ·obtain rfl:=nil_of_len h0
  obtain⟨ao,c,rfl,_,_⟩:=h.len
  exact (Tryz.slices_Contains_string_empty ao c x w).mono fun e w' ⟨h1,h2⟩=>⟨by rw [h1];rfl,h2.symm⟩
 ·obtain⟨b,o,c,rfl,_,_,_,hc⟩:=h.form h0
  refine (Tryz.slices_Contains_string b o l.length c l x w (Nat.le_refl _) (by omega) fun j hj=>hc j _ (strAt_getD hj)).mono fun e w' ⟨h1,h2⟩=>⟨?_,h2.symm⟩
  rw [h1,List.take_of_length_le (Nat.le_refl _)]
end Go.Proofs.YtnnceaapodgfbaaGreatDoor
namespace Go.Proofs.YtnnceaapodgfbaaGreatDoor
open Go.RowKit
def CapReq (g:Nat) (key:ByteArray) (kd:Int) (v:Value) (w:World):Prop:=w.heap[g]? = some (.cells #[.string key,.int .i64 kd,v] 97 (0,0))
theorem run_holds1:∀ (a:Array Value) (w:World),(callFunc 202 a).run Tryz.prog w=.ok (.enter 202 a) w:=run_callFunc_body Tryz.func202 (by kernel_rfl) (by kernel_rfl)
set_option maxRecDepth 100000 in
set_option maxHeartbeats 800000 in
theorem holds1_any (g:Nat) (key:ByteArray) (kd:Int) (v:Value) (x:GLabel) (w:World) (hc:CapReq g key kd v w) :
  Calls Tryz.prog 202 #[.agg #[.string x.key,.string x.val],.pointer (some ⟨g,0,none⟩)] w fun e w'=>e=.returned (.bool (decide (x.key=key)))∧Below w.heap.size w w':=by
 have Hc:=Lib.hid hc
 obtain⟨w1,hw1⟩:∃ w1,w1=w.alloc (.cells #[.string x.key,.string x.val] 66):=⟨_,rfl⟩
 obtain⟨gb,hgb⟩:∃ gb,gb=w.heap.size:=⟨_,rfl⟩
 have b1:w1.heap[gb]? = some (.cells #[.string x.key,.string x.val] 66 (0,0)):=by rw [hw1,hgb];exact heap_alloc_new w _
 have hb1:Below w.heap.size w w1:=by rw [hw1];exact (Below.refl _ _).alloc (Nat.le_refl _) _
 have c1:=below_block hb1 hc
 have Hb1:=Lib.hid hb1
 have cc:=fun i=>cell_block b1 i
 have dd:=fun i=>cell_block c1 i
 clear hc b1 hb1 c1
 obtain⟨b,Hb⟩:∃ b,Hid (decide (x.key=key)=b):=⟨_,Lib.hid rfl⟩
 rw [Hb.out]
 have hb:(x.key.toList == key.toList)=b:=by
  rw [←Hb.out]
  by_cases h:x.key=key
  ·rw [h];simp
  ·rw [decide_eq_false h,beq_eq_false_iff_ne];exact fun e=>h (toList_inj e)
 go_enter Tryz.func202,Tryz.ntmps202
 go_upto_region 1 with fail
 rw [←hw1]
 try rw [←hgb]
 clear hw1 hgb
 cases b with
 | true=>
  go_wp2_with fail
  go_ret
  exact⟨rfl,Hb1.out⟩
 | false=>
  go_wp2_with fail
  go_ret
  exact⟨rfl,Hb1.out⟩
set_option maxRecDepth 100000 in
set_option maxHeartbeats 3200000 in
theorem holds_any (r:GReq) (v2 v:Value) (labels:List GLabel) (w:World) (h:ReqR w [.string r.key,.int .i64 r.kind,v2] r) (hok:okReq r) (hlab:RowAt LabelR 2 w v labels) (hl:labels.length≤1048576) :
  Calls Tryz.prog 174 #[.agg #[.string r.key,.int .i64 r.kind,v2],v] w fun e w'=>e=.returned (.bool (holdsB labels r))∧Below w.heap.size w w':=by
 obtain⟨v2',h1,_,hst⟩:=h
 obtain rfl:v2=v2':=by injection h1 with _ h1;injection h1 with _ h1;injection h1
 clear h1
 obtain⟨ao,c,rfl,_,_⟩:=hst.row.len
 obtain⟨a1,c1,rfl,_,_⟩:=hlab.len
 obtain⟨_,ok2,_⟩:=hok
 obtain⟨R,HR⟩:∃ R,Hid (holdsB labels r=R):=⟨_,Lib.hid rfl⟩
 rw [HR.out]
 have hE:R=match labels.find? fun x=>decide (x.key=r.key) with
  | some x=>if r.kind=1 then Lib.containsS r.vals x.val else if r.kind=2 then !Lib.containsS r.vals x.val else decide (r.kind=3)
  | none=>if r.kind=1 then false else if r.kind=2 then true else decide (r.kind≠3):=by rw [←HR.out];rfl
 have HE:=Lib.hid hE
 have Hst:=Lib.hid hst
 have Hlab:=Lib.hid hlab
 obtain⟨nv,Hnv⟩:∃ nv,Hid (r.vals.length=nv):=⟨_,Lib.hid rfl⟩
 rw [Hnv.out] at ok2 ⊢
 obtain⟨kd,Hkd⟩:∃ kd,Hid (r.kind=kd):=⟨_,Lib.hid rfl⟩
 rw [Hkd.out]
 obtain⟨ky,Hky⟩:∃ ky,Hid (r.key=ky):=⟨_,Lib.hid rfl⟩
 rw [Hky.out]
 clear hE hst hlab
 obtain⟨w1,hw1⟩:∃ w1,w1=w.alloc (.cells #[.string ky,.int .i64 kd,.slice ao nv c] 97):=⟨_,rfl⟩
 obtain⟨g,hg⟩:∃ g,g=w.heap.size:=⟨_,rfl⟩
 have b1:w1.heap[g]? = some (.cells #[.string ky,.int .i64 kd,.slice ao nv c] 97 (0,0)):=by rw [hw1,hg];exact heap_alloc_new w _
 have hb1:Below w.heap.size w w1:=by rw [hw1];exact (Below.refl _ _).alloc (Nat.le_refl _) _
 have Hb1:=Lib.hid hb1
 have B1:=Lib.hid b1
 clear b1 hb1
 go_enter Tryz.func174,Tryz.ntmps174
 go_upto_region 1 with fail
 rw [←hw1]
 try rw [←hg]
 clear hw1 hg
 go_wp2_with fail
 refine (idxLabel_any (p:=fun x=>decide (x.key=ky)) (Cap:=CapReq g ky kd (.slice ao nv c)) (OK:=fun _=>True) run_holds1 (fun w w' h hb=>below_block hb h) (fun x w _ _ hc=>holds1_any g ky kd _ x w hc) _ labels w1 (Hlab.out.below stays_label Hb1.out) (by omega) (fun _ _=>trivial) B1.out).mono ?_
 rintro E w2 ⟨n,rfl,hn,hb2⟩
 have Hb2:=Lib.hid (Hb1.out.trans (hb2.mono Hb1.out.size))
 have b2:=below_block hb2 B1.out
 have cc:=fun i=>cell_block b2 i
 clear b2 hb2
 rcases hn with ⟨rfl,hf⟩ | ⟨i,x,rfl,hxi,hf,_⟩
 ·have HR2:Hid (R=if kd=1 then false else if kd=2 then true else decide (kd≠3)):=Lib.hid (by rw [HE.out,Hky.out,hf,Hkd.out])
  clear hf
  by_cases k1:kd=1
  ·subst k1
   have HR3:Hid (false=R):=Lib.hid (by rw [HR2.out];rfl)
   clear HR2
   go_wp2_with fail
   go_region
   go_wp2_with fail
   go_ret
   exact⟨congrArg (fun b=>Ending.returned (Value.bool b)) HR3.out,Hb2.out.trans (below_drew _ _)⟩
  ·have q1:(kd == 1)=false:=by rw [beq_eq_false_iff_ne];exact k1
   by_cases k2:kd=2
   ·subst k2
    have HR3:Hid (true=R):=Lib.hid (by rw [HR2.out];rfl)
    clear HR2 k1
    go_wp2_with fail
    go_region
    go_wp2_with fail
    go_ret
    exact⟨congrArg (fun b=>Ending.returned (Value.bool b)) HR3.out,Hb2.out.trans (below_drew _ _)⟩
   ·have q2:(kd == 2)=false:=by rw [beq_eq_false_iff_ne];exact k2
    by_cases k3:kd=3
    ·subst k3
     have HR3:Hid (false=R):=Lib.hid (by rw [HR2.out];rfl)
     clear HR2 k1 k2
     go_wp2_with fail
     go_ret
     exact⟨congrArg (fun b=>Ending.returned (Value.bool b)) HR3.out,Hb2.out⟩
    ·have q3:(kd == 3)=false:=by rw [beq_eq_false_iff_ne];exact k3
     have HR3:Hid (true=R):=Lib.hid (by rw [HR2.out,if_neg k1,if_neg k2,decide_eq_true k3])
     clear HR2 k1 k2 k3
     go_wp2_with fail
     go_ret
     exact⟨congrArg (fun b=>Ending.returned (Value.bool b)) HR3.out,Hb2.out⟩
 ·have HR2:Hid (R=if kd=1 then Lib.containsS r.vals x.val else if kd=2 then !Lib.containsS r.vals x.val else decide (kd=3)):=Lib.hid (by rw [HE.out,Hky.out,hf,Hkd.out])
  have hil:i<labels.length:=(List.getElem?_eq_some_iff.1 hxi).1
  have hlb:=Hlab.out.below stays_label Hb2.out
  obtain⟨b,o,c',hv,_,_,hbs,hcell⟩:=hlb.form (by omega) (by omega)
  injection hv with u1 u2 u3
  subst u1
  clear u2 u3
  obtain⟨ds,_,hcc,hR⟩:=hcell i x hxi
  obtain rfl:ds = [.string x.key,.string x.val]:=hR
  have e1:w2.cell? ⟨b,o+i*2+1,none⟩=some (.string x.val):=hcc 1 _ rfl
  have p1:(0:Int)≤(i:Int):=by omega
  have p2:(i:Int)<(labels.length:Int):=by omega
  have p3:¬(i:Int)<0:=by omega
  have Hst2:=Lib.hid (Hst.out.below Hb2.out)
  clear hf hlb hcc hcell hxi
  obtain⟨cv,Hcv⟩:∃ cv,Hid (Lib.containsS r.vals x.val=cv):=⟨_,Lib.hid rfl⟩
  rw [Hcv.out] at HR2
  have hC:∀ q,Calls Tryz.prog 56 #[.slice ao nv c,.string x.val] (w2.drewN q) fun e w'=>e=.returned (.bool cv)∧∃ q,w'=w2.drewN q:=fun q=>by
   rw [←Hcv.out,←Hnv.out]
   exact (contains_any _ r.vals x.val _ (Hst2.out.below (below_drewN _ _ q)) (by rw [Hnv.out];omega)).mono fun e w' h=>⟨h.1,q,h.2.symm⟩
  have HC:=Lib.hid hC
  clear hC
  by_cases k1:kd=1
  ·subst k1
   have HR3:Hid (cv=R):=Lib.hid (by rw [HR2.out];rfl)
   clear HR2
   go_wp2_with fail
   refine wp_region_hold 12 (fun w'=>∃ q,w'=w2.drewN q) (by kernel_rfl) (by kernel_rfl) ?_ ?_
   ·exact⟨1,rfl⟩
   simp only [List.take_succ_cons,List.take_zero,List.drop_succ_cons,List.drop_zero]
   (first | (refine wpHold_pure (v:=?_) (by rfl) (fun w=>?_) ?_;rotate_left;focus (first | (go_simp;done) | (go_simp;with_reducible rfl))) | (refine wpHold_skip ?_ ?_;focus (go_simp;done)) | (refine wpHold_pure' (v:=?_) ?_ (fun w=>?_) ?_;rotate_left;focus (go_simp;done);focus (first | (go_simp;done) | (go_simp;with_reducible rfl))));try simp only [Act.put,List.setIfInBounds_toArray,List.set_cons_zero,List.set_cons_succ]
   (first | (refine wpHold_pure (v:=?_) (by rfl) (fun w=>?_) ?_;rotate_left;focus (first | (go_simp;done) | (go_simp;with_reducible rfl))) | (refine wpHold_skip ?_ ?_;focus (go_simp;done)) | (refine wpHold_pure' (v:=?_) ?_ (fun w=>?_) ?_;rotate_left;focus (go_simp;done);focus (first | (go_simp;done) | (go_simp;with_reducible rfl))));try simp only [Act.put,List.setIfInBounds_toArray,List.set_cons_zero,List.set_cons_succ]
   (first | (refine wpHold_pure (v:=?_) (by rfl) (fun w=>?_) ?_;rotate_left;focus (first | (go_simp;done) | (go_simp;with_reducible rfl))) | (refine wpHold_skip ?_ ?_;focus (go_simp;done)) | (refine wpHold_pure' (v:=?_) ?_ (fun w=>?_) ?_;rotate_left;focus (go_simp;done);focus (first | (go_simp;done) | (go_simp;with_reducible rfl))));try simp only [Act.put,List.setIfInBounds_toArray,List.set_cons_zero,List.set_cons_succ]
   refine wpHold_pure' (v:=?_) ?_ (fun w=>?_) ?_
   rotate_left
   focus (go_simp;done)
   focus (first | (go_simp;done) | (go_simp;with_reducible rfl))
   try simp only [Act.put,List.setIfInBounds_toArray,List.set_cons_zero,List.set_cons_succ]
   refine wpHold_read' (v:=.slice ao nv c) (by first | rfl | (go_simp;done)) (fun w' hI=>?_) ?_
   ·obtain⟨q,rfl⟩:=hI
    have dd:=fun i=>(show (w2.drewN q).cell? ⟨g,i,none⟩=_ from cc i)
    go_simp
    done
   try simp only [Act.put,List.setIfInBounds_toArray,List.set_cons_zero,List.set_cons_succ]
   refine wpHold_pure' (v:=?_) ?_ (fun w=>?_) ?_
   rotate_left
   focus (go_simp;done)
   focus (first | (go_simp;done) | (go_simp;with_reducible rfl))
   try simp only [Act.put,List.setIfInBounds_toArray,List.set_cons_zero,List.set_cons_succ]
   refine wpHold_pure' (v:=?_) ?_ (fun w=>?_) ?_
   rotate_left
   focus (go_simp;done)
   focus (first | (go_simp;done) | (go_simp;with_reducible rfl))
   try simp only [Act.put,List.setIfInBounds_toArray,List.set_cons_zero,List.set_cons_succ]
   refine wpHold_pure' (v:=?_) ?_ (fun w=>?_) ?_
   rotate_left
   focus (go_simp;done)
   focus (first | (go_simp;done) | (go_simp;with_reducible rfl))
   try simp only [Act.put,List.setIfInBounds_toArray,List.set_cons_zero,List.set_cons_succ]
   refine wpHold_pure' (v:=?_) ?_ (fun w=>?_) ?_
   rotate_left
   focus (go_simp;done)
   focus (first | (go_simp;done) | (go_simp;with_reducible rfl))
   try simp only [Act.put,List.setIfInBounds_toArray,List.set_cons_zero,List.set_cons_succ]
   refine wpHold_read' (v:=.string x.val) (by first | rfl | (go_simp;done)) (fun w' hI=>?_) ?_
   ·obtain⟨q,rfl⟩:=hI
    have dd:(w2.drewN q).cell? ⟨b,o+i*2+1,none⟩=some (.string x.val):=e1
    go_simp
    done
   try simp only [Act.put,List.setIfInBounds_toArray,List.set_cons_zero,List.set_cons_succ]
   refine wpHold_call' (v:=.bool cv) (f:=56) (args:=#[.slice ao nv c,.string x.val]) (by first | rfl | (go_simp;done)) (fun w'=>?_) (fun w' hI=>?_) ?_
   ·go_simp
    done
   ·obtain⟨q,rfl⟩:=hI
    exact HC.out q
   try simp only [Act.put,List.setIfInBounds_toArray,List.set_cons_zero,List.set_cons_succ]
   (first | (refine wpHold_pure (v:=?_) (by rfl) (fun w=>?_) ?_;rotate_left;focus (first | (go_simp;done) | (go_simp;with_reducible rfl))) | (refine wpHold_skip ?_ ?_;focus (go_simp;done)) | (refine wpHold_pure' (v:=?_) ?_ (fun w=>?_) ?_;rotate_left;focus (go_simp;done);focus (first | (go_simp;done) | (go_simp;with_reducible rfl))));try simp only [Act.put,List.setIfInBounds_toArray,List.set_cons_zero,List.set_cons_succ]
   refine wpHold_nil ?_
   rintro w' ⟨q,rfl⟩
   go_wp2_with fail
   go_ret
   exact⟨congrArg (fun b=>Ending.returned (Value.bool b)) HR3.out,Hb2.out.trans (below_drewN _ _ _)⟩
  ·have q1:(kd == 1)=false:=by rw [beq_eq_false_iff_ne];exact k1
   by_cases k2:kd=2
   ·subst k2
    have HR3:Hid ((!cv)=R):=Lib.hid (by rw [HR2.out];rfl)
    clear HR2 k1
    go_wp2_with fail
    refine wp_region_hold 13 (fun w'=>∃ q,w'=w2.drewN q) (by kernel_rfl) (by kernel_rfl) ?_ ?_
    ·exact⟨1,rfl⟩
    simp only [List.take_succ_cons,List.take_zero,List.drop_succ_cons,List.drop_zero]
    (first | (refine wpHold_pure (v:=?_) (by rfl) (fun w=>?_) ?_;rotate_left;focus (first | (go_simp;done) | (go_simp;with_reducible rfl))) | (refine wpHold_skip ?_ ?_;focus (go_simp;done)) | (refine wpHold_pure' (v:=?_) ?_ (fun w=>?_) ?_;rotate_left;focus (go_simp;done);focus (first | (go_simp;done) | (go_simp;with_reducible rfl))));try simp only [Act.put,List.setIfInBounds_toArray,List.set_cons_zero,List.set_cons_succ]
    (first | (refine wpHold_pure (v:=?_) (by rfl) (fun w=>?_) ?_;rotate_left;focus (first | (go_simp;done) | (go_simp;with_reducible rfl))) | (refine wpHold_skip ?_ ?_;focus (go_simp;done)) | (refine wpHold_pure' (v:=?_) ?_ (fun w=>?_) ?_;rotate_left;focus (go_simp;done);focus (first | (go_simp;done) | (go_simp;with_reducible rfl))));try simp only [Act.put,List.setIfInBounds_toArray,List.set_cons_zero,List.set_cons_succ]
    (first | (refine wpHold_pure (v:=?_) (by rfl) (fun w=>?_) ?_;rotate_left;focus (first | (go_simp;done) | (go_simp;with_reducible rfl))) | (refine wpHold_skip ?_ ?_;focus (go_simp;done)) | (refine wpHold_pure' (v:=?_) ?_ (fun w=>?_) ?_;rotate_left;focus (go_simp;done);focus (first | (go_simp;done) | (go_simp;with_reducible rfl))));try simp only [Act.put,List.setIfInBounds_toArray,List.set_cons_zero,List.set_cons_succ]
    refine wpHold_pure' (v:=?_) ?_ (fun w=>?_) ?_
    rotate_left
    focus (go_simp;done)
    focus (first | (go_simp;done) | (go_simp;with_reducible rfl))
    try simp only [Act.put,List.setIfInBounds_toArray,List.set_cons_zero,List.set_cons_succ]
    refine wpHold_read' (v:=.slice ao nv c) (by first | rfl | (go_simp;done)) (fun w' hI=>?_) ?_
    ·obtain⟨q,rfl⟩:=hI
     have dd:=fun i=>(show (w2.drewN q).cell? ⟨g,i,none⟩=_ from cc i)
     go_simp
     done
    try simp only [Act.put,List.setIfInBounds_toArray,List.set_cons_zero,List.set_cons_succ]
    refine wpHold_pure' (v:=?_) ?_ (fun w=>?_) ?_
    rotate_left
    focus (go_simp;done)
    focus (first | (go_simp;done) | (go_simp;with_reducible rfl))
    try simp only [Act.put,List.setIfInBounds_toArray,List.set_cons_zero,List.set_cons_succ]
    refine wpHold_pure' (v:=?_) ?_ (fun w=>?_) ?_
    rotate_left
    focus (go_simp;done)
    focus (first | (go_simp;done) | (go_simp;with_reducible rfl))
    try simp only [Act.put,List.setIfInBounds_toArray,List.set_cons_zero,List.set_cons_succ]
    refine wpHold_pure' (v:=?_) ?_ (fun w=>?_) ?_
    rotate_left
    focus (go_simp;done)
    focus (first | (go_simp;done) | (go_simp;with_reducible rfl))
    try simp only [Act.put,List.setIfInBounds_toArray,List.set_cons_zero,List.set_cons_succ]
    refine wpHold_pure' (v:=?_) ?_ (fun w=>?_) ?_
    rotate_left
    focus (go_simp;done)
    focus (first | (go_simp;done) | (go_simp;with_reducible rfl))
    try simp only [Act.put,List.setIfInBounds_toArray,List.set_cons_zero,List.set_cons_succ]
    refine wpHold_read' (v:=.string x.val) (by first | rfl | (go_simp;done)) (fun w' hI=>?_) ?_
    ·obtain⟨q,rfl⟩:=hI
     have dd:(w2.drewN q).cell? ⟨b,o+i*2+1,none⟩=some (.string x.val):=e1
     go_simp
     done
    try simp only [Act.put,List.setIfInBounds_toArray,List.set_cons_zero,List.set_cons_succ]
    refine wpHold_call' (v:=.bool cv) (f:=56) (args:=#[.slice ao nv c,.string x.val]) (by first | rfl | (go_simp;done)) (fun w'=>?_) (fun w' hI=>?_) ?_
    ·go_simp
     done
    ·obtain⟨q,rfl⟩:=hI
     exact HC.out q
    try simp only [Act.put,List.setIfInBounds_toArray,List.set_cons_zero,List.set_cons_succ]
    refine wpHold_pure' (v:=?_) ?_ (fun w=>?_) ?_
    rotate_left
    focus (go_simp;done)
    focus (first | (go_simp;done) | (go_simp;with_reducible rfl))
    try simp only [Act.put,List.setIfInBounds_toArray,List.set_cons_zero,List.set_cons_succ]
    (first | (refine wpHold_pure (v:=?_) (by rfl) (fun w=>?_) ?_;rotate_left;focus (first | (go_simp;done) | (go_simp;with_reducible rfl))) | (refine wpHold_skip ?_ ?_;focus (go_simp;done)) | (refine wpHold_pure' (v:=?_) ?_ (fun w=>?_) ?_;rotate_left;focus (go_simp;done);focus (first | (go_simp;done) | (go_simp;with_reducible rfl))));try simp only [Act.put,List.setIfInBounds_toArray,List.set_cons_zero,List.set_cons_succ]
    refine wpHold_nil ?_
    rintro w' ⟨q,rfl⟩
    go_wp2_with fail
    go_ret
    exact⟨congrArg (fun b=>Ending.returned (Value.bool b)) HR3.out,Hb2.out.trans (below_drewN _ _ _)⟩
   ·have q2:(kd == 2)=false:=by rw [beq_eq_false_iff_ne];exact k2
    by_cases k3:kd=3
    ·subst k3
     have HR3:Hid (true=R):=Lib.hid (by rw [HR2.out];rfl)
     clear HR2 k1 k2
     go_wp2_with fail
     go_ret
     exact⟨congrArg (fun b=>Ending.returned (Value.bool b)) HR3.out,Hb2.out⟩
    ·have q3:(kd == 3)=false:=by rw [beq_eq_false_iff_ne];exact k3
     have HR3:Hid (false=R):=Lib.hid (by rw [HR2.out,if_neg k1,if_neg k2,decide_eq_false k3])
     clear HR2 k1 k2 k3
     go_wp2_with fail
     go_ret
     exact⟨congrArg (fun b=>Ending.returned (Value.bool b)) HR3.out,Hb2.out⟩
end Go.Proofs.YtnnceaapodgfbaaGreatDoor
namespace Go.Proofs.YtnnceaapodgfbaaGreatDoor
open Go.RowKit
set_option maxRecDepth 100000 in
set_option maxHeartbeats 3200000 in
theorem allReq_any (v vl:Value) (l:List GReq) (labels:List GLabel) (w:World) (h:RowAt ReqR 3 w v l) (hl:l.length≤1048576) (hok:∀ r∈l,okReq r) (hlab:RowAt LabelR 2 w vl labels) (hll:labels.length≤1048576) :
  Calls Tryz.prog 141 #[v,vl] w fun e w'=>e=.returned (.bool (l.all (holdsB labels)))∧Below w.heap.size w w':=by
 obtain⟨a1,c1,rfl,_,_⟩:=h.len
 obtain⟨al,cl,rfl,_,_⟩:=hlab.len
 obtain⟨R,HR⟩:∃ R,Hid (l.all (holdsB labels)=R):=⟨_,Lib.hid rfl⟩
 rw [HR.out]
 have H:=Lib.hid h
 have Hlab:=Lib.hid hlab
 have Hok:=Lib.hid hok
 clear h hlab hok
 go_enter Tryz.func141,Tryz.ntmps141
 go_wp2_with fail
 go_loopg [9] l.length (fun k u9 wr=>∃ i:Nat,i+k=l.length∧u9=.int .i64 (i:Int)∧Hid (∀ x∈l.take i,holdsB labels x=true)∧Hid (Below w.heap.size w wr))
 case atStart=>exact⟨0,by omega,rfl,Lib.hid (by simp),Lib.hid (Below.refl _ _)⟩
 case round=>
  obtain⟨i,hig,rfl,Hall,Hbel⟩:=hrel
  have hsr:=Hbel.out.size
  cases gk with
  | zero=>
   obtain rfl:i=l.length:=by omega
   have HR5:Hid (true=R):=Lib.hid (by
    rw [←HR.out,eq_comm,List.all_eq_true]
    intro x hx
    refine Hall.out x ?_
    rw [List.take_of_length_le (Nat.le_refl _)];exact hx)
   go_wp2_with fail
   go_ret
   exact⟨congrArg (fun b=>Ending.returned (Value.bool b)) HR5.out,Hbel.out⟩
  | succ k=>
   have hil:i<l.length:=by omega
   obtain⟨x,hxi⟩:∃ x,l[i]? = some x:=⟨l[i]'(by omega),List.getElem?_eq_getElem _⟩
   obtain⟨b,o,c',hv,_,_,hbs,hcell⟩:=H.out.form (by omega) (by omega)
   injection hv with u1 u2 u3
   subst u1
   clear u2 u3
   obtain⟨ds,_,hcc,hR⟩:=hcell i x hxi
   have hR2:=stays_req _ _ _ _ (keeps_below Hbel.out) hR
   obtain⟨y2,rfl,_,_⟩:=hR
   have e0:wr.cell? ⟨b,o+i*3,none⟩=some (.string x.key):=(Hbel.out.cell (p:=⟨b,_,none⟩) hbs).trans (by simpa using hcc 0 _ rfl)
   have e1:wr.cell? ⟨b,o+i*3+1,none⟩=some (.int .i64 x.kind):=(Hbel.out.cell (p:=⟨b,_,none⟩) hbs).trans (hcc 1 _ rfl)
   have e2:wr.cell? ⟨b,o+i*3+2,none⟩=some y2:=(Hbel.out.cell (p:=⟨b,_,none⟩) hbs).trans (hcc 2 _ rfl)
   have q1:(0:Int)≤(i:Int):=by omega
   have q2:(i:Int)<(l.length:Int):=by omega
   have HRx:=Lib.hid hR2
   have Hxi:=Lib.hid hxi
   obtain⟨ao,co,rfl,_,_⟩:∃ ao co,y2=.slice ao x.vals.length co∧True∧True:=by
    obtain⟨v2,h1,_,h2⟩:=hR2
    obtain⟨ao,co,h3,_,_⟩:=h2.row.len
    injection h1 with _ h1;injection h1 with _ h1;injection h1 with h1 _
    exact⟨ao,co,h1.trans h3,trivial,trivial⟩
   clear hcc hcell hxi hR2
   go_upto_region 4 with fail
   obtain⟨W,hW⟩:∃ W,W=wr.alloc (.cells #[.string x.key,.int .i64 x.kind,.slice ao x.vals.length co] 97):=⟨_,rfl⟩
   obtain⟨gb,hgb⟩:∃ gb,gb=wr.heap.size:=⟨_,rfl⟩
   rw [←hW,←hgb]
   have c0:W.heap[gb]? = some (.cells #[.string x.key,.int .i64 x.kind,.slice ao x.vals.length co] 97 (0,0)):=by rw [hW,hgb];exact heap_alloc_new wr _
   have hb5:Below wr.heap.size wr W:=by rw [hW];exact (Below.refl _ _).alloc (Nat.le_refl _) _
   have HW:=Lib.hid (Hbel.out.trans (hb5.mono hsr))
   have HRW:=Lib.hid (stays_req _ _ _ _ (keeps_below hb5) HRx.out)
   have cc:=fun i=>cell_block c0 i
   clear hW hgb hb5 c0 e0 e1 e2
   go_wp2_with fail
   refine (holds_any x _ _ labels W HRW.out (Hok.out x (List.mem_of_getElem? Hxi.out)) (Hlab.out.below stays_label HW.out) (by omega)).mono ?_
   rintro E w3 ⟨rfl,hb3⟩
   have Hb3:=Lib.hid (HW.out.trans (hb3.mono HW.out.size))
   obtain⟨rE,HrE⟩:∃ rE,Hid (holdsB labels x=rE):=⟨_,Lib.hid rfl⟩
   rw [HrE.out]
   clear hb3 cc
   cases rE with
   | true=>
    have Hall2:Hid (∀ y∈l.take (i+1),holdsB labels y=true):=Lib.hid fun y hy=>by
     rw [List.take_add_one,Hxi.out] at hy
     rcases List.mem_append.1 hy with h | h
     ·exact Hall.out y h
     ·simp at h;subst h;exact HrE.out
    go_wp2_with fail
    go_roundg k
    case measure=>omega
    case rel=>exact⟨i+1,by omega,by go_num,Hall2,Hb3⟩
   | false=>
    have HR5:Hid (false=R):=Lib.hid (by
     rw [←HR.out,eq_comm,List.all_eq_false]
     exact⟨x,List.mem_of_getElem? Hxi.out,by rw [HrE.out];simp⟩)
    go_wp2_with fail
    go_ret
    exact⟨congrArg (fun b=>Ending.returned (Value.bool b)) HR5.out,Hb3.out⟩
set_option maxRecDepth 100000 in
set_option maxHeartbeats 1600000 in
theorem match_any (v vl:Value) (l:List GReq) (labels:List GLabel) (m:Int) (w:World) (h:RowAt ReqR 3 w v l) (hl:l.length≤1048576) (hok:∀ r∈l,okReq r) (hlab:RowAt LabelR 2 w vl labels) (hll:labels.length≤1048576) (hokl:∀ x∈labels,okLab x) (hm:MaxOK m w) :
  Calls Tryz.prog 110 #[v,vl] w fun e w'=>e=.returned (.tuple #[.bool (matchB l labels),.int .i64 (matchE l labels)])∧Below w.heap.size w w':=by
 have hE:matchE l labels=if reqsE l=0 then labelsE labels else reqsE l:=rfl
 have hB:matchB l labels=(decide (matchE l labels=0) && l.all (holdsB labels)):=rfl
 obtain⟨ME,HME⟩:∃ ME,Hid (matchE l labels=ME):=⟨_,Lib.hid rfl⟩
 obtain⟨MB,HMB⟩:∃ MB,Hid (matchB l labels=MB):=⟨_,Lib.hid rfl⟩
 rw [HME.out,HMB.out]
 rw [HME.out] at hE hB
 rw [HMB.out] at hB
 have HE:=Lib.hid hE
 have HB:=Lib.hid hB
 have H:=Lib.hid h
 have Hlab:=Lib.hid hlab
 have Hok:=Lib.hid hok
 have Hokl:=Lib.hid hokl
 have Hm:=Lib.hid hm
 clear h hlab hok hokl hm hE hB
 go_enter Tryz.func110,Tryz.ntmps110
 go_wp2_with fail
 refine (checks_any v l m w H.out hl Hok.out Hm.out).mono ?_
 rintro E w1 ⟨rfl,hb1⟩
 have Hb1:=Lib.hid hb1
 obtain⟨e1,He1⟩:∃ e1,Hid (reqsE l=e1):=⟨_,Lib.hid rfl⟩
 rw [He1.out]
 clear hb1
 by_cases h1:e1=0
 ·subst h1
  have HE2:Hid (ME=labelsE labels):=Lib.hid (by rw [HE.out,if_pos He1.out])
  go_wp2_with fail
  refine (labels_any vl labels m w1 (Hlab.out.below stays_label Hb1.out) hll Hokl.out (Hm.out.below Hb1.out)).mono ?_
  rintro E w2 ⟨rfl,hb2⟩
  have Hb2:=Lib.hid (Hb1.out.trans (hb2.mono Hb1.out.size))
  rw [←HE2.out]
  clear hb2
  by_cases h2:ME=0
  ·subst h2
   have HB2:Hid (l.all (holdsB labels)=MB):=Lib.hid (by rw [HB.out,decide_eq_true rfl,Bool.true_and])
   go_wp2_with fail
   refine (allReq_any v vl l labels w2 (H.out.below stays_req Hb2.out) hl Hok.out (Hlab.out.below stays_label Hb2.out) hll).mono ?_
   rintro E w3 ⟨rfl,hb3⟩
   have Hb3:=Lib.hid (Hb2.out.trans (hb3.mono Hb2.out.size))
   rw [HB2.out]
   clear hb3
   go_wp2_with fail
   go_ret2
   exact⟨rfl,Hb3.out⟩
  ·have q1:(ME == 0)=false:=by rw [beq_eq_false_iff_ne];exact h2
   have q2:(ME != 0)=true:=by rw [bne_iff_ne];exact h2
   have hB2:MB=false:=by rw [HB.out,decide_eq_false h2,Bool.false_and]
   subst hB2
   clear h2
   go_wp2_with fail
   go_ret2
   exact⟨rfl,Hb2.out⟩
 ·have q1:(e1 == 0)=false:=by rw [beq_eq_false_iff_ne];exact h1
  have q2:(e1 != 0)=true:=by rw [bne_iff_ne];exact h1
  have hE2:ME=e1:=by rw [HE.out,He1.out,if_neg h1]
  have hB2:MB=false:=by rw [HB.out,hE2,decide_eq_false h1,Bool.false_and]
  subst hB2
  subst hE2
  clear h1
  go_wp2_with fail
  go_ret2
  exact⟨rfl,Hb1.out⟩
end Go.Proofs.YtnnceaapodgfbaaGreatDoor
namespace Go.Proofs.YtnnceaapodgfbaaGreatDoor
open Go.RowKit Go.ChangeMaps Go.MapKept
open Go.WideMaps
open Go.WideElems (Fit rd rg pl rd_val rd_key rg_of)
open Go.Maps (Keyed)
abbrev KB:=List UInt8
def kb (k:KB):Lit:=.string k
def rawE (v:Value):Option (DataW Value × List MemPlace):=some (.held v,[])
def rawOf:DataW Value→Option Value
 | .held v=>some v
 | _=>none
theorem atKey_mem {es:List (Lit × DataW Value)} {k:Lit} (h:Maps.has (DataW.map es) k=true):∃ q∈es,∀ z,(DataW.map es).atKey k z=q.2:=by
 rw [Maps.has_eq] at h
 obtain⟨p,h1,h2⟩:=List.any_eq_true.1 h
 cases hf:es.find? (fun p=>p.1.sameKey k) with
 | none=>exact absurd h2 (by simpa using List.find?_eq_none.1 hf p h1)
 | some q=>exact⟨q,List.mem_of_find?_eq_some hf,fun z=>by unfold DataW.atKey;simp only [hf]⟩
theorem atKey_find {D:DataW Value} {k:Lit} (h:Maps.has D k=true):∃ y,∀ z,D.atKey k z=y:=by
 cases D with
 | map es=>obtain⟨q,_,hq⟩:=atKey_mem h;exact⟨_,hq⟩
 | _=>cases h
section
variable {P : Program} {K e t : TypeId} {w w' : World} {b n : Nat} {f : KB → Option Value}
end
end Go.Proofs.YtnnceaapodgfbaaGreatDoor
namespace Go.Proofs.YtnnceaapodgfbaaGreatDoor
open Go.RowKit Go.ChangeMaps Go.MapKept
open Go.WideMaps
open Go.WideElems (Fit rd rg pl rd_val rd_key rg_of rd_mk other_key)
open Go.Maps (Keyed)
structure KeyCode (P:Program) (K:TypeId) (κ:Type) where
 val:κ→Value
 lit:κ→Lit
 ok:κ→Prop
 keyed:Keyed P K
 key:∀ k,ok k→keyOf P K (val k)=some (lit k)
 back:∀ {v l},keyOf P K v=some l→∃ k,ok k∧v=val k∧l=lit k
 vinj:∀ {a b},val a=val b→a=b
variable {κ : Type}
section
variable {P : Program} {K : TypeId} (C : KeyCode P K κ)
theorem KeyCode.inj {a b:κ} (ha:C.ok a) (hb:C.ok b) (h:C.lit a=C.lit b):a=b:=
 C.vinj (C.keyed.inj (C.key a ha) (by rw [h];exact C.key b hb))
theorem KeyCode.isKey {a:κ} (ha:C.ok a):WideAt.IsKeyLit (C.lit a):=C.keyed.key (C.key a ha)
theorem KeyCode.same [DecidableEq κ] {a b:κ} (ha:C.ok a) (hb:C.ok b):(C.lit a).sameKey (C.lit b)=decide (a=b):=by
 by_cases h:a=b
 ·subst h;rw [WideAt.sameKey_self (C.isKey ha)];simp
 ·rw [Maps.sameKey_ne (fun e=>h (C.inj ha hb e))];simp [h]
end
def lookK (D:DataW Value) (k:Lit):Option Value:=if Maps.has D k=true then rawOf (D.atKey k .nil) else none
def MapK {P:Program} {K:TypeId} (C:KeyCode P K κ) (w:World) (b n:Nat) (f:κ→Option Value):Prop:=
 ∃ D:DataW Value,w.ownsMap P K rawE b n D∧(∀ k,C.ok k→f k=lookK D (C.lit k))∧∀ k,(f k).isSome=true→C.ok k
def updK [DecidableEq κ] (f:κ→Option Value) (k:κ) (v:Value):κ→Option Value:=fun z=>if z=k then some v else f z
def delK [DecidableEq κ] (f:κ→Option Value) (k:κ):κ→Option Value:=fun z=>if z=k then none else f z
theorem updK_same [DecidableEq κ] (f:κ→Option Value) (k:κ) (v:Value):updK f k v k=some v:=if_pos rfl
theorem updK_other [DecidableEq κ] (f:κ→Option Value) {k z:κ} (v:Value) (h:z≠k):updK f k v z=f z:=if_neg h
theorem delK_other [DecidableEq κ] (f:κ→Option Value) {k z:κ} (h:z≠k):delK f k z=f z:=if_neg h
section
variable {P : Program} {K e t : TypeId} {C : KeyCode P K κ} {w w' : World} {b n : Nat} {f : κ → Option Value}
theorem mapK_made (C:KeyCode P K κ) (w:World):MapK C (w.alloc (.map #[] 0)) w.heap.size 0 fun _=>none:=
 ⟨.map [],World.ownsMap_made w P K rawE,fun _ _=>rfl,fun _ h=>by cases h⟩
theorem MapK.mono {n':Nat} (h:MapK C w b n f) (hn:n≤n'):MapK C w b n' f:=let ⟨D,h1,h2⟩:=h;⟨D,h1.mono hn,h2⟩
theorem MapK.lt (h:MapK C w b n f):b<w.heap.size:=let ⟨_,h1,_⟩:=h;h1.lt
theorem MapK.kept {row:Option Nat} (h:MapK C w b n f) (hg:w.grownBy w' row) (hne:some b≠row):MapK C w' b n f:=let ⟨D,h1,h2⟩:=h;⟨D,h1.kept hg hne,h2⟩
theorem MapK.block (h:MapK C w b n f) (hb:w'.heap[b]? = w.heap[b]?):MapK C w' b n f:=by
 obtain⟨D,⟨es,clock,h1,h2⟩,h3⟩:=h
 exact⟨D,⟨es,clock,hb.trans h1,h2⟩,h3⟩
theorem MapK.belowW (h:MapK C w b n f) (hb:Below w.heap.size w w'):MapK C w' b n f:=h.block (hb.block b h.lt)
theorem MapK.alloc (h:MapK C w b n f) (o:Obj):MapK C (w.alloc o) b n f:=let ⟨D,h1,h2⟩:=h;⟨D,h1.alloc o,h2⟩
theorem MapK.isMap (h:MapK C w b n f):∃ es clock,w.heap[b]? = some (.map es clock):=let ⟨_,⟨es,clock,h1,_⟩,_⟩:=h;⟨es,clock,h1⟩
theorem MapK.ne (h:MapK C w b n f) {g:Nat} {cs:Array Value} {T:TypeId} {fr:Nat × Nat} (hg:w.heap[g]? = some (.cells cs T fr)):b≠g:=by
 rintro rfl
 obtain⟨es,clock,h1⟩:=h.isMap
 rw [h1] at hg;cases hg
theorem lookK_at {D:DataW Value} (hown:w.ownsMap P K rawE b n D) (ht:P.underlying t=some (.map K e)) {z:Value} (hz:(zeroValue e).run P w=.ok z w) (k:κ) (hs:C.ok k) :
  (Instr.lookup t (.map (some b)) (C.val k) true).run P w=.ok (.tuple #[(lookK D (C.lit k)).getD z,.bool (lookK D (C.lit k)).isSome]) w∧(Instr.lookup t (.map (some b)) (C.val k) false).run P w=.ok ((lookK D (C.lit k)).getD z) w:=by
 have key:=C.key k hs
 obtain⟨v,ps,hrun,hv⟩:=hown.look_ok C.keyed ht hz (zd:=.held z) (zp:=[]) rfl key
 obtain⟨v',ps',hrun',hv'⟩:=hown.lookup C.keyed ht hz (zd:=.held z) (zp:=[]) rfl key
 have e1:DataW.held v=D.atKey (C.lit k) (.held z):=by unfold rawE at hv;exact (Prod.mk.inj (Option.some.inj hv)).1
 have e2:DataW.held v'=D.atKey (C.lit k) (.held z):=by unfold rawE at hv';exact (Prod.mk.inj (Option.some.inj hv')).1
 have ev:v=v':=by have:=e1.trans e2.symm;injection this
 rw [hrun,hrun',←ev]
 cases hh:Maps.has D (C.lit k) with
 | false=>
  have h0:lookK D (C.lit k)=none:=by unfold lookK;rw [hh];simp
  rw [Maps.atKey_of_not_has hh] at e1
  injection e1 with e1
  rw [h0,e1]
  exact⟨rfl,rfl⟩
 | true=>
  obtain⟨y,hy⟩:=atKey_find hh
  have h0:lookK D (C.lit k)=some v:=by
   unfold lookK
   rw [if_pos hh,hy,←hy (.held z),←e1];rfl
  rw [h0]
  exact⟨rfl,rfl⟩
theorem MapK.look (h:MapK C w b n f) (ht:P.underlying t=some (.map K e)) {z:Value} (hz:(zeroValue e).run P w=.ok z w) (k:κ) (hs:C.ok k) :
  (Instr.lookup t (.map (some b)) (C.val k) true).run P w=.ok (.tuple #[(f k).getD z,.bool (f k).isSome]) w∧(Instr.lookup t (.map (some b)) (C.val k) false).run P w=.ok ((f k).getD z) w:=by
 obtain⟨D,h1,h2,_⟩:=h
 rw [h2 k hs]
 exact lookK_at h1 ht hz k hs
theorem lookK_put [DecidableEq κ] {D:DataW Value} (hD:Maps.IsMap D) {k:κ} (hk:C.ok k) (v:Value) {z:κ} (hz:C.ok z):lookK (D.put (C.lit k) (.held v)) (C.lit z)=updK (fun z=>lookK D (C.lit z)) k v z:=by
 unfold updK
 by_cases h9:z=k
 ·subst h9
  rw [if_pos rfl]
  unfold lookK
  rw [Maps.has_put_same hD (C.isKey hk),if_pos rfl,Maps.atKey_put_same hD (C.isKey hk)];rfl
 ·rw [if_neg h9]
  unfold lookK
  have hne:C.lit z≠C.lit k:=fun e=>h9 (C.inj hz hk e)
  rw [Maps.has_put_other hne,Maps.atKey_put_other hne]
theorem lookK_del [DecidableEq κ] (D:DataW Value) {k:κ} (hk:C.ok k) {z:κ} (hz:C.ok z):lookK (D.del (C.lit k)) (C.lit z)=delK (fun z=>lookK D (C.lit z)) k z:=by
 unfold delK
 by_cases h9:z=k
 ·subst h9
  rw [if_pos rfl]
  unfold lookK
  rw [Maps.has_del_same];rfl
 ·rw [if_neg h9]
  unfold lookK
  have hne:C.lit z≠C.lit k:=fun e=>h9 (C.inj hz hk e)
  rw [Maps.has_del_other hne,Maps.atKey_del_other hne]
theorem MapK.store [DecidableEq κ] (h:MapK C w b n f) (ht:P.underlying t=some (.map K e)) (hn:n<maxLen) (k:κ) (hs:C.ok k) (v:Value) :
  ∃ w',(Instr.mapUpdate t (.map (some b)) (C.val k) v).run P w=.ok () w'∧MapK C w' b (n+1) (updK f k v)∧w.mapTurned w' b:=by
 obtain⟨D,h1,h2,h4⟩:=h
 obtain⟨w',r1,r2,r3⟩:=h1.store C.keyed ht hn (C.key k hs) (val:=v) (d:=.held v) (ps:=[]) rfl
 refine⟨w',r1,⟨_,r2,fun z hz=>?_,fun z hz=>?_⟩,r3⟩
 ·rw [lookK_put h1.isMap hs v hz]
  unfold updK
  rw [h2 z hz]
 ·by_cases h9:z=k
  ·rw [h9];exact hs
  ·rw [updK_other f v h9] at hz;exact h4 z hz
theorem MapK.drop [DecidableEq κ] (h:MapK C w b n f) (ht:P.underlying t=some (.map K e)) (k:κ) (hs:C.ok k) (ty:TypeId) :
  ∃ w',(Builtin.delete_ #[t,K] ty #[.map (some b),C.val k]).run P w=.ok (.tuple #[]) w'∧MapK C w' b n (delK f k)∧w.mapTurned w' b:=by
 obtain⟨D,h1,h2,h4⟩:=h
 obtain⟨w',r1,r2,r3⟩:=h1.drop C.keyed ht (C.key k hs) ty
 refine⟨w',r1,⟨_,r2,fun z hz=>?_,fun z hz=>?_⟩,r3⟩
 ·rw [lookK_del D hs hz]
  unfold delK
  rw [h2 z hz]
 ·by_cases h9:z=k
  ·rw [h9];exact hs
  ·rw [delK_other f h9] at hz;exact h4 z hz
theorem MapK.keys (h:MapK C w b n f):∃ ks:List κ,ks.Nodup∧(∀ k,k∈ks↔(f k).isSome=true)∧ks.length≤n∧∀ (t e ty:TypeId),P.underlying t=some (.map K e)→(Builtin.len_ #[t] ty #[.map (some b)]).run P w=.ok (.int .i64 ks.length) w:=by
 obtain⟨D,h1,h2,h4⟩:=h
 obtain⟨es,hD,hap,hkk⟩:=h1.entries C.keyed
 obtain⟨ms,clock,hb,F,hs,hD2⟩:=id h1
 have hform:∀ p∈es,∃ k v,C.ok k∧p=(C.lit k,.held v):=fun p hp=>by
  have hp2:p∈(ms.toList.map (rg P K rawE)).foldr DataW.insert []:=by
   have:=hD.symm.trans hD2
   injection this with this
   rw [←this];exact hp
  obtain⟨x,hx,hx2⟩:=List.mem_map.1 (mem_sorted.1 hp2)
  obtain⟨y,hy⟩:=F.reads x hx
  obtain⟨k,hk1,hk2,hk3⟩:=C.back (rd_key hy)
  obtain⟨z,hz,hz2⟩:=rd_val hy
  rw [rg_of hy] at hx2
  refine⟨k,x.val,hk1,?_⟩
  rw [←hx2]
  refine Prod.ext hk3 ?_
  rw [hz2]
  unfold rawE at hz
  rw [←Option.some.inj hz]
 have hall:∃ ks:List κ,(∀ k∈ks,C.ok k)∧es.map Prod.fst=ks.map C.lit:=by
  clear hD hap hkk hD2
  induction es with
  | nil=>exact⟨[],fun _ h=>(by cases h),rfl⟩
  | cons p r ih=>
   obtain⟨k,v,hk,rfl⟩:=hform p (List.mem_cons_self ..)
   obtain⟨ks,g1,g2⟩:=ih fun p hp=>hform p (List.mem_cons_of_mem _ hp)
   refine⟨k :: ks,fun z hz=>?_,by rw [List.map_cons,List.map_cons,g2]⟩
   rcases List.mem_cons.1 hz with rfl | hz
   ·exact hk
   ·exact g1 z hz
 obtain⟨ks,hks,hmap⟩:=hall
 have hlen:ks.length=es.length:=by have:=congrArg List.length hmap;simpa using this.symm
 refine⟨ks,?_,fun k=>?_,?_,fun t e ty ht=>?_⟩
 ·have h9:(es.map Prod.fst).Pairwise (·≠·):=by rw [List.pairwise_map];exact hap.imp fun h=>h
  rw [hmap,List.pairwise_map] at h9
  rw [List.nodup_iff_pairwise_ne]
  exact h9.imp fun h e=>h (by rw [e])
 ·have hhas:C.ok k→(Maps.has D (C.lit k)=true↔k∈ks):=fun hok=>by
   rw [hD,Maps.has_eq,List.any_eq_true]
   constructor
   ·rintro ⟨p,h1,h2⟩
    have h3:p.1=C.lit k:=WideAt.sameKey_eq h2
    have h5:C.lit k∈ks.map C.lit:=by rw [←hmap,←h3];exact List.mem_map.2 ⟨p,h1,rfl⟩
    obtain⟨z,hz,he⟩:=List.mem_map.1 h5
    rw [←C.inj (hks z hz) hok he];exact hz
   ·intro hm
    have h5:C.lit k∈es.map Prod.fst:=by rw [hmap];exact List.mem_map.2 ⟨k,hm,rfl⟩
    obtain⟨p,hp,he⟩:=List.mem_map.1 h5
    exact⟨p,hp,by rw [he];exact WideAt.sameKey_self (C.isKey hok)⟩
  constructor
  ·intro hm
   have hok:=hks k hm
   rw [h2 k hok]
   have hh:=(hhas hok).2 hm
   have hh2:=hh
   rw [hD] at hh2
   obtain⟨q,hq,hq2⟩:=atKey_mem hh2
   obtain⟨k2,v2,_,rfl⟩:=hform q hq
   unfold lookK
   rw [hD,if_pos hh2,hq2];rfl
  ·intro hm
   have hok:=h4 k hm
   rw [h2 k hok] at hm
   unfold lookK at hm
   by_cases hh:Maps.has D (C.lit k)=true
   ·exact (hhas hok).1 hh
   ·rw [if_neg hh] at hm;cases hm
 ·rw [hlen]
  have:=h1.size_le
  rw [hD,Maps.size_eq] at this
  exact this
 ·rw [h1.len ht ty,hD,Maps.size_eq,hlen]
end
end Go.Proofs.YtnnceaapodgfbaaGreatDoor
namespace Go.Proofs.YtnnceaapodgfbaaGreatDoor
open Go.RowKit Go.ChangeMaps Go.MapKept Go.WideMaps
open Go.WideElems (Fit rd rg pl rd_val rd_key rg_of rd_mk other_key)
open Go.Maps (Keyed)
section
variable {P : Program} (w : World) {ops : Array Oper} {rest : List Oper} {o : Oper} {a : Act} {Q : Exit → Act → World → Prop}
end
section
variable {P : Program} {K e t : TypeId} {w w' : World} {b r n cnt : Nat} {f : KB → Option Value} {left : KB → Bool}
end
section
variable {P : Program} (w : World) {ops : Array Oper} {rest : List Oper} {o : Oper} {a : Act} {Q : Exit → Act → World → Prop}
end
end Go.Proofs.YtnnceaapodgfbaaGreatDoor
namespace Go.Proofs.YtnnceaapodgfbaaGreatDoor
open Go.RowKit Go.ChangeMaps Go.MapKept Go.WideMaps
open Go.WideElems (Fit rd rg pl rd_val rd_key rg_of rd_mk other_key)
open Go.Maps (Keyed)
variable {κ : Type}
section
variable {P : Program} {K : TypeId} {C : KeyCode P K κ} (w : World) {ops : Array Oper} {rest : List Oper} {o : Oper} {a : Act} {Q : Exit → Act → World → Prop}
end
def RangeK {P:Program} {K:TypeId} (C:KeyCode P K κ) (w:World) (b r n:Nat) (f:κ→Option Value) (left:κ→Bool) (cnt:Nat):Prop:=
 ∃ (D:DataW Value) (L:Lit→Bool),w.ranges P K rawE b r n D L cnt∧((∀ k,C.ok k→f k=lookK D (C.lit k))∧∀ k,(f k).isSome=true→C.ok k)∧(∀ k,C.ok k→left k=L (C.lit k))∧∀ k,left k=true→C.ok k
theorem lookK_has {P:Program} {K:TypeId} {w:World} {b n:Nat} {D:DataW Value} (h:w.ownsMap P K rawE b n D) (k:Lit):(lookK D k).isSome=Maps.has D k:=by
 cases hh:Maps.has D k with
 | false=>unfold lookK;rw [hh];rfl
 | true=>
  obtain⟨ms,clock,hb,F,hs,hD2⟩:=h
  have hh2:=hh
  rw [hD2] at hh2
  obtain⟨q,hq,hq2⟩:=atKey_mem hh2
  obtain⟨x,hx,hx2⟩:=List.mem_map.1 (mem_sorted.1 hq)
  obtain⟨y,hy⟩:=F.reads x hx
  obtain⟨z,hz,hz2⟩:=rd_val hy
  rw [rg_of hy] at hx2
  unfold lookK
  rw [hD2,if_pos hh2,hq2,←hx2,hz2]
  unfold rawE at hz
  rw [←Option.some.inj hz];rfl
section
variable {P : Program} {K e t : TypeId} {C : KeyCode P K κ} {w w' : World} {b r n cnt : Nat} {f : κ → Option Value} {left : κ → Bool}
theorem RangeK.map (h:RangeK C w b r n f left cnt):MapK C w b n f:=let ⟨D,_,h1,h2,_⟩:=h;⟨D,h1.owns,h2⟩
theorem RangeK.ne (h:RangeK C w b r n f left cnt):r≠b:=let ⟨_,_,h1,_⟩:=h;h1.ne
theorem RangeK.lt (h:RangeK C w b r n f left cnt):r<w.heap.size:=let ⟨_,_,h1,_⟩:=h;h1.lt
theorem RangeK.kept {row:Option Nat} (h:RangeK C w b r n f left cnt) (hg:w.grownBy w' row) (hb:some b≠row) (hr:some r≠row):RangeK C w' b r n f left cnt:=let ⟨D,L,h1,h2⟩:=h;⟨D,L,h1.kept hg hb hr,h2⟩
theorem RangeK.block (h:RangeK C w b r n f left cnt) (hb:w'.heap[b]? = w.heap[b]?) (hr:w'.heap[r]? = w.heap[r]?):RangeK C w' b r n f left cnt:=by
 obtain⟨D,L,⟨es,clock,since,seen,c0,h1,h3,h4,h5,h6,h7⟩,h2⟩:=h
 exact⟨D,L,⟨es,clock,since,seen,c0,hb.trans h1,h3,h4,h5,hr.trans h6,h7⟩,h2⟩
theorem RangeK.belowW (h:RangeK C w b r n f left cnt) (hb:Below w.heap.size w w'):RangeK C w' b r n f left cnt:=h.block (hb.block b h.map.lt) (hb.block r h.lt)
theorem MapK.range (h:MapK C w b n f) (ht:P.underlying t=some (.map K e)) :
  ∃ w',(Instr.range t (.map (some b))).run P w=.ok (.pointer (some ⟨w.heap.size,0,none⟩)) w'∧(∃ cnt,RangeK C w' b w.heap.size n f (fun k=>(f k).isSome) cnt)∧w.grownBy w' none∧w'.heap.size=w.heap.size+1:=by
 obtain⟨D,h1,h2⟩:=h
 obtain⟨w',r1,r2,r3,r4⟩:=h1.range C.keyed ht
 exact⟨w',r1,⟨_,D,_,r2,h2,fun k hk=>by show (f k).isSome=_;rw [h2.1 k hk,lookK_has h1],fun k hk=>h2.2 k hk⟩,r3,r4⟩
theorem RangeK.next [DecidableEq κ] (h:RangeK C w b r n f left cnt) (ty:TypeId) :
  ((∀ k,left k=false)∧(Instr.next (.pointer (some ⟨r,0,none⟩)) false ty).run P w=.ok (.tuple #[.bool false]) w)∨
  ∃ (s:κ) (v:Value) (w':World) (cnt':Nat),C.ok s∧left s=true∧f s=some v∧(Instr.next (.pointer (some ⟨r,0,none⟩)) false ty).run P w=.ok (.tuple #[.bool true,C.val s,v]) w'∧
   RangeK C w' b r n f (fun k=>left k && !decide (k=s)) cnt'∧cnt'<cnt∧w.grownBy w' (some r)∧w'.heap.size=w.heap.size∧(Instr.entry (.pointer (some ⟨r,0,none⟩))).run P w'=.ok (.tuple #[C.val s,v]) w':=by
 obtain⟨D,L,h1,h2,h3,h8⟩:=h
 rcases h1.next C.keyed ty with ⟨_,hl,hrun⟩ | ⟨key,v,kl,y,w',cnt',hkey,hlk,hv,hat,hrun,hrg,hlt,hgr,hsz,hen⟩
 ·refine .inl ⟨fun k=>?_,hrun⟩
  cases hk:left k with
  | false=>rfl
  | true=>
   have:=h3 k (h8 k hk)
   rw [hk,hl _] at this;cases this
 ·obtain⟨s,hs,rfl,rfl⟩:=C.back hkey
  refine .inr ⟨s,v,w',cnt',hs,by rw [h3 s hs];exact hlk,?_,hrun,⟨D,_,hrg,h2,fun k hk=>?_,fun k hk=>h8 k (by rw [Bool.and_eq_true] at hk;exact hk.1)⟩,hlt,hgr,hsz,hen⟩
  ·have hy:y.1=.held v:=by unfold rawE at hv;rw [←Option.some.inj hv]
   have hh:Maps.has D (C.lit s)=true:=by
    cases hh:Maps.has D (C.lit s) with
    | true=>rfl
    | false=>
     have h4:=hat .nil
     rw [Maps.atKey_of_not_has hh,hy] at h4
     cases h4
   rw [h2.1 s hs]
   unfold lookK
   rw [if_pos hh,hat,hy];rfl
  ·show (left k && _)=(L (C.lit k) && _)
   rw [h3 k hk,C.same hk hs]
end
section
variable {P : Program} {K : TypeId} {C : KeyCode P K κ} (w : World) {ops : Array Oper} {rest : List Oper} {o : Oper} {a : Act} {Q : Exit → Act → World → Prop}
theorem wpList_range_mapK (hg:o.guard=none) (m:Operand) (t:TypeId) (hop:o.op=Op.range t m) (e:TypeId) (ht:P.underlying t=some (.map K e)) (b n:Nat) (f:κ→Option Value)
  (hm:a.eval m=.map (some b)) (h:MapK C w b n f)
  (hK:∀ w' cnt,RangeK C w' b w.heap.size n f (fun k=>(f k).isSome) cnt→w.grownBy w' none→w'.heap.size=w.heap.size+1→wpList P ops Q rest (a.put o.dst (.pointer (some ⟨w.heap.size,0,none⟩))) w') :
  wpList P ops Q (o :: rest) a w:=by
 refine wpList_plain hg fun K' hK'=>?_
 obtain⟨w',hrun,⟨cnt,r1⟩,r2,r3⟩:=h.range ht
 unfold Oper.wp
 simp [execOp,hop,hm,hrun,Result.andThen]
 exact hK' _ _ (hK w' cnt r1 r2 r3)
theorem wpList_next_rangeK [DecidableEq κ] (hg:o.guard=none) (it:Operand) (hop:o.op=Op.next it false) (b r n:Nat) (f:κ→Option Value) (left:κ→Bool) (cnt:Nat)
  (hit:a.eval it=.pointer (some ⟨r,0,none⟩)) (h:RangeK C w b r n f left cnt)
  (hDone:(∀ k,left k=false)→wpList P ops Q rest (a.put o.dst (.tuple #[.bool false])) w)
  (hMore:∀ (s:κ) (v:Value) (w':World) (cnt':Nat),C.ok s→left s=true→f s=some v→RangeK C w' b r n f (fun k=>left k && !decide (k=s)) cnt'→cnt'<cnt→
   w.grownBy w' (some r)→w'.heap.size=w.heap.size→(Instr.entry (.pointer (some ⟨r,0,none⟩))).run P w'=.ok (.tuple #[C.val s,v]) w'→wpList P ops Q rest (a.put o.dst (.tuple #[.bool true,C.val s,v])) w') :
  wpList P ops Q (o :: rest) a w:=by
 refine wpList_plain hg fun K' hK'=>?_
 unfold Oper.wp
 rcases h.next o.type with ⟨hl,hrun⟩ | ⟨s,v,w',cnt',hs,hlk,hv,hrun,hrg,hlt,hgr,hsz,hen⟩
 ·simp [execOp,hop,hit,hrun,Result.andThen]
  exact hK' _ _ (hDone hl)
 ·simp [execOp,hop,hit,hrun,Result.andThen]
  exact hK' _ _ (hMore s v w' cnt' hs hlk hv hrg hlt hgr hsz hen)
end
end Go.Proofs.YtnnceaapodgfbaaGreatDoor
namespace Go.Proofs.YtnnceaapodgfbaaGreatDoor
open Go.RowKit Go.ChangeShapes Go.WideShapes
structure GEvent where
 kind:Int
 rev:Int
 object:GObject
def EventR:Rd GEvent:=fun w cs x=>∃ (c2:List Value),cs = [.int .i64 x.kind,.int .i64 x.rev]++c2∧(Lit.int .i64 x.kind).wf=true∧(Lit.int .i64 x.rev).wf=true∧ObjectR w c2 x.object
def eventB (x:GEvent):Nat:=(1+(1+(objectB x.object+0)))+1
set_option maxRecDepth 10000 in
theorem opens_event:Opens Tryz.prog 56 EventR eventB:=by
 intro H enc w base spare held fuel cs x h
 obtain⟨xs,n,_,rfl,hl,hx,hf⟩:=DataW.trod_struct Tryz.underlying56 h
 have hl2:cs.length=12:=hl.trans (by kernel_rfl)
 clear hl h
 match cs,hl2,xs,hx,hf with
 | [c0,c1,c2,c3,c4,c5,c6,c7,c8,c9,c10,c11],_,[x0,x1,x2],_,hf=>
  obtain⟨a0,r0,m0⟩:=(opens_int Tryz.underlying3).at (o:=0) (cs:=[c0,c1,c2,c3,c4,c5,c6,c7,c8,c9,c10,c11]) (ds:=[c0]) (x:=x0) (hf 0 _ rfl) (k:=1) (by kernel_rfl) rfl
  obtain⟨a1,r1,m1⟩:=(opens_int Tryz.underlying3).at (o:=1) (cs:=[c0,c1,c2,c3,c4,c5,c6,c7,c8,c9,c10,c11]) (ds:=[c1]) (x:=x1) (hf 1 _ rfl) (k:=1) (by kernel_rfl) rfl
  obtain⟨a2,r2,m2⟩:=(opens_object).at (o:=2) (cs:=[c0,c1,c2,c3,c4,c5,c6,c7,c8,c9,c10,c11]) (ds:=[c2,c3,c4,c5,c6,c7,c8,c9,c10,c11]) (x:=x2) (hf 2 _ rfl) (k:=10) (by kernel_rfl) rfl
  clear hf
  obtain⟨r0,w0⟩:=r0
  obtain rfl:c0=.int .i64 a0:=by simpa using r0
  obtain⟨r1,w1⟩:=r1
  obtain rfl:c1=.int .i64 a1:=by simpa using r1
  refine⟨⟨a0,a1,a2⟩,⟨[c2,c3,c4,c5,c6,c7,c8,c9,c10,c11],rfl,w0,w1,r2⟩,?_⟩
  simp only [List.map_cons,List.map_nil,Rows.uptoBulk,Rows.uptoBulkAll,eventB]
  omega
structure GStoreStep where
 kind:Int
 rev:Int
 o:GObject
def StoreStepR:Rd GStoreStep:=fun w cs x=>∃ (c2:List Value),cs = [.int .i64 x.kind,.int .i64 x.rev]++c2∧(Lit.int .i64 x.kind).wf=true∧(Lit.int .i64 x.rev).wf=true∧ObjectR w c2 x.o
def storeStepB (x:GStoreStep):Nat:=(1+(1+(objectB x.o+0)))+1
set_option maxRecDepth 10000 in
theorem opens_storeStep:Opens Tryz.prog 40 StoreStepR storeStepB:=by
 intro H enc w base spare held fuel cs x h
 obtain⟨xs,n,_,rfl,hl,hx,hf⟩:=DataW.trod_struct Tryz.underlying40 h
 have hl2:cs.length=12:=hl.trans (by kernel_rfl)
 clear hl h
 match cs,hl2,xs,hx,hf with
 | [c0,c1,c2,c3,c4,c5,c6,c7,c8,c9,c10,c11],_,[x0,x1,x2],_,hf=>
  obtain⟨a0,r0,m0⟩:=(opens_int Tryz.underlying3).at (o:=0) (cs:=[c0,c1,c2,c3,c4,c5,c6,c7,c8,c9,c10,c11]) (ds:=[c0]) (x:=x0) (hf 0 _ rfl) (k:=1) (by kernel_rfl) rfl
  obtain⟨a1,r1,m1⟩:=(opens_int Tryz.underlying3).at (o:=1) (cs:=[c0,c1,c2,c3,c4,c5,c6,c7,c8,c9,c10,c11]) (ds:=[c1]) (x:=x1) (hf 1 _ rfl) (k:=1) (by kernel_rfl) rfl
  obtain⟨a2,r2,m2⟩:=(opens_object).at (o:=2) (cs:=[c0,c1,c2,c3,c4,c5,c6,c7,c8,c9,c10,c11]) (ds:=[c2,c3,c4,c5,c6,c7,c8,c9,c10,c11]) (x:=x2) (hf 2 _ rfl) (k:=10) (by kernel_rfl) rfl
  clear hf
  obtain⟨r0,w0⟩:=r0
  obtain rfl:c0=.int .i64 a0:=by simpa using r0
  obtain⟨r1,w1⟩:=r1
  obtain rfl:c1=.int .i64 a1:=by simpa using r1
  refine⟨⟨a0,a1,a2⟩,⟨[c2,c3,c4,c5,c6,c7,c8,c9,c10,c11],rfl,w0,w1,r2⟩,?_⟩
  simp only [List.map_cons,List.map_nil,Rows.uptoBulk,Rows.uptoBulkAll,storeStepB]
  omega
end Go.Proofs.YtnnceaapodgfbaaGreatDoor
namespace Go.Proofs.YtnnceaapodgfbaaGreatDoor
open Go
namespace JP
abbrev Bs:=List UInt8
inductive JV where
 | nul
 | bool (b:Bool)
 | num (n:Int)
 | str (s:Bs)
 | list (l:List JV)
 | obj (l:List (Bs × JV))
theorem JV.both {P:JV→Prop} {PL:List JV→Prop} {PF:List (Bs × JV)→Prop}
  (h0:P .nul) (h1:∀ b,P (.bool b)) (h2:∀ n,P (.num n)) (h3:∀ s,P (.str s)) (h4:∀ l,PL l→P (.list l)) (h5:∀ l,PF l→P (.obj l))
  (h6:PL []) (h7:∀ v r,P v→PL r→PL (v :: r)) (h8:PF []) (h9:∀ n v r,P v→PF r→PF ((n,v) :: r)):(∀ v,P v)∧(∀ l,PL l)∧∀ l,PF l:=by
 have a:∀ v,P v:=fun v=>JV.rec (motive_1:=P) (motive_2:=PL) (motive_3:=PF) (motive_4:=fun x=>P x.2) h0 h1 h2 h3 h4 h5 h6 (fun v r a b=>h7 v r a b) h8 (fun x r a b=>h9 x.1 x.2 r a b) (fun _ _ h=>h) v
 refine⟨a,fun l=>?_,fun l=>?_⟩
 ·induction l with
  | nil=>exact h6
  | cons v r ih=>exact h7 v r (a v) ih
 ·induction l with
  | nil=>exact h8
  | cons x r ih=>exact h9 x.1 x.2 r (a x.2) ih
def escB (c:UInt8):Bs:=if c=34∨c=92 then [92,c] else if c=10 then [92,110] else if c=9 then [92,116] else [c]
def quote (s:Bs):Bs:=34 :: (s.flatMap escB++[34])
mutual
def text:JV→Bs
 | .nul=>[110,117,108,108]
 | .bool b=>if b=true then [116,114,117,101] else [102,97,108,115,101]
 | .num n=>Lib.itoa n
 | .str s=>quote s
 | .list l=>91 :: (Lib.join (textL l) [44]++[93])
 | .obj l=>123 :: (Lib.join (textF l) [44]++[125])
termination_by structural x=>x
def textL:List JV→List Bs
 | []=>[]
 | v :: r=>text v :: textL r
termination_by structural x=>x
def textF:List (Bs × JV)→List Bs
 | []=>[]
 | (n,v) :: r=>(quote n++58 :: text v) :: textF r
termination_by structural x=>x
end
mutual
def size:JV→Nat
 | .list l=>1+sizeL l
 | .obj l=>1+sizeF l
 | .nul=>1
 | .bool _=>1
 | .num _=>1
 | .str _=>1
termination_by structural x=>x
def sizeL:List JV→Nat
 | []=>0
 | v :: r=>size v+sizeL r
termination_by structural x=>x
def sizeF:List (Bs × JV)→Nat
 | []=>0
 | (_,v) :: r=>size v+sizeF r
termination_by structural x=>x
end
mutual
def deep:JV→Nat
 | .list l=>deepL l+1
 | .obj l=>deepF l+1
 | .nul=>0
 | .bool _=>0
 | .num _=>0
 | .str _=>0
termination_by structural x=>x
def deepL:List JV→Nat
 | []=>0
 | v :: r=>max (deep v) (deepL r)
termination_by structural x=>x
def deepF:List (Bs × JV)→Nat
 | []=>0
 | (_,v) :: r=>max (deep v) (deepF r)
termination_by structural x=>x
end
def kind:JV→Int
 | .nul=>1
 | .bool _=>2
 | .num _=>3
 | .str _=>4
 | .list _=>5
 | .obj _=>6
def stand (c:UInt8):Bool:=(decide (32≤c) && decide (c≤126)) || c == 10 || c == 9
def put (n:Bs) (v:JV):List (Bs × JV)→List (Bs × JV)
 | []=>[(n,v)]
 | (m,x) :: r=>if m<n then (m,x) :: put n v r else if m=n then (n,v) :: r else (n,v) :: (m,x) :: r
def get (n:Bs):List (Bs × JV)→Option JV
 | []=>none
 | (m,x) :: r=>if m=n then some x else get n r
def cut (n:Bs) (l:List (Bs × JV)):List (Bs × JV):=l.filter fun x=>x.1 != n
def Srt (l:List (Bs × JV)):Prop:=l.Pairwise fun a b=>a.1<b.1
def numOK (n:Int):Prop:=-1000000000000000000<n∧n<1000000000000000000
mutual
def wf:JV→Prop
 | .nul=>True
 | .bool _=>True
 | .num n=>numOK n
 | .str s=>s.all stand=true
 | .list l=>wfL l
 | .obj l=>Srt l∧wfF l
termination_by structural x=>x
def wfL:List JV→Prop
 | []=>True
 | v :: r=>wf v∧wfL r
termination_by structural x=>x
def wfF:List (Bs × JV)→Prop
 | []=>True
 | (n,v) :: r=>n.all stand=true∧wf v∧wfF r
termination_by structural x=>x
end
inductive Fr where
 | lst (d:List JV)
 | ob (d:List (Bs × JV)) (n:Bs)
inductive R where
 | bad (e:Int)
 | whole (v:JV) (r:Bs) (m:Nat) (st:List Fr)
 | more (r:Bs) (m:Nat) (st:List Fr)
def blank (c:UInt8):Bool:=c == 32 || c == 9 || c == 10
def skip (r:Bs):Bs:=r.dropWhile blank
def digit (c:UInt8):Bool:=decide (48≤c) && decide (c≤57)
def escV (c:UInt8):Option UInt8:=if c=34∨c=92 then some c else if c=110 then some 10 else if c=116 then some 9 else none
def textP:Bs→Option (Bs × Bs)
 | []=>none
 | 34 :: r=>some ([],r)
 | 92 :: []=>none
 | 92 :: d :: r=>match escV d with
  | none=>none
  | some c=>(textP r).map fun x=>(c :: x.1,x.2)
 | c :: r=>if c<32∨126<c then none else (textP r).map fun x=>(c :: x.1,x.2)
def sgn (r:Bs):Bs:=match r with
 | 45 :: t=>t
 | _=>r
def negB (r:Bs):Bool:=match r with
 | 45 :: _=>true
 | _=>false
def digs (r:Bs):Bs:=(sgn r).takeWhile digit
def decV (ds:Bs):Nat:=(Lib.decFrom 0 ds).getD 0
def numV (r:Bs):Int:=if negB r=true then -(decV (digs r):Int) else (decV (digs r):Int)
def numR (r:Bs):Bs:=(sgn r).dropWhile digit
def numE (r:Bs):Int:=match digs r with
 | []=>3
 | c :: t=>if c=48∧(t≠[]∨negB r=true) then 3 else if 18<(c :: t).length then 2 else 0
def wordP (v:JV) (p:Bs) (r:Bs) (m:Nat) (st:List Fr):R:=if p.isPrefixOf r=true then .whole v (r.drop p.length) m st else .bad 3
def plainP (c:UInt8) (r:Bs) (m:Nat) (st:List Fr):R:=
 if c=34 then match textP r.tail with
  | none=>.bad 3
  | some x=>.whole (.str x.1) x.2 m st
 else if c=116 then wordP (.bool true) [116,114,117,101] r m st
 else if c=102 then wordP (.bool false) [102,97,108,115,101] r m st
 else if c=110 then wordP .nul [110,117,108,108] r m st
 else if numE r=0 then .whole (.num (numV r)) (numR r) m st else .bad (numE r)
def fieldN (r:Bs) (m:Nat) (d:List (Bs × JV)) (st:List Fr) (n t:Bs):R:=
 if (get n d).isSome=true then .bad 5 else match skip t with
  | []=>.bad 3
  | c :: t'=>if c=58 then .more t' m (.ob d n :: st) else .bad 3
def fieldP (r : Bs) (m : Nat) (d : List (Bs × JV)) (st : List Fr) : R := match skip r with
  | [] => .bad 3
  | c :: t => if c = 34 then match textP t with
      | none => .bad 3
      | some x => fieldN r m d st x.1 x.2
    else .bad 3
def starts (c:UInt8):Bool:=c == 91 || c == 123 || c == 34 || c == 45 || c == 116 || c == 102 || c == 110 || digit c
def beginC (c:UInt8) (t:Bs) (m:Nat) (st:List Fr):R:=
 if starts c=false then .bad 3
 else if 200<m+1 then .bad 2
 else if (c=91∨c=123)∧st.length=10 then .bad 4
 else if c=91 then if (skip t).head? = some 93 then .whole (.list []) (skip t).tail (m+1) st else .more (skip t) (m+1) (.lst [] :: st)
 else if c=123 then if (skip t).head? = some 125 then .whole (.obj []) (skip t).tail (m+1) st else fieldP (skip t) (m+1) [] st
 else plainP c (c :: t) (m+1) st
def beginP (r:Bs) (m:Nat) (st:List Fr):R:=match skip r with
 | []=>.bad 3
 | c :: t=>beginC c t m st
def goesP (v:JV) (r:Bs) (m:Nat) (f:Fr) (st:List Fr):R:=match f with
 | .lst d=>match skip r with
  | []=>.bad 3
  | c :: t=>if c=93 then .whole (.list (d++[v])) t m st else if c=44 then .more t m (.lst (d++[v]) :: st) else .bad 3
 | .ob d n=>match skip r with
  | []=>.bad 3
  | c :: t=>if c=125 then .whole (.obj (put n v d)) t m st else if c=44 then fieldP t m (put n v d) st else .bad 3
def mu:R→Nat
 | .bad _=>0
 | .more r _ _=>2*r.length+1
 | .whole _ r _ _=>2*r.length+2
theorem skip_le (r:Bs):(skip r).length≤r.length:=(List.dropWhile_sublist _).length_le
theorem skip_cons {r t:Bs} {c:UInt8} (h:skip r=c :: t):t.length+1≤r.length:=by have:=skip_le r;rw [h] at this;simpa using this
theorem textP_len:∀ (r:Bs) (x:Bs × Bs),textP r=some x→x.2.length+1≤r.length:=by
 intro r
 induction r using textP.induct with
 | case1=>intro x h;simp [textP] at h
 | case2 r=>intro x h;simp only [textP,Option.some.injEq] at h;subst h;simp
 | case3=>intro x h;simp [textP] at h
 | case4 d r hd=>intro x h;simp [textP,hd] at h
 | case5 d r c hd ih=>
  intro x h
  simp only [textP,hd] at h
  obtain⟨y,hy,rfl⟩:=Option.map_eq_some_iff.1 h
  have:=ih y hy
  simp only [List.length_cons]
  omega
 | case6 c r h1 h2 h3 h4=>intro x h;rw [textP] at h<;>simp_all
 | case7 c r h1 h2 h3 h4 ih=>
  intro x h
  rw [textP] at h
  ·rw [if_neg h4] at h
   obtain⟨y,hy,rfl⟩:=Option.map_eq_some_iff.1 h
   have:=ih y hy
   simp only [List.length_cons]
   omega
  all_goals simp_all
theorem field_mu (r:Bs) (m:Nat) (d:List (Bs × JV)) (st:List Fr):mu (fieldP r m d st)<2*r.length+1:=by
 unfold fieldP
 split
 ·simp [mu]
 ·rename_i c t h
  have h1:=skip_cons h
  split
  ·split
   ·simp [mu]
   ·rename_i x hx
    have h2:=textP_len _ _ hx
    unfold fieldN
    split
    ·simp [mu]
    ·split
     ·simp [mu]
     ·rename_i c' t' h'
      have h3:=skip_cons h'
      split
      ·simp only [mu];omega
      ·simp [mu]
  ·simp [mu]
theorem sgn_le (r:Bs):(sgn r).length≤r.length:=by unfold sgn;split<;>simp
theorem numR_lt {r:Bs} (h:numE r=0):(numR r).length+1≤r.length:=by
 have h1:=sgn_le r
 have h2:(digs r).length+(numR r).length=(sgn r).length:=by
  unfold digs numR
  rw [←List.length_append,List.takeWhile_append_dropWhile]
 unfold numE at h
 split at h
 ·cases h
 ·rename_i c t hd
  rw [hd] at h2
  simp at h2
  omega
theorem word_mu {v:JV} {p r:Bs} {m:Nat} {st:List Fr} (hp:0<p.length):mu (wordP v p r m st)<2*r.length+1:=by
 unfold wordP
 split
 ·rename_i h
  have:=(List.isPrefixOf_iff_prefix.1 h).length_le
  simp only [mu,List.length_drop]
  omega
 ·simp [mu]
theorem plain_mu (c:UInt8) (t:Bs) (m:Nat) (st:List Fr):mu (plainP c (c :: t) m st)<2*(t.length+1)+1:=by
 unfold plainP
 split
 ·split
  ·simp [mu]
  ·rename_i x hx
   have:=textP_len _ _ hx
   simp only [mu,List.tail_cons] at this ⊢
   omega
 ·split
  ·exact word_mu (r:=c :: t) (by decide)
  ·split
   ·exact word_mu (r:=c :: t) (by decide)
   ·split
    ·exact word_mu (r:=c :: t) (by decide)
    ·split
     ·rename_i h
      have:=numR_lt h
      simp only [mu,List.length_cons] at this ⊢
      omega
     ·simp [mu]
theorem begin_mu (r:Bs) (m:Nat) (st:List Fr):mu (beginP r m st)<mu (.more r m st):=by
 unfold beginP
 split
 ·simp [mu]
 ·rename_i c t h
  have h1:=skip_cons h
  have h2:=skip_le t
  have h3:=List.length_tail (l:=skip t)
  unfold beginC
  split
  ·simp [mu]
  ·split
   ·simp [mu]
   ·split
    ·simp [mu]
    ·split
     ·split<;>(simp only [mu];omega)
     ·split
      ·split
       ·simp only [mu];omega
       ·have:=field_mu (skip t) (m+1) [] st
        show _<2*r.length+1
        omega
      ·have:=plain_mu c t (m+1) st
       show _<2*r.length+1
       omega
theorem goes_mu (v:JV) (r:Bs) (m:Nat) (f:Fr) (st:List Fr):mu (goesP v r m f st)<mu (.whole v r m (f :: st)):=by
 unfold goesP
 split
 ·split
  ·simp [mu]
  ·rename_i c t h
   have h1:=skip_cons h
   split
   ·simp only [mu];omega
   ·split
    ·simp only [mu];omega
    ·simp [mu]
 ·split
  ·simp [mu]
  ·rename_i c t h
   have h1:=skip_cons h
   split
   ·simp only [mu];omega
   ·split
    ·refine Nat.lt_of_lt_of_le (field_mu t m _ st) ?_
     show _≤2*r.length+2
     omega
    ·simp [mu]
def fin (x:R):JV × Int:=match x with
 | .bad e=>(.nul,e)
 | .more r m st=>fin (beginP r m st)
 | .whole v r _ []=>if skip r = [] then (v,0) else (.nul,3)
 | .whole v r m (f :: st)=>fin (goesP v r m f st)
termination_by mu x
decreasing_by
 ·exact begin_mu _ _ _
 ·exact goes_mu _ _ _ _ _
def readL (s:Bs):JV × Int:=if 2000<s.length then (.nul,2) else fin (.more s 0 [])
theorem fin_bad (e:Int):fin (.bad e)=(.nul,e):=by rw [fin]
theorem fin_more (r:Bs) (m:Nat) (st:List Fr):fin (.more r m st)=fin (beginP r m st):=by rw [fin]
theorem fin_end (v:JV) (r:Bs) (m:Nat):fin (.whole v r m [])=if skip r = [] then (v,0) else (.nul,3):=by rw [fin]
theorem fin_whole (v:JV) (r:Bs) (m:Nat) (f:Fr) (st:List Fr):fin (.whole v r m (f :: st))=fin (goesP v r m f st):=by rw [fin]
end JP
end Go.Proofs.YtnnceaapodgfbaaGreatDoor
namespace Go.Proofs.YtnnceaapodgfbaaGreatDoor
open Go.RowKit
structure But (g:Nat) (w w':World):Prop where
 os:w'.os=w.os
 tape:w'.tape=w.tape
 output:w'.output=w.output
 size:w.heap.size≤w'.heap.size
 block:∀ k,k<w.heap.size→k≠g→w'.heap[k]? = w.heap[k]?
theorem But.refl (g:Nat) (w:World):But g w w:=⟨rfl,rfl,rfl,Nat.le_refl _,fun _ _ _=>rfl⟩
theorem But.trans {g:Nat} {a b c:World} (h:But g a b) (k:But g b c):But g a c:=
 ⟨k.os.trans h.os,k.tape.trans h.tape,k.output.trans h.output,Nat.le_trans h.size k.size,fun q hq hn=>(k.block q (Nat.lt_of_lt_of_le hq h.size) hn).trans (h.block q hq hn)⟩
theorem But.of {g:Nat} {w w':World} (h:Below w.heap.size w w'):But g w w':=⟨h.os,h.tape,h.output,h.size,fun k hk _=>h.block k hk⟩
theorem But.touch {g:Nat} {w w':World} (h:Touch g w w'):But g w w':=⟨h.os,h.tape,h.output,by rw [h.size];exact Nat.le_refl _,fun k _ hn=>h.other k hn⟩
theorem But.below {g B:Nat} {a w w':World} (h:But g w w') (hb:Below B a w) (hB:B≤w.heap.size) (hg:B≤g):Below B a w':=
 hb.trans ⟨h.os,h.tape,h.output,h.size,fun k hk=>h.block k (by omega) (by omega)⟩
theorem But.keep {g k:Nat} {w w':World} {x:Obj} (h:But g w w') (hx:w.heap[k]? = some x) (hn:k≠g):w'.heap[k]? = some x:=by
 have hb:k<w.heap.size:=by
  rcases Nat.lt_or_ge k w.heap.size with h1 | h1
  ·exact h1
  ·rw [Array.getElem?_eq_none h1] at hx;cases hx
 exact (h.block k hb hn).trans hx
theorem But.cell {g:Nat} {w w':World} {p:Addr} (h:But g w w') (hp:p.block<w.heap.size) (hn:p.block≠g):w'.cell? p=w.cell? p:=by
 unfold World.cell?
 rw [h.block _ hp hn]
section
variable {α : Type} {R : Rd α} {k : Nat} {e : TypeId} {v : Value} {l : List α} {B g : Nat} {w w' : World}
theorem OwnAt.but (hf:Flat R) (h:OwnAt R k w B e v l) (hb:But g w w') (hne:∀ q,v.ownBlock=some q→q≠g):OwnAt R k w' B e v l:=by
 obtain⟨css,h1,h2,h3,h4⟩:=h
 refine⟨css,h1,h2,⟨h3.1,?_⟩,fun j cs y hcs hy=>hf _ _ _ _ (h4 j cs y hcs hy)⟩
 rcases h3.2 with h5 | ⟨q,cap,cur,rfl,hB,hh,hr⟩
 ·exact .inl h5
 ·exact .inr ⟨q,cap,cur,rfl,hB,hb.keep hh (hne q rfl),hr⟩
theorem OwnAt.butLow (hf:Flat R) (h:OwnAt R k w B e v l) (hb:But g w w') (hg:g<B):OwnAt R k w' B e v l:=
 h.but hf hb fun q hq=>by have:=(h.at hq).1;omega
end
end Go.Proofs.YtnnceaapodgfbaaGreatDoor
namespace Go.Proofs.YtnnceaapodgfbaaGreatDoor
open Go.RowKit
open JP (JV Bs)
def mkB (l:Bs):ByteArray:=⟨l.toArray⟩
theorem mkB_size (l:Bs):(mkB l).size=l.length:=by unfold mkB;show l.toArray.size=_;simp
theorem mkB_list (l:Bs):(mkB l).data.toList=l:=by unfold mkB;simp
theorem mkB_of (s:ByteArray):mkB s.data.toList=s:=by unfold mkB;cases s;simp
theorem mkB_inj {a b:Bs}:mkB a=mkB b↔a=b:=⟨fun h=>by rw [←mkB_list a,←mkB_list b,h],fun h=>by rw [h]⟩
structure KeepT (T:List Nat) (w w':World):Prop where
 os:w'.os=w.os
 tape:w'.tape=w.tape
 output:w'.output=w.output
 size:w.heap.size≤w'.heap.size
 block:∀ b,b<w.heap.size→b∉T→w'.heap[b]? = w.heap[b]?
theorem KeepT.of {T:List Nat} {w w':World} (h:Below w.heap.size w w'):KeepT T w w':=⟨h.os,h.tape,h.output,h.size,fun b hb _=>h.block b hb⟩
theorem KeepT.trans {T:List Nat} {a b c:World} (h:KeepT T a b) (k:KeepT T b c):KeepT T a c:=⟨k.os.trans h.os,k.tape.trans h.tape,k.output.trans h.output,Nat.le_trans h.size k.size,fun q hq hn=>(k.block q (Nat.lt_of_lt_of_le hq h.size) hn).trans (h.block q hq hn)⟩
theorem KeepT.but {T:List Nat} {g:Nat} {w w':World} (h:But g w w') (hg:g∈T):KeepT T w w':=⟨h.os,h.tape,h.output,h.size,fun b hb hn=>h.block b hb fun e=>hn (e▸hg)⟩
theorem KeepT.cell {T:List Nat} {w w':World} {p:Addr} {v:Value} (h:KeepT T w w') (hp:w.cell? p=some v) (hn:p.block∉T):w'.cell? p=some v:=by
 have hb:=World.block_lt_of_cell? w p hp
 unfold World.cell? at hp ⊢
 rw [h.block _ hb hn]
 exact hp
def OffT {α:Type} (T:List Nat) (v:Value) (l:List α):Prop:=l≠[]→∀ b,v.ownBlock=some b→b∉T
section
variable {α : Type} {R R' : Rd α} {k : Nat} {w w' : World} {v : Value} {l : List α} {T T' : List Nat}
theorem RowAt.keepT (h:RowAt R k w v l) (hk:KeepT T w w') (ho:OffT T v l) (hR:∀ cs x,R w cs x→R' w' cs x):RowAt R' k w' v l:=by
 rcases h with h | ⟨a,c,h1,h2,h3,h4⟩
 ·exact .inl h
 ·refine .inr ⟨a,c,h1,h2,h3,fun j x hx=>?_⟩
  obtain⟨cs,g1,g2,g3⟩:=h4 j x hx
  refine⟨cs,g1,fun i u hu=>hk.cell (g2 i u hu) ?_,hR _ _ g3⟩
  have:=ho (fun e=>by rw [e] at hx;simp at hx) a.block (by rw [h1];rfl)
  have e:(a.add (j*k+i)).block=a.block:=by unfold Addr.add;split<;>rfl
  rw [e];exact this
theorem OffT.fresh (h:RowAt R k w v l) (hk:0<k) (ho:OffT T v l) (hs:∀ b∈T',b∈T∨w.heap.size≤b):OffT T' v l:=fun hl b hb hm=>by
 rcases hs b hm with h1 | h1
 ·exact ho hl b hb h1
 ·obtain⟨b',o,c,rfl,_,_,hlt,_⟩:=h.form (List.length_pos_iff.2 hl) hk
  have:b'=b:=by simpa [Value.ownBlock] using hb
  omega
end
def ObR (R:Rd JV) (T:List Nat) (w:World) (q:Nat) (l:List (Bs × JV)):Prop:=
 q∉T∧JP.Srt l∧∃ vn vv,w.cell? ⟨q,0,none⟩=some vn∧w.cell? ⟨q,1,none⟩=some vv∧RowAt RString 1 w vn (l.map fun x=>mkB x.1)∧OffT T vn l∧RowAt R 1 w vv (l.map (·.2))∧OffT T vv l
def JvAt:Nat→List Nat→World→Value→JV→Prop
 | 0,_,_,_,_=>False
 | _+1,_,_,v,.nul=>v=.nilIface
 | _+1,_,_,v,.bool b=>v=.iface 4 (.bool b)
 | _+1,_,_,v,.num k=>v=.iface 2 (.int .i64 k)∧-9223372036854775808≤k∧k≤9223372036854775807
 | _+1,_,_,v,.str s=>v=.iface 9 (.string (mkB s))
 | n+1,T,w,v,.list l=>∃ u,v=.iface 188 u∧RowAt (fun w cs x=>∃ v,cs = [v]∧JvAt n T w v x) 1 w u l∧OffT T u l
 | n+1,T,w,v,.obj l=>∃ q,v=.iface 190 (.pointer (some ⟨q,0,none⟩))∧ObR (fun w cs x=>∃ v,cs = [v]∧JvAt n T w v x) T w q l
def JvR (n:Nat) (T:List Nat):Rd JV:=fun w cs x=>∃ v,cs = [v]∧JvAt n T w v x
theorem ObR.keepT {R R':Rd JV} {T:List Nat} {w w':World} {q:Nat} {l:List (Bs × JV)} (h:ObR R T w q l) (hk:KeepT T w w') (hR:∀ cs x,R w cs x→R' w' cs x):ObR R' T w' q l:=by
 obtain⟨h1,h2,vn,vv,h3,h4,h5,h6,h7,h8⟩:=h
 refine⟨h1,h2,vn,vv,hk.cell h3 h1,hk.cell h4 h1,h5.keepT hk (fun hl=>h6 fun e=>hl (by rw [e];rfl)) (fun _ _ h=>h),h6,h7.keepT hk (fun hl=>h8 fun e=>hl (by rw [e];rfl)) hR,h8⟩
theorem JvAt.keepT {T:List Nat} {w w':World} (hk:KeepT T w w'):∀ {n:Nat} {v:Value} {x:JV},JvAt n T w v x→JvAt n T w' v x
 | 0,_,_,h=>by cases h
 | n+1,v,.nul,h=>h
 | n+1,v,.bool b,h=>h
 | n+1,v,.num b,h=>h
 | n+1,v,.str b,h=>h
 | n+1,v,.list l,h=>by
  obtain⟨u,h1,h2,h3⟩:=h
  exact⟨u,h1,h2.keepT hk h3 (fun cs x ⟨v,e,hv⟩=>⟨v,e,hv.keepT hk⟩),h3⟩
 | n+1,v,.obj l,h=>by
  obtain⟨q,h1,h2⟩:=h
  exact⟨q,h1,h2.keepT hk (fun cs x ⟨v,e,hv⟩=>⟨v,e,hv.keepT hk⟩)⟩
theorem RowAt.mapR {α:Type} {R R':Rd α} {k:Nat} {w:World} {v:Value} {l:List α} (h:RowAt R k w v l) (hm:∀ cs x,R w cs x→R' w cs x):RowAt R' k w v l:=by
 rcases h with h | ⟨a,c,h1,h2,h3,h4⟩
 ·exact .inl h
 ·exact .inr ⟨a,c,h1,h2,h3,fun j x hx=>by
   obtain⟨cs,g1,g2,g3⟩:=h4 j x hx
   exact⟨cs,g1,g2,hm _ _ g3⟩⟩
theorem JvAt.fresh {T T':List Nat} {w:World} (hs:∀ b∈T',b∈T∨w.heap.size≤b):∀ {n:Nat} {v:Value} {x:JV},JvAt n T w v x→JvAt n T' w v x
 | 0,_,_,h=>by cases h
 | n+1,v,.nul,h=>h
 | n+1,v,.bool b,h=>h
 | n+1,v,.num b,h=>h
 | n+1,v,.str b,h=>h
 | n+1,v,.list l,h=>by
  obtain⟨u,h1,h2,h3⟩:=h
  exact⟨u,h1,h2.mapR (fun cs x ⟨v,e,hv⟩=>⟨v,e,hv.fresh hs⟩),OffT.fresh h2 (by decide) h3 hs⟩
 | n+1,v,.obj l,h=>by
  obtain⟨q,h1,h2,h3,vn,vv,h4,h5,h6,h7,h8,h9⟩:=h
  have e6:OffT T vn (l.map fun x=>mkB x.1):=fun hl=>h7 fun e=>hl (by rw [e];rfl)
  have e8:OffT T vv (l.map (·.2)):=fun hl=>h9 fun e=>hl (by rw [e];rfl)
  refine⟨q,h1,fun hm=>?_,h3,vn,vv,h4,h5,h6,fun hl=>OffT.fresh h6 (by decide) e6 hs fun e=>hl (List.map_eq_nil_iff.1 e),h8.mapR (fun cs x ⟨v,e,hv⟩=>⟨v,e,hv.fresh hs⟩),fun hl=>OffT.fresh h8 (by decide) e8 hs fun e=>hl (List.map_eq_nil_iff.1 e)⟩
  rcases hs q hm with k | k
  ·exact h2 k
  ·have:=World.block_lt_of_cell? w ⟨q,0,none⟩ h4
   have:q<w.heap.size:=this
   omega
theorem JvAt.up {T:List Nat} {w:World}:∀ {n:Nat} {v:Value} {x:JV},JvAt n T w v x→JvAt (n+1) T w v x
 | 0,_,_,h=>by cases h
 | n+1,v,.nul,h=>h
 | n+1,v,.bool b,h=>h
 | n+1,v,.num b,h=>h
 | n+1,v,.str b,h=>h
 | n+1,v,.list l,h=>by
  obtain⟨u,h1,h2,h3⟩:=h
  exact⟨u,h1,h2.mapR (fun cs x ⟨v,e,hv⟩=>⟨v,e,hv.up⟩),h3⟩
 | n+1,v,.obj l,h=>by
  obtain⟨q,h1,h2,h3,vn,vv,h4,h5,h6,h7,h8,h9⟩:=h
  exact⟨q,h1,h2,h3,vn,vv,h4,h5,h6,h7,h8.mapR (fun cs x ⟨v,e,hv⟩=>⟨v,e,hv.up⟩),h9⟩
theorem JvAt.ups {T : List Nat} {w : World} {n m : Nat} {v : Value} {x : JV} (h : JvAt n T w v x) (hm : n ≤ m) : JvAt m T w v x := by
  induction m with
  | zero => obtain rfl : n = 0 := by omega
            exact h
  | succ m ih =>
    rcases Nat.lt_or_ge m n with h1 | h1
    · obtain rfl : n = m + 1 := by omega
      exact h
    · exact (ih h1).up
theorem JvAt.below {T:List Nat} {w w':World} {n:Nat} {v:Value} {x:JV} (h:JvAt n T w v x) (hb:Below w.heap.size w w'):JvAt n T w' v x:=h.keepT (.of hb)
theorem one_jv (n:Nat) (T:List Nat):OneR (JvR n T):=fun w cs x ⟨v,e,h⟩ u hu=>by
 rw [e,List.mem_singleton] at hu
 subst hu
 cases n with
 | zero=>cases h
 | succ n=>
  cases x with
  | nul=>rw [show u=_ from h];rfl
  | bool _=>rw [show u=_ from h];rfl
  | num _=>rw [h.1];rfl
  | str _=>rw [show u=_ from h];rfl
  | list l=>obtain⟨_,h1,_⟩:=h;rw [h1];rfl
  | obj l=>obtain⟨_,h1,_⟩:=h;rw [h1];rfl
end Go.Proofs.YtnnceaapodgfbaaGreatDoor
namespace Go.Proofs.YtnnceaapodgfbaaGreatDoor
open Go
theorem drop_at {s:ByteArray} {i:Nat} (h:i<s.size):s.data.toList.drop i=s[i] :: s.data.toList.drop (i+1):=by
 have hl:s.data.toList.length=s.size:=by simp
 rw [List.drop_eq_getElem_cons (by omega)]
 rfl
theorem drop_end {s:ByteArray} {i:Nat} (h:s.size≤i):s.data.toList.drop i = []:=by
 have hl:s.data.toList.length=s.size:=by simp
 exact List.drop_eq_nil_of_le (by omega)
structure Runs (p:UInt8→Bool) (s:ByteArray) (a i:Nat):Prop where
 le:a≤i
 room:i≤s.size
 drop:(s.data.toList.drop a).dropWhile p=(s.data.toList.drop i).dropWhile p
 take:(s.data.toList.drop a).takeWhile p=(s.data.toList.drop a).take (i - a)++(s.data.toList.drop i).takeWhile p
theorem Runs.start (p:UInt8→Bool) {s:ByteArray} {a:Nat} (h:a≤s.size):Runs p s a a:=⟨Nat.le_refl _,h,rfl,by simp⟩
theorem Runs.step {p:UInt8→Bool} {s:ByteArray} {a i:Nat} (h:Runs p s a i) (hi:i<s.size) (hp:p s[i]=true):Runs p s a (i+1):=by
 obtain⟨h1,h2,h3,h4⟩:=h
 refine⟨by omega,by omega,?_,?_⟩
 ·rw [h3,drop_at hi,List.dropWhile_cons_of_pos hp]
 ·rw [h4,drop_at hi,List.takeWhile_cons_of_pos hp]
  have:(s.data.toList.drop a).take (i+1 - a)=(s.data.toList.drop a).take (i - a)++[s[i]]:=by
   rw [show i+1 - a=(i - a)+1 by omega,List.take_add_one,List.getElem?_drop,show a+(i - a)=i by omega]
   have hl:s.data.toList.length=s.size:=by simp
   rw [List.getElem?_eq_getElem (by omega)]
   rfl
  rw [this,List.append_assoc]
  rfl
theorem Runs.stop {p:UInt8→Bool} {s:ByteArray} {a i:Nat} (h:Runs p s a i) (hi:∀ h:i<s.size,p s[i]=false) :
  (s.data.toList.drop a).dropWhile p=s.data.toList.drop i∧(s.data.toList.drop a).takeWhile p=(s.data.toList.drop a).take (i - a):=by
 obtain⟨h1,h2,h3,h4⟩:=h
 by_cases hl:i<s.size
 ·rw [drop_at hl] at h3 h4
  rw [List.dropWhile_cons_of_neg (by rw [hi hl];simp),←drop_at hl] at h3
  rw [List.takeWhile_cons_of_neg (by rw [hi hl];simp),List.append_nil] at h4
  exact⟨h3,h4⟩
 ·rw [drop_end (i:=i) (by omega)] at h3 h4 ⊢
  exact⟨h3,by simpa using h4⟩
theorem extract_take {s:ByteArray} {a i:Nat} (h1:a≤i) (h2:i≤s.size):(s.extract a i).data.toList=(s.data.toList.drop a).take (i - a):=by
 simp [ByteArray.data_extract]
end Go.Proofs.YtnnceaapodgfbaaGreatDoor
namespace Go.Proofs.YtnnceaapodgfbaaGreatDoor
open Go.RowKit
open JP (Bs)
def RU8:Rd UInt8:=fun _ cs b=>cs = [.int .u8 (b.toNat:Int)]
theorem flat_u8:Flat RU8:=fun _ _ _ _ h=>h
theorem one_u8:OneR RU8:=fun _ _ _ h u hu=>by rw [h] at hu;simp at hu;subst hu;rfl
theorem stays_u8:Stays RU8:=fun _ _ _ _ _ h=>h
theorem own_u8 {w:World} {B:Nat} {e:TypeId} {v:Value} {l:Bs} (h:OwnAt RU8 1 w B e v l):w.ownsRow B e 1 v l.length (byteCells l):=by
 obtain⟨css,h1,h2,h3,h4⟩:=h
 have:css.flatten=byteCells l:=by
  apply List.ext_getElem?
  intro j
  by_cases hj:j<l.length
  ·have hcs:css[j]? = some css[j]:=List.getElem?_eq_getElem (by omega)
   have hR:css[j] = [.int .u8 (l[j].toNat:Int)]:=h4 j _ _ hcs (List.getElem?_eq_getElem hj)
   have:=get_flat h2 (j:=j) (i:=0) hcs (u:=.int .u8 (l[j].toNat:Int)) (by rw [hR];rfl)
   rw [Nat.mul_one,Nat.add_zero] at this
   rw [this]
   simp [byteCells,hj]
  ·rw [List.getElem?_eq_none (by rw [flat_len h2];omega),List.getElem?_eq_none (by rw [byteCells_length];omega)]
 rwa [this] at h3
theorem row_u8 {w:World} {b:Nat} {e:TypeId} {l:Bs} {fr:Nat × Nat} (hb:w.heap[b]? = some (.cells (byteCells l).toArray e fr)) (hl:l.length≤maxLen):RowAt RU8 1 w (.slice (some ⟨b,0,none⟩) l.length l.length) l:=by
 refine .inr ⟨_,l.length,rfl,Nat.le_refl _,hl,fun j x hx=>⟨[.int .u8 (x.toNat:Int)],rfl,fun i u hu=>?_,rfl⟩⟩
 match i,hu with
 | 0,hu=>
  simp only [List.getElem?_cons_zero,Option.some.injEq] at hu
  subst hu
  rw [add_plain',cell_block hb]
  simp [byteCells,hx]
theorem esc_snoc {s:ByteArray} {i:Nat} (h:i<s.size):34 :: (s.data.toList.take (i+1)).flatMap JP.escB=(34 :: (s.data.toList.take i).flatMap JP.escB)++JP.escB s[i]:=by
 rw [take_snoc s i h,List.flatMap_append]
 simp
theorem u8_eq {a b:UInt8} (h:a.toNat=b.toNat):a=b:=UInt8.toNat_inj.1 h
set_option maxRecDepth 100000 in
set_option maxHeartbeats 3200000 in
theorem quote_any (s : ByteArray) (w : World) (hs : s.size ≤ 4194304) :
    Calls Tryz.prog 100 #[.string s] w fun e w' => e = .returned (.string (mkB (JP.quote s.data.toList))) ∧ Below w.heap.size w w' := by
  obtain ⟨i0, hi0, hz0, hz1, hz2⟩ := info_parts Tryz.infoU8
  have hel : ∀ i, i ≤ s.size → (34 :: (s.data.toList.take i).flatMap JP.escB).length ≤ 2 * i + 1 := fun i hi => by
    have hone : ∀ c, (JP.escB c).length ≤ 2 := fun c => by unfold JP.escB; split; · simp
                                                           · split; · simp
                                                             · split <;> simp
    have hgen : ∀ l : Bs, (l.flatMap JP.escB).length ≤ 2 * l.length := fun l => by
      induction l with
      | nil => simp
      | cons c r ih => rw [List.flatMap_cons, List.length_append, List.length_cons]; have := hone c; omega
    have := hgen (s.data.toList.take i)
    rw [List.length_take] at this
    rw [List.length_cons]
    omega
  have Hel := Lib.hid hel
  clear hel
  go_enter Tryz.func100, Tryz.ntmps100
  obtain ⟨w0, hw0⟩ : ∃ w0, w0 = w.alloc (.cells #[.int .u8 34] 5) := ⟨_, rfl⟩
  have h0 : OwnAt RU8 1 w0 w.heap.size 5 (.slice (some ⟨w.heap.size, 0, none⟩) 1 1) [34] := by
    refine ⟨[[.int .u8 34]], rfl, fun cs hcs => by rw [List.mem_singleton.1 hcs]; rfl, ⟨rfl, .inr ⟨w.heap.size, 1, #[.int .u8 34], rfl, Nat.le_refl _, by rw [hw0]; exact heap_alloc_new w _, Nat.le_refl _, by unfold maxLen; decide, rfl, rfl⟩⟩, fun j cs x hcs hx => ?_⟩
    match j, hcs, hx with
    | 0, hcs, hx =>
      simp at hcs hx
      subst hcs
      subst hx
      rfl
  have hb0 : Below w.heap.size w w0 := by rw [hw0]; exact (Below.refl _ _).alloc (Nat.le_refl _) _
  have H0 := Lib.hid h0
  have Hb0 := Lib.hid hb0
  clear h0 hb0
  go_upto_region 2 with fail
  rw [← hw0]
  clear hw0
  go_wp2_with fail
  go_loopg [3, 9] s.size (fun k u3 u9 wr => ∃ i : Nat, i + k = s.size ∧ u9 = .int .i64 (i : Int) ∧ Hid (OwnAt RU8 1 wr w.heap.size 5 u3 (34 :: (s.data.toList.take i).flatMap JP.escB)) ∧ Hid (Below w.heap.size w wr))
  case atStart => exact ⟨0, by omega, rfl, H0, Hb0⟩
  case round =>
    obtain ⟨i, hik, rfl, Hown, Hbel⟩ := hrel
    have hl1 := Hel.out i (by omega)
    have hbs := Hbel.out.size
    obtain ⟨L, HL⟩ : ∃ L, Hid (34 :: (s.data.toList.take i).flatMap JP.escB = L) := ⟨_, Lib.hid rfl⟩
    rw [HL.out] at Hown hl1
    cases gk with
    | zero =>
      obtain rfl : i = s.size := by omega
      have HLq : Hid (L ++ [34] = JP.quote s.data.toList) := Lib.hid (by
        rw [← HL.out, List.take_of_length_le (by simp)]
        rfl)
      obtain ⟨w1, hw1⟩ : ∃ w1, w1 = wr.alloc (.cells #[.int .u8 34] 5) := ⟨_, rfl⟩
      have hb1 : Below wr.heap.size wr w1 := by rw [hw1]; exact (Below.refl _ _).alloc (Nat.le_refl _) _
      have h1 : RowAt RU8 1 w1 (.slice (some ⟨wr.heap.size, 0, none⟩) 1 1) [34] := row_u8 (l := [34]) (by rw [hw1]; exact heap_alloc_new wr _) (by unfold maxLen; simp)
      have Ho1 := Lib.hid (Hown.out.below stays_u8 hb1)
      have H1 := Lib.hid h1
      have Hb1 := Lib.hid (Hbel.out.trans (hb1.mono hbs))
      clear h1 hb1
      go_upto_region 16 with fail
      go_wp2_with (at_builtin; rw [← hw1]; refine wpList_append_ownAt (R := RU8) (k := 1) (e := 5) (B := w.heap.size) (l := L) (m := [34]) _ (by rfl) _ _ _ (by rfl) i0 _ 1 Tryz.underlying228 hi0 hz0 hz1 hz2 rfl (by omega) flat_u8 one_u8 _ (by rfl) Ho1.out _ (by rfl) H1.out (by unfold maxLen; simp; omega) (by simp; omega) (by have := Hb1.out.size; omega) ?_)
      intro v' w2 hv' hg hr _
      rw [← hw1] at hg
      have hb2 : Below w.heap.size w w2 := below_of_grown Hb1.out (by have := Hb1.out.size; omega) hg hr
      have Hb2 := Lib.hid hb2
      have hcv := run_convert_own w2 228 9 5 Tryz.underlying228 Tryz.underlying5 Tryz.underlying9 (own_u8 hv')
      clear hv' hg hr hb2 hw1
      go_wp2_with fail
      go_ret
      exact ⟨by rw [HLq.out]; rfl, Hb2.out⟩
    | succ k =>
      have hil : i < s.size := by omega
      have q1 : (0 : Int) ≤ (i : Int) := by omega
      have q2 : (i : Int) < (s.size : Int) := by omega
      have HS := Lib.hid (esc_snoc hil)
      rw [HL.out] at HS
      by_cases h34 : s[i].toNat = 34
      · have he : s[i] = 34 := u8_eq h34
        have hesc : JP.escB s[i] = [92, 34] := by rw [he]; rfl
        have HE := Lib.hid hesc
        clear he hesc
        have HS2 : Hid (34 :: (s.data.toList.take (i + 1)).flatMap JP.escB = L ++ [92, 34]) := Lib.hid (by rw [HS.out, HE.out])
        clear HS
        go_wp2_with (at_builtin; refine wpList_append_ownAt (R := RU8) (k := 1) (e := 5) (B := w.heap.size) (l := L) (m := [92, 34]) _ (by rfl) _ _ _ (by rfl) i0 _ 1 Tryz.underlying228 hi0 hz0 hz1 hz2 rfl (by omega) flat_u8 one_u8 _ (by rfl) (Hown.out.alloc stays_u8 _) (.slice (some ⟨wr.heap.size, 0, none⟩) 2 2) (by rfl) (row_u8 (l := [92, 34]) (heap_alloc_new wr _) (by unfold maxLen; simp)) (by unfold maxLen; simp; omega) (by simp; omega) (by simp; omega) ?_)
        intro v' w2 hv' hg hr _
        have hb2 : Below w.heap.size w w2 := below_of_grown (Hbel.out.alloc hbs _) (by simp; omega) hg hr
        have Hb2 := Lib.hid hb2
        have Hv : Hid (OwnAt RU8 1 w2 w.heap.size 5 v' (34 :: (s.data.toList.take (i + 1)).flatMap JP.escB)) := Lib.hid (by rw [HS2.out]; exact hv')
        clear hv' hg hr hb2 HS2
        go_wp2_with fail
        go_roundg k
        case measure => omega
        case rel => exact ⟨i + 1, by omega, by go_num, Hv, Hb2⟩
      · have n34 : ((s[i].toNat : Int) == 34) = false := by rw [beq_eq_false_iff_ne]; omega
        by_cases h92 : s[i].toNat = 92
        · have he : s[i] = 92 := u8_eq h92
          have hesc : JP.escB s[i] = [92, 92] := by rw [he]; rfl
          have HE := Lib.hid hesc
          clear he hesc n34 h34
          have HS2 : Hid (34 :: (s.data.toList.take (i + 1)).flatMap JP.escB = L ++ [92, 92]) := Lib.hid (by rw [HS.out, HE.out])
          clear HS
          go_wp2_with (at_builtin; refine wpList_append_ownAt (R := RU8) (k := 1) (e := 5) (B := w.heap.size) (l := L) (m := [92, 92]) _ (by rfl) _ _ _ (by rfl) i0 _ 1 Tryz.underlying228 hi0 hz0 hz1 hz2 rfl (by omega) flat_u8 one_u8 _ (by rfl) (Hown.out.alloc stays_u8 _) (.slice (some ⟨wr.heap.size, 0, none⟩) 2 2) (by rfl) (row_u8 (l := [92, 92]) (heap_alloc_new wr _) (by unfold maxLen; simp)) (by unfold maxLen; simp; omega) (by simp; omega) (by simp; omega) ?_)
          intro v' w2 hv' hg hr _
          have hb2 : Below w.heap.size w w2 := below_of_grown (Hbel.out.alloc hbs _) (by simp; omega) hg hr
          have Hb2 := Lib.hid hb2
          have Hv : Hid (OwnAt RU8 1 w2 w.heap.size 5 v' (34 :: (s.data.toList.take (i + 1)).flatMap JP.escB)) := Lib.hid (by rw [HS2.out]; exact hv')
          clear hv' hg hr hb2 HS2
          go_wp2_with fail
          go_roundg k
          case measure => omega
          case rel => exact ⟨i + 1, by omega, by go_num, Hv, Hb2⟩
        · have n92 : ((s[i].toNat : Int) == 92) = false := by rw [beq_eq_false_iff_ne]; omega
          by_cases h10 : s[i].toNat = 10
          · have he : s[i] = 10 := u8_eq h10
            have hesc : JP.escB s[i] = [92, 110] := by rw [he]; rfl
            have HE := Lib.hid hesc
            clear he hesc n34 h34 n92 h92
            have HS2 : Hid (34 :: (s.data.toList.take (i + 1)).flatMap JP.escB = L ++ [92, 110]) := Lib.hid (by rw [HS.out, HE.out])
            clear HS
            go_wp2_with (at_builtin; refine wpList_append_ownAt (R := RU8) (k := 1) (e := 5) (B := w.heap.size) (l := L) (m := [92, 110]) _ (by rfl) _ _ _ (by rfl) i0 _ 1 Tryz.underlying228 hi0 hz0 hz1 hz2 rfl (by omega) flat_u8 one_u8 _ (by rfl) (Hown.out.alloc stays_u8 _) (.slice (some ⟨wr.heap.size, 0, none⟩) 2 2) (by rfl) (row_u8 (l := [92, 110]) (heap_alloc_new wr _) (by unfold maxLen; simp)) (by unfold maxLen; simp; omega) (by simp; omega) (by simp; omega) ?_)
            intro v' w2 hv' hg hr _
            have hb2 : Below w.heap.size w w2 := below_of_grown (Hbel.out.alloc hbs _) (by simp; omega) hg hr
            have Hb2 := Lib.hid hb2
            have Hv : Hid (OwnAt RU8 1 w2 w.heap.size 5 v' (34 :: (s.data.toList.take (i + 1)).flatMap JP.escB)) := Lib.hid (by rw [HS2.out]; exact hv')
            clear hv' hg hr hb2 HS2
            go_wp2_with fail
            go_roundg k
            case measure => omega
            case rel => exact ⟨i + 1, by omega, by go_num, Hv, Hb2⟩
          · have n10 : ((s[i].toNat : Int) == 10) = false := by rw [beq_eq_false_iff_ne]; omega
            by_cases h9 : s[i].toNat = 9
            · have he : s[i] = 9 := u8_eq h9
              have hesc : JP.escB s[i] = [92, 116] := by rw [he]; rfl
              have HE := Lib.hid hesc
              clear he hesc n34 h34 n92 h92 n10 h10
              have HS2 : Hid (34 :: (s.data.toList.take (i + 1)).flatMap JP.escB = L ++ [92, 116]) := Lib.hid (by rw [HS.out, HE.out])
              clear HS
              go_wp2_with (at_builtin; refine wpList_append_ownAt (R := RU8) (k := 1) (e := 5) (B := w.heap.size) (l := L) (m := [92, 116]) _ (by rfl) _ _ _ (by rfl) i0 _ 1 Tryz.underlying228 hi0 hz0 hz1 hz2 rfl (by omega) flat_u8 one_u8 _ (by rfl) (Hown.out.alloc stays_u8 _) (.slice (some ⟨wr.heap.size, 0, none⟩) 2 2) (by rfl) (row_u8 (l := [92, 116]) (heap_alloc_new wr _) (by unfold maxLen; simp)) (by unfold maxLen; simp; omega) (by simp; omega) (by simp; omega) ?_)
              intro v' w2 hv' hg hr _
              have hb2 : Below w.heap.size w w2 := below_of_grown (Hbel.out.alloc hbs _) (by simp; omega) hg hr
              have Hb2 := Lib.hid hb2
              have Hv : Hid (OwnAt RU8 1 w2 w.heap.size 5 v' (34 :: (s.data.toList.take (i + 1)).flatMap JP.escB)) := Lib.hid (by rw [HS2.out]; exact hv')
              clear hv' hg hr hb2 HS2
              go_wp2_with fail
              go_roundg k
              case measure => omega
              case rel => exact ⟨i + 1, by omega, by go_num, Hv, Hb2⟩
            · have n9 : ((s[i].toNat : Int) == 9) = false := by rw [beq_eq_false_iff_ne]; omega
              have hesc : JP.escB s[i] = [s[i]] := by
                have ne : ∀ (c : UInt8), s[i].toNat ≠ c.toNat → s[i] ≠ c := fun c h e => h (by rw [e])
                unfold JP.escB
                rw [if_neg (fun h => h.elim (ne 34 h34) (ne 92 h92)), if_neg (ne 10 h10), if_neg (ne 9 h9)]
              have HE := Lib.hid hesc
              clear hesc h34 h92 h10 h9
              have HS2 : Hid (34 :: (s.data.toList.take (i + 1)).flatMap JP.escB = L ++ [s[i]]) := Lib.hid (by rw [HS.out, HE.out])
              clear HS
              go_wp2_with (at_builtin; refine wpList_append_ownAt (R := RU8) (k := 1) (e := 5) (B := w.heap.size) (l := L) (m := [s[i]]) _ (by rfl) _ _ _ (by rfl) i0 _ 1 Tryz.underlying228 hi0 hz0 hz1 hz2 rfl (by omega) flat_u8 one_u8 _ (by rfl) (Hown.out.alloc stays_u8 _) (.slice (some ⟨wr.heap.size, 0, none⟩) 1 1) (by rfl) (row_u8 (l := [s[i]]) (heap_alloc_new wr _) (by unfold maxLen; simp)) (by unfold maxLen; simp; omega) (by simp; omega) (by simp; omega) ?_)
              intro v' w2 hv' hg hr _
              have hb2 : Below w.heap.size w w2 := below_of_grown (Hbel.out.alloc hbs _) (by simp; omega) hg hr
              have Hb2 := Lib.hid hb2
              have Hv : Hid (OwnAt RU8 1 w2 w.heap.size 5 v' (34 :: (s.data.toList.take (i + 1)).flatMap JP.escB)) := Lib.hid (by rw [HS2.out]; exact hv')
              clear hv' hg hr hb2 HS2
              go_wp2_with fail
              go_roundg k
              case measure => omega
              case rel => exact ⟨i + 1, by omega, by go_num, Hv, Hb2⟩
end Go.Proofs.YtnnceaapodgfbaaGreatDoor
namespace Go.Proofs.YtnnceaapodgfbaaGreatDoor
open Go.RowKit
open JP (JV Bs)
def RdAt (g:Nat) (s:ByteArray) (a m:Nat) (vst:Value) (bad:Int) (w:World):Prop:=w.heap[g]? = some (.cells #[.string s,.int .i64 (a:Int),.int .i64 (m:Int),vst,.int .i64 bad] 174 (0,0))
theorem RdAt.drew {g:Nat} {s:ByteArray} {a m:Nat} {vst:Value} {bad:Int} {w:World} (h:RdAt g s a m vst bad w) (n:Nat):RdAt g s a m vst bad (w.drewN n):=h
theorem But.drew {g:Nat} {w w':World} (h:But g w w') (n:Nat):But g w (w'.drewN n):=⟨h.os,h.tape,h.output,h.size,h.block⟩
def hdN (r:Bs):Int:=match r with
 | []=>0
 | c :: _=>(c.toNat:Int)
theorem hd_at {s:ByteArray} {i:Nat} (h:i<s.size):hdN (s.data.toList.drop i)=(s[i].toNat:Int):=by rw [drop_at h];rfl
theorem blank_nat (c:UInt8):JP.blank c=decide (c.toNat=32∨c.toNat=9∨c.toNat=10):=by
 unfold JP.blank
 rw [Bool.eq_iff_iff]
 simp only [Bool.or_eq_true,beq_iff_eq,decide_eq_true_eq,or_assoc]
 have e:∀ k:UInt8,c=k↔c.toNat=k.toNat:=fun k=>⟨fun h=>by rw [h],fun h=>UInt8.toNat_inj.1 h⟩
 rw [e 32,e 9,e 10]
 exact Iff.rfl
theorem ret_u8 {a b:Int} (h:a=b):Ending.returned (.int .u8 a)=.returned (.int .u8 b):=by rw [h]
set_option maxRecDepth 100000 in
set_option maxHeartbeats 3200000 in
theorem next_any (g:Nat) (s:ByteArray) (a m:Nat) (vst:Value) (bad:Int) (w:World) (h:RdAt g s a m vst bad w) (ha:a≤s.size) (hs:s.size≤1048576) :
  Calls Tryz.prog 95 #[.pointer (some ⟨g,0,none⟩)] w fun e w'=>e=.returned (.int .u8 (hdN (JP.skip (s.data.toList.drop a))))∧(∃ i,i≤s.size∧s.data.toList.drop i=JP.skip (s.data.toList.drop a)∧RdAt g s i m vst bad w')∧But g w w':=by
 have H:=Lib.hid h
 clear h
 go_enter Tryz.func95,Tryz.ntmps95
 go_wp2_with fail
 go_loopg [] (s.size - a) (fun k wr=>∃ i:Nat,i+k=s.size∧Hid (Runs JP.blank s a i)∧Hid (RdAt g s i m vst bad wr)∧Hid (But g w wr))
 case atStart=>exact⟨a,by omega,Lib.hid (Runs.start _ ha),H,Lib.hid (But.refl _ _)⟩
 case round=>
  obtain⟨i,hig,HR,HP,HB⟩:=hrel
  have h0:wr.cell? ⟨g,0,none⟩=some (.string s):=cell_block HP.out 0
  have h1:wr.cell? ⟨g,1,none⟩=some (.int .i64 (i:Int)):=cell_block HP.out 1
  have hz:wr.frozen? ⟨g,1,none⟩=false:=free_block HP.out 1
  cases gk with
  | zero=>
   have hi:i=s.size:=by omega
   have q0:decide (i<s.size)=false:=decide_eq_false (by omega)
   have q1:¬(i:Int)<(s.size:Int):=by omega
   have Hs:=Lib.hid (HR.out.stop (fun h=>absurd h (by omega))).1
   have Hh:Hid ((0:Int)=hdN (JP.skip (s.data.toList.drop a))):=Lib.hid (by
    show 0=hdN ((s.data.toList.drop a).dropWhile JP.blank)
    rw [Hs.out,drop_end (by omega)];rfl)
   have hile:i≤s.size:=by omega
   clear hi hig
   go_wp2_with fail
   go_quiet (fail)
   go_wp2_with fail
   go_ret
   exact⟨ret_u8 Hh.out,⟨i,hile,Hs.out.symm,HP.out⟩,HB.out.drew _⟩
  | succ k=>
   have hil:i<s.size:=by omega
   have q0:decide (i<s.size)=true:=decide_eq_true hil
   have q1:(i:Int)<(s.size:Int):=by omega
   have q2:(0:Int)≤(i:Int):=by omega
   cases hb:JP.blank s[i] with
   | false=>
    have Hs:=Lib.hid (HR.out.stop (fun h=>hb)).1
    have Hh:Hid ((s[i].toNat:Int)=hdN (JP.skip (s.data.toList.drop a))):=Lib.hid (by
     show _=hdN ((s.data.toList.drop a).dropWhile JP.blank)
     rw [Hs.out,hd_at hil])
    have hn:¬(s[i].toNat=32∨s[i].toNat=9∨s[i].toNat=10):=by
     rw [blank_nat] at hb
     exact of_decide_eq_false hb
    have e1:((s[i].toNat:Int) != 32)=true:=by rw [bne_iff_ne];omega
    have e2:((s[i].toNat:Int) != 9)=true:=by rw [bne_iff_ne];omega
    have e3:((s[i].toNat:Int) != 10)=true:=by rw [bne_iff_ne];omega
    have e4:((s[i].toNat:Int) == 32)=false:=by rw [beq_eq_false_iff_ne];omega
    have e5:((s[i].toNat:Int) == 9)=false:=by rw [beq_eq_false_iff_ne];omega
    have e6:((s[i].toNat:Int) == 10)=false:=by rw [beq_eq_false_iff_ne];omega
    have hile:i≤s.size:=by omega
    clear hb hig hn
    go_wp2_with fail
    go_quiet (fail)
    go_wp2_with fail
    go_quiet (fail)
    go_wp2_with fail
    go_ret
    exact⟨ret_u8 Hh.out,⟨i,hile,Hs.out.symm,HP.out⟩,HB.out.drew _⟩
   | true=>
    have HR2:=Lib.hid (HR.out.step hil hb)
    have hn:s[i].toNat=32∨s[i].toNat=9∨s[i].toNat=10:=by
     rw [blank_nat] at hb
     exact of_decide_eq_true hb
    clear hb
    rcases hn with hn | hn | hn
    all_goals
     go_wp2_with fail
     go_quiet (fail)
     go_wp2_with fail
     go_quiet (fail)
     go_wp2_with fail
     obtain⟨t1,t2⟩:=touch_setCell (i:=1) (v:=.int .i64 ((i:Int)+1)) HP.out
     go_roundg k
     case measure=>omega
     case rel=>exact⟨i+1,by omega,HR2,Lib.hid (by unfold RdAt;rw [show ((i+1:Nat):Int)=(i:Int)+1 by omega];exact t1),Lib.hid ((HB.out.trans (But.touch t2)).drew _)⟩
def failE (e0 bad:Int):Int:=if bad=0 then e0 else bad
set_option maxRecDepth 100000 in
set_option maxHeartbeats 1600000 in
theorem fail_any (g:Nat) (s:ByteArray) (a m:Nat) (vst:Value) (bad e0:Int) (w:World) (h:RdAt g s a m vst bad w) :
  Calls Tryz.prog 96 #[.pointer (some ⟨g,0,none⟩),.int .i64 e0] w fun e w'=>e=.returned (.tuple #[])∧RdAt g s a m vst (failE e0 bad) w'∧But g w w':=by
 have h4:w.cell? ⟨g,4,none⟩=some (.int .i64 bad):=cell_block h 4
 have hz:w.frozen? ⟨g,4,none⟩=false:=free_block h 4
 have H:=Lib.hid h
 clear h
 by_cases hb:bad=0
 ·subst hb
  go_enter Tryz.func96,Tryz.ntmps96
  go_wp2_with fail
  obtain⟨t1,t2⟩:=touch_setCell (i:=4) (v:=.int .i64 e0) H.out
  go_end0
  exact⟨rfl,by rw [show failE e0 0=e0 from rfl];exact t1,But.touch t2⟩
 ·have q1:(bad == 0)=false:=by rw [beq_eq_false_iff_ne];exact hb
  have Hr:Hid (failE e0 bad=bad):=Lib.hid (if_neg hb)
  clear hb
  go_enter Tryz.func96,Tryz.ntmps96
  go_wp2_with fail
  go_end0
  exact⟨rfl,by rw [Hr.out];exact H.out,But.refl _ _⟩
end Go.Proofs.YtnnceaapodgfbaaGreatDoor
