/- Texts of ours joined. -/
import Derived.Test.YtnnceaapodgfbaaGreatDoorProg
import Derived.KernelRfl
import Derived.Test.YtnnceaapodgfbaaGreatDoorAz4
set_option linter.unusedVariables false
set_option linter.unusedSimpArgs false
namespace Go.Proofs.YtnnceaapodgfbaaGreatDoor
open Go.RowKit
open JP (JV Bs Fr)
def FieldAt (g:Nat) (s:ByteArray) (w:World) (x:JP.R) (e:Ending) (w':World):Prop:=e=.returned (.tuple #[])∧Below g w w'∧match x with
 | .bad er=>RBad g s er w'
 | .more r m st=>RS g s r m st none w'
 | .whole _ _ _ _=>False
theorem field_bad {g:Nat} {s:ByteArray} {w w':World} {x:JP.R} {a m:Nat} {vst:Value} {er:Int} (hx:x=.bad er) (h0:er≠0) (h:RdAt g s a m vst er w') (hb:Below g w w'):FieldAt g s w x (.returned (.tuple #[])) w':=by
 subst hx;exact⟨rfl,hb,rbad_of h h0⟩
theorem field_more {g:Nat} {s:ByteArray} {w w':World} {x:JP.R} {r:Bs} {m:Nat} {st:List Fr} (hx:x=.more r m st) (h:RS g s r m st none w') (hb:Below g w w'):FieldAt g s w x (.returned (.tuple #[])) w':=by
 subst hx;exact⟨rfl,hb,h⟩
theorem fieldP_no {r:Bs} {m:Nat} {d:List (Bs × JV)} {st:List Fr} (h:hdN (JP.skip r)≠34):JP.fieldP r m d st=.bad 3:=by
 unfold JP.fieldP
 cases hs:JP.skip r with
 | nil=>rfl
 | cons c t=>
  rw [hs] at h
  dsimp only
  rw [if_neg (fun e=>h (by rw [e];rfl))]
theorem fieldP_yes {r t : Bs} {m : Nat} {d : List (Bs × JV)} {st : List Fr} (h : JP.skip r = 34 :: t) : JP.fieldP r m d st = match JP.textP t with
      | none => .bad 3
      | some x => JP.fieldN r m d st x.1 x.2 := by
  unfold JP.fieldP
  rw [h]
  dsimp only
  rw [if_pos rfl]
  cases JP.textP t <;> rfl
theorem hd_zero {l:Bs} {c:UInt8} (hc:c≠0) (h:hdN l=(c.toNat:Int)):∃ t,l=c :: t:=by
 cases l with
 | nil=>
  have h9:(0:Int)=(c.toNat:Int):=h
  exact absurd (UInt8.toNat_inj.1 (show c.toNat=(0:UInt8).toNat from by have:(0:UInt8).toNat=0:=rfl;omega)) hc
 | cons x t=>
  have h9:(x.toNat:Int)=(c.toNat:Int):=h
  exact⟨t,by rw [u8_eq (a:=x) (b:=c) (by omega)]⟩
theorem fieldN_more {r t t' n:Bs} {m:Nat} {d:List (Bs × JV)} {st:List Fr} (h:(JP.get n d).isSome=false) (h2:JP.skip t=58 :: t'):JP.fieldN r m d st n t=.more t' m (.ob d n :: st):=by
 unfold JP.fieldN
 rw [if_neg (by rw [h];decide),h2]
 dsimp only
 rw [if_pos rfl]
theorem fieldN_bad {r t n:Bs} {m:Nat} {d:List (Bs × JV)} {st:List Fr} (h:(JP.get n d).isSome=false) (h2:hdN (JP.skip t)≠58):JP.fieldN r m d st n t=.bad 3:=by
 unfold JP.fieldN
 rw [if_neg (by rw [h];decide)]
 cases hs:JP.skip t with
 | nil=>rfl
 | cons c q=>
  rw [hs] at h2
  dsimp only
  rw [if_neg (fun e=>h2 (by rw [e];rfl))]
theorem drop_in {s:ByteArray} {i:Nat} {c:UInt8} {t:Bs} (h:s.data.toList.drop i=c :: t):i<s.size∧s.data.toList.drop (i+1)=t:=by
 have hil:i<s.size:=by
  rcases Nat.lt_or_ge i s.size with h1 | h1
  ·exact h1
  ·rw [drop_end h1] at h;cases h
 rw [drop_at hil] at h
 exact⟨hil,(List.cons.inj h).2⟩
set_option maxRecDepth 100000 in
set_option maxHeartbeats 12800000 in
theorem field_any (g:Nat) (s:ByteArray) (a m:Nat) (vst:Value) (f:GF) (fs:List GF) (T:List Nat) (d:List (Bs × JV)) (nm0:Bs) (st:List Fr) (w:World) (h:RdAt g s a m vst 0 w) (hc:Core g T w vst (f :: fs) (.ob d nm0 :: st)) (ha:a≤s.size) (hs:s.size≤1048576) (hd:d.length≤1048576) (hfl:fs.length≤1048576) :
  Calls Tryz.prog 129 #[.pointer (some ⟨g,0,none⟩)] w (FieldAt g s w (JP.fieldP (s.data.toList.drop a) m d st)):=by
 have hgw:=h.lt
 have H:=Lib.hid h
 have Hc:=Lib.hid hc
 obtain⟨X,HX⟩:∃ X,Hid (JP.fieldP (s.data.toList.drop a) m d st=X):=⟨_,Lib.hid rfl⟩
 rw [HX.out]
 clear h hc
 obtain⟨z,hz⟩:∃ z,hdN (JP.skip (s.data.toList.drop a))=z:=⟨_,rfl⟩
 have HN:=Lib.hid (next_any g s a m vst 0 w H.out ha hs)
 rw [hz] at HN
 have Hz:=Lib.hid hz
 clear hz
 go_enter Tryz.func129,Tryz.ntmps129
 go_wp2_with fail
 refine HN.out.mono ?_
 rintro E w1 ⟨rfl,⟨i,hi,hdi,hr⟩,hb⟩
 have Hr1:=Lib.hid hr
 have Hb1:=Lib.hid hb
 have Hdi:=Lib.hid hdi
 have Hc1:=Lib.hid (Hc.out.but hb)
 clear hr hb hdi
 by_cases h34:z=34
 ·subst h34
  obtain⟨t,ht⟩:=hd_zero (c:=34) (by decide) Hz.out
  have hil:i<s.size:=by
   rcases Nat.lt_or_ge i s.size with h | h
   ·exact h
   ·have:=Hdi.out;rw [ht,drop_end h] at this;cases this
  have hdt:s.data.toList.drop (i+1)=t:=by
   have:=Hdi.out
   rw [ht,drop_at hil] at this
   exact (List.cons.inj this).2
  have HX2:Hid (X=match JP.textP (s.data.toList.drop (i+1)) with
   | none=>.bad 3
   | some x=>JP.fieldN (s.data.toList.drop a) m d st x.1 x.2):=Lib.hid (by rw [←HX.out,fieldP_yes ht,hdt])
  clear ht hdt HN
  go_wp2_with fail
  refine (rtext_any g s i m vst w1 Hr1.out hil hs).mono ?_
  intro E w2 htx
  have hb2:=htx.1
  have hcore:=Hc1.out.but hb2
  obtain⟨sb,c,cur,htop⟩:=hcore.top
  obtain⟨hlv,hpv,hfr,hrest⟩:f.lv=.slice none 0 0∧f.nm=mkB nm0∧(∃ n q,f.pv=.pointer (some ⟨q,0,none⟩)∧ObR (JvR n T) T w2 q d)∧AllFr (g+1) T w2 fs st:=by
   have h1:=hcore.all
   obtain⟨⟨k1,k2,n,q,k3,k4⟩,k5⟩:=h1
   exact⟨k1,k2,⟨n,q,k3,k4⟩,k5⟩
  obtain⟨nn,q,hpq,hob⟩:=hfr
  obtain⟨tv,tl,tr,tm,ta,ts,t0,t1,t2⟩:=htop
  rw [hpq] at t1
  have Hcore:=Lib.hid hcore
  have Htop:Hid (Top g w2 vst f fs.length sb c cur):=Lib.hid ⟨tv,tl,tr,tm,ta,ts,t0,by rw [hpq];exact t1,t2⟩
  have Hob:=Lib.hid hob
  have Hb2:=Lib.hid (Hb1.out.trans hb2)
  have Hrest:=Lib.hid hrest
  have Hlv:=Lib.hid hlv
  have Hpq:=Lib.hid hpq
  obtain⟨n,hn⟩:∃ n,fs.length=n:=⟨_,rfl⟩
  have Hn:=Lib.hid hn
  rw [hn] at tv tr t0 t1 t2 hfl
  have hsb:sb<w2.heap.size:=blk_lt ta
  have y1:w2.cell? ⟨sb,n*3+1,none⟩=some (.pointer (some ⟨q,0,none⟩)):=(cell_block ta _).trans t1
  have y2:w2.cell? ⟨sb,n*3+2,none⟩=some (.string f.nm):=(cell_block ta _).trans t2
  have Y2:=Lib.hid y2
  have hsg:sb≠g:=by omega
  have hgs:g≤sb:=by omega
  have q1:(0:Int)≤((n+1:Nat):Int) - 1:=by omega
  have q2:(((n+1:Nat):Int) - 1).toNat=n:=by omega
  have q3:((n+1:Nat):Int) - 1<((n+1:Nat):Int):=by omega
  have v1:IntKind.i64.wrap (((n+1:Nat):Int) - 1)=(n:Int):=by rw [IntWalk.i64_in _ (by omega)];omega
  have v2:IntKind.i64.wrap (n:Int)=(n:Int):=IntWalk.i64_in _ (by omega)
  have q4:(n:Int)<(n:Int)+1:=by omega
  have q5:(0:Int)≤(n:Int):=by omega
  have Ta:=Lib.hid ta
  subst tv
  clear hb2 hcore hob hrest hlv hpq hpv ta ts t0 t1 t2 tl hn y2
  rcases htx with ⟨_,(⟨x,hx,rfl,i2,hi2,hd2,hr2⟩ | ⟨hx,rfl,i2,hi2,hr2⟩)⟩
  ·have HX3:Hid (X=JP.fieldN (s.data.toList.drop a) m d st x.1 x.2):=Lib.hid (by rw [HX2.out,hx])
   have k3:w2.cell? ⟨g,3,none⟩=some (.slice (some ⟨sb,0,none⟩) (n+1) c):=cell_block hr2 3
   have k1:w2.cell? ⟨g,1,none⟩=some (.int .i64 (i2:Int)):=cell_block hr2 1
   have Hr2:=Lib.hid hr2
   have Hd2:=Lib.hid hd2
   have HG:=Lib.hid (fun w' (hk:∃ j,w'=w2.drewN j)=>get_any (x:=x.1) (w:=w') (by obtain⟨j,rfl⟩:=hk;exact Hob.out.keepJ (KeepT.drewN w2 j)) hd)
   clear hx hr2 hd2 HX2
   go_wp2_with fail
   go_quiet (fail)
   go_wp2_with fail
   refine (HG.out _ ⟨_,rfl⟩).mono ?_
   rintro E w3 ⟨vg,rfl,_,_,k,rfl⟩
   obtain⟨hs9,HS9⟩:∃ b,Hid ((JP.get x.1 d).isSome=b):=⟨_,Lib.hid rfl⟩
   rw [HS9.out]
   cases hs9 with
   | true=>
    have HX4:Hid (X=.bad 5):=Lib.hid (by rw [HX3.out];unfold JP.fieldN;rw [if_pos HS9.out])
    clear HX3 HG
    go_wp2_with fail
    refine (fail_any g s i2 m (.slice (some ⟨sb,0,none⟩) (n+1) c) 0 5 _ (Hr2.out.drew _)).mono ?_
    rintro E w4 ⟨rfl,hr,hbt⟩
    have hr':RdAt g s i2 m (.slice (some ⟨sb,0,none⟩) (n+1) c) 5 w4:=hr
    have hbt':But g w2 w4:=((But.refl g w2).drew _).trans hbt
    have k1:w4.cell? ⟨g,1,none⟩=some (.int .i64 (i2:Int)):=cell_block hr' 1
    have z1:w4.frozen? ⟨g,1,none⟩=false:=free_block hr' 1
    have k4:w4.cell? ⟨g,4,none⟩=some (.int .i64 5):=cell_block hr' 4
    have HRx:=Lib.hid hr'
    have HTa:=Lib.hid (hbt'.keep Ta.out hsg)
    have HY2:Hid (w4.cell? ⟨sb,n*3+2,none⟩=some (.string f.nm)):=Lib.hid ((hbt'.cell (p:=⟨sb,_,none⟩) hsb hsg).trans Y2.out)
    have HB4:=Lib.hid (Hb2.out.trans hbt')
    clear hr hr' hbt hbt' y1
    go_upto_region 10 with fail
    generalize hW:World.setCell _ ⟨g,1,none⟩ _=W
    have hRW:RdAt g s (i2+1) m (.slice (some ⟨sb,0,none⟩) (n+1) c) 5 W:=by rw [←hW];exact RdAt.cast (touch_setCell (w:=w4) (i:=1) (v:=.int .i64 ((i2:Int)+1)) HRx.out).1 (by omega)
    have hBW:But g w4 W:=by rw [←hW];exact But.touch (touch_setCell (w:=w4) (i:=1) (v:=.int .i64 ((i2:Int)+1)) HRx.out).2
    have hTW:=hBW.keep HTa.out hsg
    have y2:W.cell? ⟨sb,n*3+2,none⟩=some (.string f.nm):=(cell_block hTW _).trans ((cell_block HTa.out _).symm.trans HY2.out)
    have z2:W.frozen? ⟨sb,n*3+2,none⟩=false:=free_block hTW _
    have HRW:=Lib.hid hRW
    have HBW:=Lib.hid hBW
    have HTW:=Lib.hid hTW
    clear hW hRW hBW hTW
    go_wp2_with fail
    go_end0
    exact field_bad HX4.out (by decide) ((touch_setCell (w:=W) (i:=n*3+2) (v:=.string (mkB x.1)) HTW.out).2.other g (fun e=>hsg e.symm) |>.trans HRW.out) ((touch_setCell (w:=W) (i:=n*3+2) (v:=.string (mkB x.1)) HTW.out).2.below (below_but (HB4.out.trans HBW.out) hgw) hgs)
   | false=>
    have HN2:=Lib.hid (fun w' (hk:∃ j,w'=w2.drewN j)=>next_any g s i2 m (.slice (some ⟨sb,0,none⟩) (n+1) c) 0 w' (by obtain⟨j,rfl⟩:=hk;exact Hr2.out.drew j) hi2 hs)
    obtain⟨z2,hz2⟩:∃ z,hdN (JP.skip (s.data.toList.drop i2))=z:=⟨_,rfl⟩
    rw [hz2] at HN2
    have k4:w2.cell? ⟨g,4,none⟩=some (.int .i64 0):=cell_block Hr2.out 4
    have Hz2:=Lib.hid hz2
    clear hz2
    go_wp2_with fail
    refine (HN2.out _ ⟨_,rfl⟩).mono ?_
    rintro E w4 ⟨rfl,⟨i3,hi3,hdi3,hr⟩,hbt⟩
    have Hr4:=Lib.hid hr
    have Hbt:Hid (But g w2 w4):=Lib.hid (((But.refl g w2).drew _).trans hbt)
    have Hd4:=Lib.hid hdi3
    clear hr hbt hdi3 HN2 HG
    by_cases h58:z2=58
    ·subst h58
     obtain⟨t2,ht2⟩:=hd_zero (c:=58) (by decide) Hz2.out
     obtain⟨hi3l,hd3⟩:=drop_in (Hd4.out.trans ht2)
     have HX4:Hid (X=.more (s.data.toList.drop (i3+1)) m (.ob d x.1 :: st)):=Lib.hid (by rw [HX3.out,hd3];exact fieldN_more HS9.out (by rw [←Hd2.out];exact ht2))
     clear ht2 hd3 HX3
     have n58:((58:Int) != 58)=false:=by decide
     have k1:w4.cell? ⟨g,1,none⟩=some (.int .i64 (i3:Int)):=cell_block Hr4.out 1
     have z1:w4.frozen? ⟨g,1,none⟩=false:=free_block Hr4.out 1
     have HRx:=Hr4
     have HTa:=Lib.hid (Hbt.out.keep Ta.out hsg)
     have HY2:Hid (w4.cell? ⟨sb,n*3+2,none⟩=some (.string f.nm)):=Lib.hid ((Hbt.out.cell (p:=⟨sb,_,none⟩) hsb hsg).trans Y2.out)
     have HB4:=Lib.hid (Hb2.out.trans Hbt.out)
     have HC4:=Lib.hid (Hcore.out.but Hbt.out)
     clear Hr4
     go_upto_region 10 with fail
     generalize hW:World.setCell _ ⟨g,1,none⟩ _=W
     have hRW:RdAt g s (i3+1) m (.slice (some ⟨sb,0,none⟩) (n+1) c) 0 W:=by rw [←hW];exact RdAt.cast (touch_setCell (w:=w4) (i:=1) (v:=.int .i64 ((i3:Int)+1)) HRx.out).1 (by omega)
     have hBW:But g w4 W:=by rw [←hW];exact But.touch (touch_setCell (w:=w4) (i:=1) (v:=.int .i64 ((i3:Int)+1)) HRx.out).2
     have hTW:=hBW.keep HTa.out hsg
     have y2:W.cell? ⟨sb,n*3+2,none⟩=some (.string f.nm):=(cell_block hTW _).trans ((cell_block HTa.out _).symm.trans HY2.out)
     have z2:W.frozen? ⟨sb,n*3+2,none⟩=false:=free_block hTW _
     have HRW:=Lib.hid hRW
     have HBW:=Lib.hid hBW
     have HTW:=Lib.hid hTW
     clear hW hRW hBW hTW
     go_wp2_with fail
     go_end0
     obtain⟨u1,u2⟩:=touch_setCell (w:=W) (i:=n*3+2) (v:=.string (mkB x.1)) HTW.out
     have hTop:Top g W (.slice (some ⟨sb,0,none⟩) (n+1) c) f fs.length sb c cur:={Htop.out with at_:=HTW.out}
     have hC:=HC4.out.but HBW.out
     refine field_more HX4.out ⟨i3+1,_,⟨f.lv,f.pv,mkB x.1⟩ :: fs,T,by omega,rfl,(u2.other g (fun e=>hsg e.symm)).trans HRW.out,core_turn (k:=2) (u:=.string (mkB x.1)) hC hTop (by decide) (by rw [Hn.out];exact u1) u2 rfl rfl rfl hC.ones (fun b hb=>absurd hb (by rw [Hlv.out];intro h;cases h)) ?_,trivial⟩ (u2.below (below_but (HB4.out.trans HBW.out) hgw) hgs)
     exact⟨Hlv.out,rfl,nn,q,Hpq.out,Hob.out.keepJ ((KeepT.but Hbt.out HC4.out.gT).trans ((KeepT.but HBW.out HC4.out.gT).trans (KeepT.touch u2 (HC4.out.vT sb rfl))))⟩
    ·have n58:(z2 != 58)=true:=by rw [bne_iff_ne];exact h58
     have n58':(z2 == 58)=false:=by rw [beq_eq_false_iff_ne];exact h58
     have HX4:Hid (X=.bad 3):=Lib.hid (by rw [HX3.out];exact fieldN_bad HS9.out (by rw [←Hd2.out,Hz2.out];exact h58))
     clear h58 HX3
     go_wp2_with fail
     refine (fail_any g s i3 m (.slice (some ⟨sb,0,none⟩) (n+1) c) 0 3 w4 Hr4.out).mono ?_
     rintro E w5 ⟨rfl,hr,hbt⟩
     have hr':RdAt g s i3 m (.slice (some ⟨sb,0,none⟩) (n+1) c) 3 w5:=hr
     have hbt':But g w2 w5:=Hbt.out.trans hbt
     have k1:w5.cell? ⟨g,1,none⟩=some (.int .i64 (i3:Int)):=cell_block hr' 1
     have z1:w5.frozen? ⟨g,1,none⟩=false:=free_block hr' 1
     have HRx:=Lib.hid hr'
     have HTa:=Lib.hid (hbt'.keep Ta.out hsg)
     have HY2:Hid (w5.cell? ⟨sb,n*3+2,none⟩=some (.string f.nm)):=Lib.hid ((hbt'.cell (p:=⟨sb,_,none⟩) hsb hsg).trans Y2.out)
     have HB4:=Lib.hid (Hb2.out.trans hbt')
     clear hr hr' hbt hbt' Hr4
     go_upto_region 10 with fail
     generalize hW:World.setCell _ ⟨g,1,none⟩ _=W
     have hRW:RdAt g s (i3+1) m (.slice (some ⟨sb,0,none⟩) (n+1) c) 3 W:=by rw [←hW];exact RdAt.cast (touch_setCell (w:=w5) (i:=1) (v:=.int .i64 ((i3:Int)+1)) HRx.out).1 (by omega)
     have hBW:But g w5 W:=by rw [←hW];exact But.touch (touch_setCell (w:=w5) (i:=1) (v:=.int .i64 ((i3:Int)+1)) HRx.out).2
     have hTW:=hBW.keep HTa.out hsg
     have y2:W.cell? ⟨sb,n*3+2,none⟩=some (.string f.nm):=(cell_block hTW _).trans ((cell_block HTa.out _).symm.trans HY2.out)
     have z2:W.frozen? ⟨sb,n*3+2,none⟩=false:=free_block hTW _
     have HRW:=Lib.hid hRW
     have HBW:=Lib.hid hBW
     have HTW:=Lib.hid hTW
     clear hW hRW hBW hTW
     go_wp2_with fail
     go_end0
     exact field_bad HX4.out (by decide) ((touch_setCell (w:=W) (i:=n*3+2) (v:=.string (mkB x.1)) HTW.out).2.other g (fun e=>hsg e.symm) |>.trans HRW.out) ((touch_setCell (w:=W) (i:=n*3+2) (v:=.string (mkB x.1)) HTW.out).2.below (below_but (HB4.out.trans HBW.out) hgw) hgs)
  ·have HX4:Hid (X=.bad 3):=Lib.hid (by rw [HX2.out,hx])
   have k3:w2.cell? ⟨g,3,none⟩=some (.slice (some ⟨sb,0,none⟩) (n+1) c):=cell_block hr2 3
   have k1:w2.cell? ⟨g,1,none⟩=some (.int .i64 (i2:Int)):=cell_block hr2 1
   have k4:w2.cell? ⟨g,4,none⟩=some (.int .i64 3):=cell_block hr2 4
   have z1:w2.frozen? ⟨g,1,none⟩=false:=free_block hr2 1
   have Hr2:=Lib.hid hr2
   have HG:=Lib.hid (fun w' (hk:∃ j,w'=w2.drewN j)=>get_any (x:=[]) (w:=w') (by obtain⟨j,rfl⟩:=hk;exact Hob.out.keepJ (KeepT.drewN w2 j)) hd)
   clear hx hr2 HX2
   go_wp2_with fail
   go_quiet (fail)
   go_wp2_with fail
   refine (HG.out _ ⟨_,rfl⟩).mono ?_
   rintro E w3 ⟨vg,rfl,_,_,k,rfl⟩
   obtain⟨hs9,HS9⟩:∃ b,Hid ((JP.get [] d).isSome=b):=⟨_,Lib.hid rfl⟩
   rw [HS9.out]
   cases hs9 with
   | true=>
    clear HG
    go_wp2_with fail
    refine (fail_any g s i2 m (.slice (some ⟨sb,0,none⟩) (n+1) c) 3 5 _ (Hr2.out.drew _)).mono ?_
    rintro E w4 ⟨rfl,hr,hbt⟩
    have hr':RdAt g s i2 m (.slice (some ⟨sb,0,none⟩) (n+1) c) 3 w4:=hr
    have hbt':But g w2 w4:=((But.refl g w2).drew _).trans hbt
    have k1:w4.cell? ⟨g,1,none⟩=some (.int .i64 (i2:Int)):=cell_block hr' 1
    have z1:w4.frozen? ⟨g,1,none⟩=false:=free_block hr' 1
    have k4:w4.cell? ⟨g,4,none⟩=some (.int .i64 3):=cell_block hr' 4
    have HRx:=Lib.hid hr'
    have HTa:=Lib.hid (hbt'.keep Ta.out hsg)
    have HY2:Hid (w4.cell? ⟨sb,n*3+2,none⟩=some (.string f.nm)):=Lib.hid ((hbt'.cell (p:=⟨sb,_,none⟩) hsb hsg).trans Y2.out)
    have HB4:=Lib.hid (Hb2.out.trans hbt')
    clear hr hr' hbt hbt' y1
    go_upto_region 10 with fail
    generalize hW:World.setCell _ ⟨g,1,none⟩ _=W
    have hRW:RdAt g s (i2+1) m (.slice (some ⟨sb,0,none⟩) (n+1) c) 3 W:=by rw [←hW];exact RdAt.cast (touch_setCell (w:=w4) (i:=1) (v:=.int .i64 ((i2:Int)+1)) HRx.out).1 (by omega)
    have hBW:But g w4 W:=by rw [←hW];exact But.touch (touch_setCell (w:=w4) (i:=1) (v:=.int .i64 ((i2:Int)+1)) HRx.out).2
    have hTW:=hBW.keep HTa.out hsg
    have y2:W.cell? ⟨sb,n*3+2,none⟩=some (.string f.nm):=(cell_block hTW _).trans ((cell_block HTa.out _).symm.trans HY2.out)
    have z2:W.frozen? ⟨sb,n*3+2,none⟩=false:=free_block hTW _
    have HRW:=Lib.hid hRW
    have HBW:=Lib.hid hBW
    have HTW:=Lib.hid hTW
    clear hW hRW hBW hTW
    go_wp2_with fail
    go_end0
    exact field_bad HX4.out (by decide) ((touch_setCell (w:=W) (i:=n*3+2) (v:=.string ByteArray.empty) HTW.out).2.other g (fun e=>hsg e.symm) |>.trans HRW.out) ((touch_setCell (w:=W) (i:=n*3+2) (v:=.string ByteArray.empty) HTW.out).2.below (below_but (HB4.out.trans HBW.out) hgw) hgs)
   | false=>
    have HRx:=Hr2
    have HTa:=Ta
    have HY2:=Y2
    have HB4:=Hb2
    clear HG
    go_upto_region 10 with fail
    generalize hW:World.setCell _ ⟨g,1,none⟩ _=W
    have hRW:RdAt g s (i2+1) m (.slice (some ⟨sb,0,none⟩) (n+1) c) 3 W:=by rw [←hW];exact RdAt.cast (touch_setCell (w:=w2.drewN _) (i:=1) (v:=.int .i64 ((i2:Int)+1)) HRx.out).1 (by omega)
    have hBW:But g w2 W:=by rw [←hW];exact ((But.refl g w2).drew _).trans <| But.touch (touch_setCell (w:=w2.drewN _) (i:=1) (v:=.int .i64 ((i2:Int)+1)) HRx.out).2
    have hTW:=hBW.keep HTa.out hsg
    have y2:W.cell? ⟨sb,n*3+2,none⟩=some (.string f.nm):=(cell_block hTW _).trans ((cell_block HTa.out _).symm.trans HY2.out)
    have z2:W.frozen? ⟨sb,n*3+2,none⟩=false:=free_block hTW _
    have HRW:=Lib.hid hRW
    have HBW:=Lib.hid hBW
    have HTW:=Lib.hid hTW
    clear hW hRW hBW hTW
    go_wp2_with fail
    go_end0
    exact field_bad HX4.out (by decide) ((touch_setCell (w:=W) (i:=n*3+2) (v:=.string ByteArray.empty) HTW.out).2.other g (fun e=>hsg e.symm) |>.trans HRW.out) ((touch_setCell (w:=W) (i:=n*3+2) (v:=.string ByteArray.empty) HTW.out).2.below (below_but (HB4.out.trans HBW.out) hgw) hgs)
 ·have n34:(z != 34)=true:=by rw [bne_iff_ne];exact h34
  have n34':(z == 34)=false:=by rw [beq_eq_false_iff_ne];exact h34
  have HX2:Hid (X=.bad 3):=Lib.hid (by rw [←HX.out];exact fieldP_no (by rw [Hz.out];exact h34))
  clear h34 HN
  go_wp2_with fail
  refine (fail_any g s i m vst 0 3 w1 Hr1.out).mono ?_
  rintro E w2 ⟨rfl,hr,hbt⟩
  have Hr:=Lib.hid hr
  have Hbt:=Lib.hid (Hb1.out.trans hbt)
  clear hr hbt
  go_wp2_with fail
  go_end0
  exact field_bad HX2.out (by decide) Hr.out (below_but Hbt.out hgw)
end Go.Proofs.YtnnceaapodgfbaaGreatDoor
namespace Go.Proofs.YtnnceaapodgfbaaGreatDoor
open Go.RowKit
open JP (JV Bs Fr)
theorem grown_block {w w1:World} {r:Option Nat} (hg:w.grownBy w1 r) {b:Nat} (hb:b<w.heap.size) (hn:r≠some b):w1.heap[b]? = w.heap[b]?:=hg.block b hb (fun e=>hn e.symm)
theorem grown_size {w w1:World} {r:Option Nat} (hg:w.grownBy w1 r):w.heap.size≤w1.heap.size:=hg.size
theorem empty_lst {B:Nat} {T:List Nat} {w:World}:FrAt B T w ⟨.slice none 0 0,.pointer none,⟨#[]⟩⟩ (.lst []):=by
 refine⟨rfl,rfl,fun b h=>(by cases h),1,[],⟨[],rfl,fun _ h=>(by cases h),⟨rfl,.inl ⟨rfl,rfl⟩⟩,fun j cs y h _=>?_⟩,rfl,fun j u x h _=>?_⟩
 ·rw [List.getElem?_nil] at h;cases h
 ·rw [List.getElem?_nil] at h;cases h
theorem empty_ob {n q:Nat} {T:List Nat} {w:World} {t:TypeId} (h:w.heap[q]? = some (.cells #[.slice none 0 0,.slice none 0 0] t (0,0))) (hq:q∉T):ObR (JvR n T) T w q []:=
 ⟨hq,List.Pairwise.nil,.slice none 0 0,.slice none 0 0,cell_block h 0,cell_block h 1,.inl ⟨rfl,rfl⟩,fun h=>absurd rfl h,.inl ⟨rfl,rfl⟩,fun h=>absurd rfl h⟩
theorem core_push {g:Nat} {T:List Nat} {w wA w1:World} {vst v1:Value} {f:GF} {fs:List GF} {fr:Fr} {st:List Fr} (h:Core g T w vst fs st) (ho:OwnAt RFr 3 w1 (g+1) 223 v1 (fs.reverse++[f])) (hA:Below w.heap.size w wA) (hg:wA.grownBy w1 vst.ownBlock)
  (hn:v1.ownBlock=vst.ownBlock∨v1.ownBlock=some wA.heap.size) (hl:f.lv.ownBlock=none) (hfr:FrAt (g+1) (T++v1.ownBlock.toList) w1 f fr):Core g (T++v1.ownBlock.toList) w1 v1 (f :: fs) (fr :: st):=by
 have hsz:w.heap.size≤w1.heap.size:=Nat.le_trans hA.size (grown_size hg)
 have hsub:∀ b∈T++v1.ownBlock.toList,b∈T∨w.heap.size≤b:=fun b hb=>by
  rcases List.mem_append.1 hb with hb | hb
  ·exact .inl hb
  ·rw [Option.mem_toList] at hb
   rcases hn with e | e
   ·exact .inl (h.vT b (by rw [←e];exact hb))
   ·rw [e] at hb
    cases hb
    exact .inr hA.size
 have hold:∀ b,b<w.heap.size→vst.ownBlock≠some b→w1.heap[b]? = w.heap[b]?:=fun b hb hne=>(grown_block hg (Nat.lt_of_lt_of_le hb hA.size) hne).trans (hA.block b hb)
 have hkeep:KeepT (T++v1.ownBlock.toList) w w1:=⟨hg.os.trans hA.os,hg.tape.trans hA.tape,hg.output.trans hA.output,hsz,fun b hb hne=>hold b hb fun e=>hne (List.mem_append_left _ (h.vT b e))⟩
 have hmem:∀ {b},b∈T→b∈T++v1.ownBlock.toList:=fun hb=>List.mem_append_left _ hb
 refine⟨by rw [List.reverse_cons];exact ho,hmem h.gT,fun b hb=>List.mem_append_right _ (by rw [Option.mem_toList];exact hb),fun b hb=>?_,lbs_cons h.nd (fun b hb=>by rw [hl] at hb;cases hb),hfr,?_⟩
 ·rcases List.mem_append.1 hb with hb | hb
  ·exact⟨fun k hk=>hmem ((h.low b hb).1 k hk),Nat.lt_of_lt_of_le (h.low b hb).2 hsz⟩
  ·rw [Option.mem_toList] at hb
   obtain⟨k1,_,cur,k2⟩:=ho.at hb
   exact⟨fun k hk=>hmem ((h.low g h.gT).1 k hk),blk_lt k2⟩
 ·refine AllFr.keep hkeep (AllFr.fresh hsub h.all fun f' hf b hb=>hmem (AllFr.own h.all f' hf b hb).1) fun f' hf b hb=>?_
  obtain⟨k1,k2,cur,k3⟩:=AllFr.own h.all f' hf b hb
  refine hold b (h.low b k1).2 fun e=>?_
  obtain⟨_,_,cur',k4⟩:=h.row.at e
  rw [k3] at k4
  injection k4 with k4
  injection k4 with _ k4
  exact absurd k4 (by decide)
end Go.Proofs.YtnnceaapodgfbaaGreatDoor
namespace Go.Proofs.YtnnceaapodgfbaaGreatDoor
open Go.RowKit
open JP (JV Bs Fr)
theorem stays_fr:Stays RFr:=fun _ _ _ _ _ h=>h
theorem core_pop {g n sb c:Nat} {T:List Nat} {w:World} {f:GF} {fs:List GF} {fr:Fr} {st:List Fr} (h:Core g T w (.slice (some ⟨sb,0,none⟩) (n+1) c) (f :: fs) (fr :: st)) (hn:fs.length=n):Core g T w (.slice (some ⟨sb,0,none⟩) n c) fs st:=by
 have hr:=h.row
 rw [List.reverse_cons] at hr
 exact⟨OwnAt.pop hr (by rw [List.length_reverse];exact hn),h.gT,fun b hb=>h.vT b hb,h.low,lbs_tail h.nd,h.all.2⟩
theorem out_field {g:Nat} {s:ByteArray} {w0 w w':World} {x:JP.R} {e:Ending} (h:FieldAt g s w x e w') (hb:Below g w0 w):e=.returned (.tuple #[])∧∀ v,Out g s w0 x v false w':=by
 obtain⟨h1,h2,h3⟩:=h
 refine⟨h1,fun v=>⟨hb.trans h2,?_⟩⟩
 cases x with
 | bad er=>exact h3
 | more r m st=>exact⟨rfl,h3⟩
 | whole _ _ _ _=>exact h3.elim
theorem beginP_eq {r t:Bs} {c:UInt8} {m:Nat} {st:List Fr} (h:JP.skip r=c :: t):JP.beginP r m st=JP.beginC c t m st:=by unfold JP.beginP;rw [h]
theorem beginP_none {r:Bs} {m:Nat} {st:List Fr} (h:JP.skip r = []):JP.beginP r m st=.bad 3:=by unfold JP.beginP;rw [h]
theorem beginC_no {c:UInt8} {t:Bs} {m:Nat} {st:List Fr} (h:JP.starts c=false):JP.beginC c t m st=.bad 3:=by unfold JP.beginC;rw [if_pos h]
theorem beginC_large {c:UInt8} {t:Bs} {m:Nat} {st:List Fr} (h:JP.starts c=true) (h2:200<m+1):JP.beginC c t m st=.bad 2:=by unfold JP.beginC;rw [if_neg (by rw [h];decide),if_pos h2]
theorem beginC_deep {c:UInt8} {t:Bs} {m:Nat} {st:List Fr} (h:JP.starts c=true) (h2:¬200<m+1) (h3:(c=91∨c=123)∧st.length=10):JP.beginC c t m st=.bad 4:=by unfold JP.beginC;rw [if_neg (by rw [h];decide),if_neg h2,if_pos h3]
theorem beginC_plain {c:UInt8} {t:Bs} {m:Nat} {st:List Fr} (h:JP.starts c=true) (h2:¬200<m+1) (h3:c≠91) (h4:c≠123):JP.beginC c t m st=JP.plainP c (c :: t) (m+1) st:=by
 unfold JP.beginC
 rw [if_neg (by rw [h];decide),if_neg h2,if_neg (fun e=>by rcases e.1 with e | e;exact h3 e;exact h4 e),if_neg h3,if_neg h4]
theorem beginC_list {t:Bs} {m:Nat} {st:List Fr} (h2:¬200<m+1) (h3:st.length≠10):JP.beginC 91 t m st=if hdN (JP.skip t)=93 then .whole (.list []) (JP.skip t).tail (m+1) st else .more (JP.skip t) (m+1) (.lst [] :: st):=by
 unfold JP.beginC
 rw [if_neg (by decide),if_neg h2,if_neg (fun e=>h3 e.2),if_pos rfl]
 by_cases h:hdN (JP.skip t)=93
 ·obtain⟨q,hq⟩:=hd_zero (c:=93) (by decide) h
  rw [if_pos h,if_pos (by rw [hq];rfl)]
 ·rw [if_neg h,if_neg (fun e=>h (by
   cases hs:JP.skip t with
   | nil=>rw [hs] at e;cases e
   | cons x q=>rw [hs] at e;cases e;rfl))]
theorem beginC_obj {t:Bs} {m:Nat} {st:List Fr} (h2:¬200<m+1) (h3:st.length≠10):JP.beginC 123 t m st=if hdN (JP.skip t)=125 then .whole (.obj []) (JP.skip t).tail (m+1) st else JP.fieldP (JP.skip t) (m+1) [] st:=by
 unfold JP.beginC
 rw [if_neg (by decide),if_neg h2,if_neg (fun e=>h3 e.2),if_neg (by decide),if_pos rfl]
 by_cases h:hdN (JP.skip t)=125
 ·obtain⟨q,hq⟩:=hd_zero (c:=125) (by decide) h
  rw [if_pos h,if_pos (by rw [hq];rfl)]
 ·rw [if_neg h,if_neg (fun e=>h (by
   cases hs:JP.skip t with
   | nil=>rw [hs] at e;cases e
   | cons x q=>rw [hs] at e;cases e;rfl))]
theorem starts_no {c:UInt8} {z:Int} (hz:(c.toNat:Int)=z) (h1:(z == 91)=false) (h2:(z == 123)=false) (h3:¬z=34) (h4:¬z=45) (h5:¬z=116) (h6:¬z=102) (h7:¬z=110) (h:z<48∨57<z):JP.starts c=false:=by
 rw [beq_eq_false_iff_ne] at h1 h2
 have e:∀ k:UInt8,z≠(k.toNat:Int)→(c == k)=false:=fun k hk=>by
  rw [beq_eq_false_iff_ne];intro e;exact hk (by rw [←hz,e])
 unfold JP.starts JP.digit
 rw [e 91 (by exact h1),e 123 (by exact h2),e 34 (by exact h3),e 45 (by exact h4),e 116 (by exact h5),e 102 (by exact h6),e 110 (by exact h7)]
 rcases h with h | h
 ·have:¬48≤c:=fun h9=>by have:(48:UInt8).toNat≤c.toNat:=h9;have:(48:UInt8).toNat=48:=rfl;omega
  rw [decide_eq_false this];rfl
 ·have:¬c≤57:=fun h9=>by have:c.toNat≤(57:UInt8).toNat:=h9;have:(57:UInt8).toNat=57:=rfl;omega
  rw [decide_eq_false this,Bool.and_false];rfl
theorem starts_dig {c:UInt8} {z:Int} (hz:(c.toNat:Int)=z) (h1:¬z<48) (h2:¬57<z):JP.starts c=true:=by
 have a1:48≤c:=by show (48:UInt8).toNat≤c.toNat;have:(48:UInt8).toNat=48:=rfl;omega
 have a2:c≤57:=by show c.toNat≤(57:UInt8).toNat;have:(57:UInt8).toNat=57:=rfl;omega
 unfold JP.starts JP.digit
 rw [decide_eq_true a1,decide_eq_true a2]
 simp
theorem outE_of {g:Nat} {s:ByteArray} {w w':World} {x:JP.R} {v:Value} {b:Bool} (h:Out g s w x v b w'):OutE g s w x (.returned (.tuple #[v,.bool b])) w':=⟨v,b,rfl,h⟩
set_option maxRecDepth 100000 in
set_option maxHeartbeats 12800000 in
theorem begin_none (g:Nat) (s:ByteArray) (a m:Nat) (vst:Value) (fs:List GF) (T:List Nat) (st:List Fr) (w:World) (h:RdAt g s a m vst 0 w) (hc:Core g T w vst fs st) (ha:a≤s.size) (hs:s.size≤1048576) (hm:m≤1000) (hst:st.length≤10) (hsk:JP.skip (s.data.toList.drop a) = []) :
  Calls Tryz.prog 94 #[.pointer (some ⟨g,0,none⟩)] w (OutE g s w (JP.beginP (s.data.toList.drop a) m st)):=by
 have hgw:=h.lt
 obtain⟨X,HX⟩:∃ X,Hid (JP.beginP (s.data.toList.drop a) m st=X):=⟨_,Lib.hid rfl⟩
 rw [HX.out]
 have hn:=next_any g s a m vst 0 w h ha hs
 rw [hsk] at hn
 have HN:=Lib.hid hn
 have hz:hdN (([]:Bs))=0:=rfl
 rw [hz] at hn
 have HN:=Lib.hid hn
 have Hc:=Lib.hid hc
 have Hsk:=Lib.hid hsk
 clear h hc hn hsk
 go_enter Tryz.func94,Tryz.ntmps94
 go_wp2_with fail
 refine HN.out.mono ?_
 rintro E w1 ⟨rfl,⟨i,hi,hdi,hr⟩,hb⟩
 have Hr1:=Lib.hid hr
 have Hb1:=Lib.hid hb
 have Hdi:=Lib.hid hdi
 have Hc1:=Lib.hid (Hc.out.but hb)
 clear hr hb hdi HN
 have HX2:Hid (X=.bad 3):=Lib.hid (by rw [←HX.out];exact beginP_none Hsk.out)
 clear HX
 go_wp2_with fail
 refine (fail_any g s i m vst 0 3 w1 Hr1.out).mono ?_
 rintro E w2 ⟨rfl,hr,hbt⟩
 have Hr:=Lib.hid hr
 have Hbt:=Lib.hid (Hb1.out.trans hbt)
 clear hr hbt
 go_wp2_with fail
 go_ret2
 exact outE_of (out_bad HX2.out (by decide) Hr.out (below_but Hbt.out hgw))
set_option maxRecDepth 100000 in
set_option maxHeartbeats 12800000 in
theorem begin_list (g:Nat) (s:ByteArray) (a m:Nat) (vst:Value) (fs:List GF) (T:List Nat) (st:List Fr) (w:World) (h:RdAt g s a m vst 0 w) (hc:Core g T w vst fs st) (ha:a≤s.size) (hs:s.size≤1048576) (hm:m≤1000) (hst:st.length≤10) (t:Bs) (hsk:JP.skip (s.data.toList.drop a)=91 :: t) :
  Calls Tryz.prog 94 #[.pointer (some ⟨g,0,none⟩)] w (OutE g s w (JP.beginP (s.data.toList.drop a) m st)):=by
 have hgw:=h.lt
 obtain⟨X,HX⟩:∃ X,Hid (JP.beginP (s.data.toList.drop a) m st=X):=⟨_,Lib.hid rfl⟩
 rw [HX.out]
 have hn:=next_any g s a m vst 0 w h ha hs
 rw [hsk] at hn
 have HN:=Lib.hid hn
 have hz:hdN ((91 :: t:Bs))=91:=rfl
 rw [hz] at hn
 have HN:=Lib.hid hn
 have Hc:=Lib.hid hc
 have Hsk:=Lib.hid hsk
 clear h hc hn hsk
 go_enter Tryz.func94,Tryz.ntmps94
 go_wp2_with fail
 refine HN.out.mono ?_
 rintro E w1 ⟨rfl,⟨i,hi,hdi,hr⟩,hb⟩
 have Hr1:=Lib.hid hr
 have Hb1:=Lib.hid hb
 have Hdi:=Lib.hid hdi
 have Hc1:=Lib.hid (Hc.out.but hb)
 clear hr hb hdi HN
 have k2:w1.cell? ⟨g,2,none⟩=some (.int .i64 (m:Int)):=cell_block Hr1.out 2
 have z2:w1.frozen? ⟨g,2,none⟩=false:=free_block Hr1.out 2
 have ww1:IntKind.i64.wrap ((m:Int)+1)=(m:Int)+1:=IntWalk.i64_in _ (by omega)
 go_upto_region 7 with fail
 generalize hW:World.setCell _ ⟨g,2,none⟩ _=W2
 obtain⟨m',hm'⟩:∃ m',m+1=m':=⟨_,rfl⟩
 have hR2:RdAt g s i m' vst 0 W2:=by
  rw [←hW];unfold RdAt;rw [show ((m':Nat):Int)=(m:Int)+1 by omega]
  exact (touch_setCell (w:=w1) (i:=2) (v:=.int .i64 ((m:Int)+1)) Hr1.out).1
 have hB2:But g w W2:=by rw [←hW];exact Hb1.out.trans (But.touch (touch_setCell (w:=w1) (i:=2) (v:=.int .i64 ((m:Int)+1)) Hr1.out).2)
 have Hm':=Lib.hid hm'
 have hm9:m'≤1001:=by omega
 have HR2:=Lib.hid hR2
 have HB2:=Lib.hid hB2
 have HC2:=Lib.hid (Hc.out.but hB2)
 have k2:W2.cell? ⟨g,2,none⟩=some (.int .i64 (m':Int)):=cell_block hR2 2
 clear hW hR2 hB2 hm' z2 ww1
 by_cases hl:200<m'
 ·have HX2:Hid (X=.bad 2):=Lib.hid (by rw [←HX.out,beginP_eq Hsk.out];exact beginC_large (by decide) (by rw [Hm'.out];exact hl))
  have p1:(200:Int)<(m':Int):=by omega
  clear HX hl
  go_wp2_with fail
  refine (fail_any g s i m' vst 0 2 W2 HR2.out).mono ?_
  rintro E w3 ⟨rfl,hr,hbt⟩
  have hr':RdAt g s i m' vst 2 w3:=hr
  have k4:w3.cell? ⟨g,4,none⟩=some (.int .i64 2):=cell_block hr' 4
  have Hr:=Lib.hid hr'
  have Hbt:=Lib.hid (HB2.out.trans hbt)
  clear hr hr' hbt
  go_wp2_with fail
  go_ret2
  exact outE_of (out_bad HX2.out (by decide) Hr.out (below_but Hbt.out hgw))
 have p1:¬(200:Int)<(m':Int):=by omega
 have Hl:Hid (¬200<m+1):=Lib.hid (by rw [Hm'.out];exact hl)
 clear hl
 have k4:W2.cell? ⟨g,4,none⟩=some (.int .i64 0):=cell_block HR2.out 4
 have HX0:Hid (X=JP.beginC 91 t m st):=Lib.hid (by rw [←HX.out];exact beginP_eq Hsk.out)
 obtain⟨vb,n,cv,hv,hnl⟩:∃ vb n c,vst=.slice vb n c∧n=st.length:=by
  have hl:=HC2.out.all.len
  rcases HC2.out.row.form with ⟨h1,h2⟩ | ⟨b,c,h1,_⟩
  ·exact⟨none,0,0,h1,by rw [←hl];rw [List.reverse_eq_nil_iff] at h2;rw [h2];rfl⟩
  ·exact⟨_,_,_,h1,by rw [List.length_reverse,hl]⟩
 have Hnl:=Lib.hid hnl
 have hn10:n≤10:=by omega
 have k3:W2.cell? ⟨g,3,none⟩=some (.slice vb n cv):=by rw [←hv];exact cell_block HR2.out 3
 have Hv:=Lib.hid hv
 clear HX hnl hv
 by_cases hd:n=10
 ·have HX2:Hid (X=.bad 4):=Lib.hid (by rw [HX0.out];exact beginC_deep (by decide) Hl.out ⟨by decide,by rw [←Hnl.out];exact hd⟩)
  have p2:((n:Int) == 10)=true:=by rw [beq_iff_eq];omega
  clear hd HX0
  go_wp2_with fail
  refine (fail_any g s i m' vst 0 4 W2 HR2.out).mono ?_
  rintro E w3 ⟨rfl,hr,hbt⟩
  have hr':RdAt g s i m' vst 4 w3:=hr
  have k4:w3.cell? ⟨g,4,none⟩=some (.int .i64 4):=cell_block hr' 4
  have Hr:=Lib.hid hr'
  have Hbt:=Lib.hid (HB2.out.trans hbt)
  clear hr hr' hbt
  go_wp2_with fail
  go_ret2
  exact outE_of (out_bad HX2.out (by decide) Hr.out (below_but Hbt.out hgw))
 have p2:((n:Int) == 10)=false:=by rw [beq_eq_false_iff_ne];omega
 have Hd:Hid (st.length≠10):=Lib.hid (by rw [←Hnl.out];exact hd)
 clear hd
 obtain⟨hil,hdt⟩:=drop_in Hdi.out
 have Hdt:=Lib.hid hdt
 have k1:W2.cell? ⟨g,1,none⟩=some (.int .i64 (i:Int)):=cell_block HR2.out 1
 have z1:W2.frozen? ⟨g,1,none⟩=false:=free_block HR2.out 1
 have ww1:IntKind.i64.wrap ((i:Int)+1)=(i:Int)+1:=IntWalk.i64_in _ (by omega)
 clear hdt
 go_upto_region 16 with fail
 generalize hW:World.setCell _ ⟨g,1,none⟩ _=W3
 have hR3:RdAt g s (i+1) m' vst 0 W3:=by rw [←hW];exact RdAt.cast (touch_setCell (w:=W2) (i:=1) (v:=.int .i64 ((i:Int)+1)) HR2.out).1 (by omega)
 have hB3:But g w W3:=by rw [←hW];exact HB2.out.trans (But.touch (touch_setCell (w:=W2) (i:=1) (v:=.int .i64 ((i:Int)+1)) HR2.out).2)
 have HR3:=Lib.hid hR3
 have HB3:=Lib.hid hB3
 have hC3:=Hc.out.but hB3
 have HC3:=Lib.hid hC3
 have hrow:=hC3.row
 rw [Hv.out] at hrow
 have Hrow:=Lib.hid hrow
 have k3:W3.cell? ⟨g,3,none⟩=some (.slice vb n cv):=by rw [←Hv.out];exact cell_block hR3 3
 obtain⟨i0,hi0,hz0,hz1,hz2⟩:=info_parts Tryz.infoFr
 have hgW:g<W3.heap.size:=hR3.lt
 have Hfl:Hid (fs.reverse.length=n):=Lib.hid (by rw [List.length_reverse,Hnl.out];exact hC3.all.len)
 clear hW hR3 hB3 hC3 hrow k1 k2 z1 ww1
 go_wp2_with (at_builtin;refine wpList_append_ownAt (R:=RFr) (k:=3) (e:=223) (B:=g+1) (l:=fs.reverse) (m:=[⟨.slice none 0 0,.pointer none,⟨#[]⟩⟩]) _ (by rfl) _ _ _ (by rfl) i0 _ 48 Tryz.underlying172 hi0 hz0 hz1 hz2 rfl (by omega) flat_fr one_fr _ (by rfl) (Hrow.out.alloc stays_fr _) (.slice (some ⟨W3.heap.size,0,none⟩) 1 1) (by rfl) (RowAt.one (R:=RFr) (k:=3) (cs:=#[.slice none 0 0,.pointer none,.string ByteArray.empty]) (heap_alloc_new _ _) rfl ⟨rfl,rfl,rfl⟩) (by rw [Hfl.out];unfold maxLen;simp;omega) (by rw [Hfl.out];simp;omega) (by simp;omega) ?_)
 intro v1 w4 hv1 hg4 _ hn4
 have hA:Below W3.heap.size W3 (W3.alloc (.cells #[.slice none 0 0,.pointer none,.string ByteArray.empty] 223)):=(Below.refl _ _).alloc (Nat.le_refl _) _
 have hfr:FrAt (g+1) (T++v1.ownBlock.toList) w4 ⟨.slice none 0 0,.pointer none,⟨#[]⟩⟩ (.lst []):=empty_lst
 have hcore:=core_push HC3.out hv1 hA (by rw [Hv.out];exact hg4) (by rw [Hv.out];simpa only [World.size_alloc] using hn4) rfl hfr
 obtain⟨T4,hT4⟩:∃ T',T++v1.ownBlock.toList=T':=⟨_,rfl⟩
 rw [hT4] at hcore
 have hsb:(Value.slice vb n cv).ownBlock≠some g:=fun e=>by have:=(Hrow.out.at e).1;omega
 have hr4:RdAt g s (i+1) m' vst 0 w4:=(grown_block hg4 (Nat.lt_of_lt_of_le hgW hA.size) hsb).trans ((hA.block g hgW).trans HR3.out)
 have hb4:Below g W3 w4:=⟨hg4.os.trans hA.os,hg4.tape.trans hA.tape,hg4.output.trans hA.output,Nat.le_trans hA.size hg4.size,fun b hb=>(grown_block hg4 (Nat.lt_of_lt_of_le (Nat.lt_trans hb hgW) hA.size) (fun e=>by have:=(Hrow.out.at e).1;omega)).trans (hA.block b (Nat.lt_trans hb hgW))⟩
 obtain⟨sb,c5,cur5,htop⟩:=hcore.top
 obtain⟨tv,tl,tr,tm,_⟩:=htop
 have hfn:fs.length=n:=by rw [←Hfl.out,List.length_reverse]
 rw [hfn] at tv tr
 subst tv
 have HC4:=Lib.hid hcore
 have HR4:=Lib.hid hr4
 have HB4:Hid (Below g w w4):=Lib.hid ((below_but HB3.out hgw).trans hb4)
 have Hfn:=Lib.hid hfn
 have hgw4:=hr4.lt
 have z3:w4.frozen? ⟨g,3,none⟩=false:=free_block hr4 3
 have k3':w4.cell? ⟨g,3,none⟩=some (.slice vb n cv):=by rw [←Hv.out];exact cell_block hr4 3
 clear hv1 hg4 hn4 hA hfr hcore hT4 hr4 hb4 hsb Hrow k3 hfn
 go_upto_region 17 with fail
 generalize hW:World.setCell _ ⟨g,3,none⟩ _=W5
 have hR5:RdAt g s (i+1) m' (.slice (some ⟨sb,0,none⟩) (n+1) c5) 0 W5:=by rw [←hW];exact (touch_setCell (w:=w4) (i:=3) (v:=.slice (some ⟨sb,0,none⟩) (n+1) c5) HR4.out).1
 have hB5:But g w4 W5:=by rw [←hW];exact But.touch (touch_setCell (w:=w4) (i:=3) (v:=.slice (some ⟨sb,0,none⟩) (n+1) c5) HR4.out).2
 have HR5:=Lib.hid hR5
 have HB5:=Lib.hid (HB4.out.trans (below_but hB5 hgw4))
 have HC5:=Lib.hid (HC4.out.but hB5)
 have hgw5:=hR5.lt
 clear hW hR5 hB5 k3' z3 HC4 HR4 HB4
 obtain⟨z6,hz6⟩:∃ z,hdN (JP.skip t)=z:=⟨_,rfl⟩
 have hn6:=next_any g s (i+1) m' (.slice (some ⟨sb,0,none⟩) (n+1) c5) 0 W5 HR5.out (by omega) hs
 rw [Hdt.out,hz6] at hn6
 have HN6:=Lib.hid hn6
 have Hz6:=Lib.hid hz6
 clear hn6 hz6
 go_wp2_with fail
 refine HN6.out.mono ?_
 rintro E w6 ⟨rfl,⟨i6,hi6,hdi6,hr⟩,hb⟩
 have HR6:=Lib.hid hr
 have HB6:=Lib.hid (HB5.out.trans (below_but hb hgw5))
 have HC6:=Lib.hid (HC5.out.but hb)
 have Hd6:=Lib.hid hdi6
 have hgw6:=hr.lt
 clear hr hb hdi6 HN6
 have HX1:=Lib.hid (HX0.out.trans (beginC_list Hl.out Hd.out))
 clear HX0
 by_cases h93:z6=93
 ·subst h93
  obtain⟨t7,ht7⟩:=hd_zero (c:=93) (by decide) Hz6.out
  obtain⟨hi7,hd7⟩:=drop_in (Hd6.out.trans ht7)
  have HX2:Hid (X=.whole (.list []) (s.data.toList.drop (i6+1)) m' st):=Lib.hid (by rw [HX1.out,if_pos Hz6.out,ht7,hd7,Hm'.out];rfl)
  clear HX1 ht7 hd7
  go_wp2_with fail
  refine (close_any g s i6 m' sb n c5 (.iface 188 (.slice none 0 0)) w6 HR6.out hi7 hs tr tm (by omega)).mono ?_
  rintro E w7 ⟨rfl,hr,hbt⟩
  have Hr:=Lib.hid hr
  have Hbt:=Lib.hid hbt
  clear hr hbt
  go_wp2_with fail
  go_ret2
  exact outE_of (out_whole HX2.out ⟨i6+1,_,fs,T4,hi7,rfl,Hr.out,core_pop (HC6.out.but Hbt.out) Hfn.out,1,_,rfl,.inl ⟨rfl,rfl⟩,fun h=>absurd rfl h⟩ (HB6.out.trans (below_but Hbt.out hgw6)))
 ·have HX2:Hid (X=.more (s.data.toList.drop i6) m' (.lst [] :: st)):=Lib.hid (by rw [HX1.out,if_neg (by rw [Hz6.out];exact h93),Hd6.out,Hm'.out])
  have n93:(z6 == 93)=false:=by rw [beq_eq_false_iff_ne];exact h93
  clear HX1 h93
  go_wp2_with fail
  go_ret2
  exact outE_of (out_more HX2.out ⟨i6,_,_,T4,hi6,rfl,HR6.out,HC6.out,trivial⟩ HB6.out)
set_option maxRecDepth 100000 in
set_option maxHeartbeats 12800000 in
theorem begin_obj (g:Nat) (s:ByteArray) (a m:Nat) (vst:Value) (fs:List GF) (T:List Nat) (st:List Fr) (w:World) (h:RdAt g s a m vst 0 w) (hc:Core g T w vst fs st) (ha:a≤s.size) (hs:s.size≤1048576) (hm:m≤1000) (hst:st.length≤10) (t:Bs) (hsk:JP.skip (s.data.toList.drop a)=123 :: t) :
  Calls Tryz.prog 94 #[.pointer (some ⟨g,0,none⟩)] w (OutE g s w (JP.beginP (s.data.toList.drop a) m st)):=by
 have hgw:=h.lt
 obtain⟨X,HX⟩:∃ X,Hid (JP.beginP (s.data.toList.drop a) m st=X):=⟨_,Lib.hid rfl⟩
 rw [HX.out]
 have hn:=next_any g s a m vst 0 w h ha hs
 rw [hsk] at hn
 have HN:=Lib.hid hn
 have hz:hdN ((123 :: t:Bs))=123:=rfl
 rw [hz] at hn
 have HN:=Lib.hid hn
 have Hc:=Lib.hid hc
 have Hsk:=Lib.hid hsk
 clear h hc hn hsk
 go_enter Tryz.func94,Tryz.ntmps94
 go_wp2_with fail
 refine HN.out.mono ?_
 rintro E w1 ⟨rfl,⟨i,hi,hdi,hr⟩,hb⟩
 have Hr1:=Lib.hid hr
 have Hb1:=Lib.hid hb
 have Hdi:=Lib.hid hdi
 have Hc1:=Lib.hid (Hc.out.but hb)
 clear hr hb hdi HN
 have k2:w1.cell? ⟨g,2,none⟩=some (.int .i64 (m:Int)):=cell_block Hr1.out 2
 have z2:w1.frozen? ⟨g,2,none⟩=false:=free_block Hr1.out 2
 have ww1:IntKind.i64.wrap ((m:Int)+1)=(m:Int)+1:=IntWalk.i64_in _ (by omega)
 go_upto_region 7 with fail
 generalize hW:World.setCell _ ⟨g,2,none⟩ _=W2
 obtain⟨m',hm'⟩:∃ m',m+1=m':=⟨_,rfl⟩
 have hR2:RdAt g s i m' vst 0 W2:=by
  rw [←hW];unfold RdAt;rw [show ((m':Nat):Int)=(m:Int)+1 by omega]
  exact (touch_setCell (w:=w1) (i:=2) (v:=.int .i64 ((m:Int)+1)) Hr1.out).1
 have hB2:But g w W2:=by rw [←hW];exact Hb1.out.trans (But.touch (touch_setCell (w:=w1) (i:=2) (v:=.int .i64 ((m:Int)+1)) Hr1.out).2)
 have Hm':=Lib.hid hm'
 have hm9:m'≤1001:=by omega
 have HR2:=Lib.hid hR2
 have HB2:=Lib.hid hB2
 have HC2:=Lib.hid (Hc.out.but hB2)
 have k2:W2.cell? ⟨g,2,none⟩=some (.int .i64 (m':Int)):=cell_block hR2 2
 clear hW hR2 hB2 hm' z2 ww1
 by_cases hl:200<m'
 ·have HX2:Hid (X=.bad 2):=Lib.hid (by rw [←HX.out,beginP_eq Hsk.out];exact beginC_large (by decide) (by rw [Hm'.out];exact hl))
  have p1:(200:Int)<(m':Int):=by omega
  clear HX hl
  go_wp2_with fail
  refine (fail_any g s i m' vst 0 2 W2 HR2.out).mono ?_
  rintro E w3 ⟨rfl,hr,hbt⟩
  have hr':RdAt g s i m' vst 2 w3:=hr
  have k4:w3.cell? ⟨g,4,none⟩=some (.int .i64 2):=cell_block hr' 4
  have Hr:=Lib.hid hr'
  have Hbt:=Lib.hid (HB2.out.trans hbt)
  clear hr hr' hbt
  go_wp2_with fail
  go_ret2
  exact outE_of (out_bad HX2.out (by decide) Hr.out (below_but Hbt.out hgw))
 have p1:¬(200:Int)<(m':Int):=by omega
 have Hl:Hid (¬200<m+1):=Lib.hid (by rw [Hm'.out];exact hl)
 clear hl
 have k4:W2.cell? ⟨g,4,none⟩=some (.int .i64 0):=cell_block HR2.out 4
 have HX0:Hid (X=JP.beginC 123 t m st):=Lib.hid (by rw [←HX.out];exact beginP_eq Hsk.out)
 obtain⟨vb,n,cv,hv,hnl⟩:∃ vb n c,vst=.slice vb n c∧n=st.length:=by
  have hl:=HC2.out.all.len
  rcases HC2.out.row.form with ⟨h1,h2⟩ | ⟨b,c,h1,_⟩
  ·exact⟨none,0,0,h1,by rw [←hl];rw [List.reverse_eq_nil_iff] at h2;rw [h2];rfl⟩
  ·exact⟨_,_,_,h1,by rw [List.length_reverse,hl]⟩
 have Hnl:=Lib.hid hnl
 have hn10:n≤10:=by omega
 have k3:W2.cell? ⟨g,3,none⟩=some (.slice vb n cv):=by rw [←hv];exact cell_block HR2.out 3
 have Hv:=Lib.hid hv
 clear HX hnl hv
 by_cases hd:n=10
 ·have HX2:Hid (X=.bad 4):=Lib.hid (by rw [HX0.out];exact beginC_deep (by decide) Hl.out ⟨by decide,by rw [←Hnl.out];exact hd⟩)
  have p2:((n:Int) == 10)=true:=by rw [beq_iff_eq];omega
  clear hd HX0
  go_wp2_with fail
  refine (fail_any g s i m' vst 0 4 W2 HR2.out).mono ?_
  rintro E w3 ⟨rfl,hr,hbt⟩
  have hr':RdAt g s i m' vst 4 w3:=hr
  have k4:w3.cell? ⟨g,4,none⟩=some (.int .i64 4):=cell_block hr' 4
  have Hr:=Lib.hid hr'
  have Hbt:=Lib.hid (HB2.out.trans hbt)
  clear hr hr' hbt
  go_wp2_with fail
  go_ret2
  exact outE_of (out_bad HX2.out (by decide) Hr.out (below_but Hbt.out hgw))
 have p2:((n:Int) == 10)=false:=by rw [beq_eq_false_iff_ne];omega
 have Hd:Hid (st.length≠10):=Lib.hid (by rw [←Hnl.out];exact hd)
 clear hd
 obtain⟨hil,hdt⟩:=drop_in Hdi.out
 have Hdt:=Lib.hid hdt
 have k1:W2.cell? ⟨g,1,none⟩=some (.int .i64 (i:Int)):=cell_block HR2.out 1
 have z1:W2.frozen? ⟨g,1,none⟩=false:=free_block HR2.out 1
 have ww1:IntKind.i64.wrap ((i:Int)+1)=(i:Int)+1:=IntWalk.i64_in _ (by omega)
 clear hdt
 go_upto_region 22 with fail
 generalize hW:World.setCell _ ⟨g,1,none⟩ _=W3
 have hR3:RdAt g s (i+1) m' vst 0 W3:=by rw [←hW];exact RdAt.cast (touch_setCell (w:=W2) (i:=1) (v:=.int .i64 ((i:Int)+1)) HR2.out).1 (by omega)
 have hB3:But g w W3:=by rw [←hW];exact HB2.out.trans (But.touch (touch_setCell (w:=W2) (i:=1) (v:=.int .i64 ((i:Int)+1)) HR2.out).2)
 have HR3:=Lib.hid hR3
 have HB3:=Lib.hid hB3
 have hC3:=Hc.out.but hB3
 have HC3:=Lib.hid hC3
 have hrow:=hC3.row
 rw [Hv.out] at hrow
 have Hrow:=Lib.hid hrow
 have k3:W3.cell? ⟨g,3,none⟩=some (.slice vb n cv):=by rw [←Hv.out];exact cell_block hR3 3
 obtain⟨i0,hi0,hz0,hz1,hz2⟩:=info_parts Tryz.infoFr
 have hgW:g<W3.heap.size:=hR3.lt
 have Hfl:Hid (fs.reverse.length=n):=Lib.hid (by rw [List.length_reverse,Hnl.out];exact hC3.all.len)
 clear hW hR3 hB3 hC3 hrow k1 k2 z1 ww1
 go_wp2_with (at_builtin;refine wpList_append_ownAt (R:=RFr) (k:=3) (e:=223) (B:=g+1) (l:=fs.reverse) (m:=[⟨.slice none 0 0,.pointer (some ⟨W3.heap.size,0,none⟩),⟨#[]⟩⟩]) _ (by rfl) _ _ _ (by rfl) i0 _ 48 Tryz.underlying172 hi0 hz0 hz1 hz2 rfl (by omega) flat_fr one_fr _ (by rfl) ((Hrow.out.alloc stays_fr _).alloc stays_fr _) (.slice (some ⟨W3.heap.size+1,0,none⟩) 1 1) (by rfl) (RowAt.one (R:=RFr) (k:=3) (cs:=#[.slice none 0 0,.pointer (some ⟨W3.heap.size,0,none⟩),.string ByteArray.empty]) (by have h9:=heap_alloc_new (W3.alloc (.cells #[.slice none 0 0,.slice none 0 0] 192)) (.cells #[.slice none 0 0,.pointer (some ⟨W3.heap.size,0,none⟩),.string ByteArray.empty] 223);rw [World.size_alloc] at h9;exact h9) rfl ⟨rfl,rfl,rfl⟩) (by rw [Hfl.out];unfold maxLen;simp;omega) (by rw [Hfl.out];simp;omega) (by simp;omega) ?_)
 intro v1 w4 hv1 hg4 _ hn4
 have hA:Below W3.heap.size W3 ((W3.alloc (.cells #[.slice none 0 0,.slice none 0 0] 192)).alloc (.cells #[.slice none 0 0,.pointer (some ⟨W3.heap.size,0,none⟩),.string ByteArray.empty] 223)):=((Below.refl _ _).alloc (Nat.le_refl _) _).alloc (by simp) _
 have hfr:FrAt (g+1) (T++v1.ownBlock.toList) w4 ⟨.slice none 0 0,.pointer (some ⟨W3.heap.size,0,none⟩),⟨#[]⟩⟩ (.ob [] []):=by
  have q1:w4.heap[W3.heap.size]? = some (.cells #[.slice none 0 0,.slice none 0 0] 192 (0,0)):=(grown_block hg4 (by simp;omega) (fun e=>absurd (Hrow.out.at e).2.1 (Nat.lt_irrefl _))).trans (below_block ((Below.refl _ (W3.alloc (.cells #[.slice none 0 0,.slice none 0 0] 192))).alloc (Nat.le_refl _) _) (heap_alloc_new W3 _))
  have q2:W3.heap.size∉T++v1.ownBlock.toList:=fun hm=>by
   rcases List.mem_append.1 hm with hm | hm
   ·exact absurd (HC3.out.low _ hm).2 (Nat.lt_irrefl _)
   ·rw [Option.mem_toList] at hm
    rcases hn4 with e | e
    ·rw [e] at hm
     exact absurd (Hrow.out.at hm).2.1 (Nat.lt_irrefl _)
    ·rw [e] at hm
     have h9:=Option.some.inj hm
     omega
  exact⟨rfl,rfl,1,W3.heap.size,rfl,empty_ob q1 q2⟩
 have hcore:=core_push HC3.out hv1 hA (by rw [Hv.out];exact hg4) (by rw [Hv.out];simpa only [World.size_alloc] using hn4) rfl hfr
 obtain⟨T4,hT4⟩:∃ T',T++v1.ownBlock.toList=T':=⟨_,rfl⟩
 rw [hT4] at hcore
 have hsb:(Value.slice vb n cv).ownBlock≠some g:=fun e=>by have:=(Hrow.out.at e).1;omega
 have hr4:RdAt g s (i+1) m' vst 0 w4:=(grown_block hg4 (Nat.lt_of_lt_of_le hgW hA.size) hsb).trans ((hA.block g hgW).trans HR3.out)
 have hb4:Below g W3 w4:=⟨hg4.os.trans hA.os,hg4.tape.trans hA.tape,hg4.output.trans hA.output,Nat.le_trans hA.size hg4.size,fun b hb=>(grown_block hg4 (Nat.lt_of_lt_of_le (Nat.lt_trans hb hgW) hA.size) (fun e=>by have:=(Hrow.out.at e).1;omega)).trans (hA.block b (Nat.lt_trans hb hgW))⟩
 obtain⟨sb,c5,cur5,htop⟩:=hcore.top
 obtain⟨tv,tl,tr,tm,_⟩:=htop
 have hfn:fs.length=n:=by rw [←Hfl.out,List.length_reverse]
 rw [hfn] at tv tr
 subst tv
 have HC4:=Lib.hid hcore
 have HR4:=Lib.hid hr4
 have HB4:Hid (Below g w w4):=Lib.hid ((below_but HB3.out hgw).trans hb4)
 have Hfn:=Lib.hid hfn
 have hgw4:=hr4.lt
 have z3:w4.frozen? ⟨g,3,none⟩=false:=free_block hr4 3
 have k3':w4.cell? ⟨g,3,none⟩=some (.slice vb n cv):=by rw [←Hv.out];exact cell_block hr4 3
 clear hv1 hg4 hn4 hA hfr hcore hT4 hr4 hb4 hsb Hrow k3 hfn
 go_upto_region 23 with fail
 generalize hW:World.setCell _ ⟨g,3,none⟩ _=W5
 have hR5:RdAt g s (i+1) m' (.slice (some ⟨sb,0,none⟩) (n+1) c5) 0 W5:=by rw [←hW];exact (touch_setCell (w:=w4) (i:=3) (v:=.slice (some ⟨sb,0,none⟩) (n+1) c5) HR4.out).1
 have hB5:But g w4 W5:=by rw [←hW];exact But.touch (touch_setCell (w:=w4) (i:=3) (v:=.slice (some ⟨sb,0,none⟩) (n+1) c5) HR4.out).2
 have HR5:=Lib.hid hR5
 have HB5:=Lib.hid (HB4.out.trans (below_but hB5 hgw4))
 have HC5:=Lib.hid (HC4.out.but hB5)
 have hgw5:=hR5.lt
 clear hW hR5 hB5 k3' z3 HC4 HR4 HB4
 obtain⟨z6,hz6⟩:∃ z,hdN (JP.skip t)=z:=⟨_,rfl⟩
 have hn6:=next_any g s (i+1) m' (.slice (some ⟨sb,0,none⟩) (n+1) c5) 0 W5 HR5.out (by omega) hs
 rw [Hdt.out,hz6] at hn6
 have HN6:=Lib.hid hn6
 have Hz6:=Lib.hid hz6
 clear hn6 hz6
 go_wp2_with fail
 refine HN6.out.mono ?_
 rintro E w6 ⟨rfl,⟨i6,hi6,hdi6,hr⟩,hb⟩
 have HR6:=Lib.hid hr
 have HB6:=Lib.hid (HB5.out.trans (below_but hb hgw5))
 have HC6:=Lib.hid (HC5.out.but hb)
 have Hd6:=Lib.hid hdi6
 have hgw6:=hr.lt
 clear hr hb hdi6 HN6
 have HX1:=Lib.hid (HX0.out.trans (beginC_obj Hl.out Hd.out))
 clear HX0
 by_cases h125:z6=125
 ·subst h125
  obtain⟨t7,ht7⟩:=hd_zero (c:=125) (by decide) Hz6.out
  obtain⟨hi7,hd7⟩:=drop_in (Hd6.out.trans ht7)
  have HX2:Hid (X=.whole (.obj []) (s.data.toList.drop (i6+1)) m' st):=Lib.hid (by rw [HX1.out,if_pos Hz6.out,ht7,hd7,Hm'.out];rfl)
  clear HX1 ht7 hd7
  have hA6:Below w6.heap.size w6 (w6.alloc (.cells #[.slice none 0 0,.slice none 0 0] 192)):=(Below.refl _ _).alloc (Nat.le_refl _) _
  have HRA:=Lib.hid (show RdAt g s i6 m' (.slice (some ⟨sb,0,none⟩) (n+1) c5) 0 (w6.alloc (.cells #[.slice none 0 0,.slice none 0 0] 192)) from below_block hA6 HR6.out)
  have HCA:=Lib.hid (HC6.out.but (But.of hA6))
  have HBA:=Lib.hid (HB6.out.trans (hA6.mono (Nat.le_of_lt hgw6)))
  clear hA6
  go_wp2_with fail
  refine (close_any g s i6 m' sb n c5 (.iface 190 (.pointer (some ⟨w6.heap.size,0,none⟩))) _ HRA.out hi7 hs tr tm (by omega)).mono ?_
  rintro E w7 ⟨rfl,hr,hbt⟩
  have Hr:=Lib.hid hr
  have Hbt:=Lib.hid hbt
  clear hr hbt
  go_wp2_with fail
  go_ret2
  have q1:w7.heap[w6.heap.size]? = some (.cells #[.slice none 0 0,.slice none 0 0] 192 (0,0)):=Hbt.out.keep (heap_alloc_new w6 _) (by omega)
  exact outE_of (out_whole HX2.out ⟨i6+1,_,fs,T4,hi7,rfl,Hr.out,core_pop (HCA.out.but Hbt.out) Hfn.out,1,_,rfl,empty_ob q1 (fun hm=>absurd (HC6.out.low _ hm).2 (Nat.lt_irrefl _))⟩ (HBA.out.trans (below_but Hbt.out (HRA.out.lt))))
 ·have HX2:Hid (X=JP.fieldP (s.data.toList.drop i6) m' [] st):=Lib.hid (by rw [HX1.out,if_neg (by rw [Hz6.out];exact h125),Hd6.out,Hm'.out])
  have n125:(z6 == 125)=false:=by rw [beq_eq_false_iff_ne];exact h125
  clear HX1 h125
  go_wp2_with fail
  refine (field_any g s i6 m' _ _ fs T4 [] [] st w6 HR6.out HC6.out hi6 hs (by simp) (by rw [Hfn.out];omega)).mono ?_
  intro E w7 hf
  obtain⟨rfl,ho⟩:=out_field hf HB6.out
  have HO:=Lib.hid ho
  clear hf ho
  go_wp2_with fail
  go_ret2
  exact outE_of (by rw [HX2.out];exact HO.out _)
set_option maxRecDepth 100000 in
set_option maxHeartbeats 12800000 in
theorem begin_other (g:Nat) (s:ByteArray) (a m:Nat) (vst:Value) (fs:List GF) (T:List Nat) (st:List Fr) (w:World) (h:RdAt g s a m vst 0 w) (hc:Core g T w vst fs st) (ha:a≤s.size) (hs:s.size≤1048576) (hm:m≤1000) (hst:st.length≤10) (c:UInt8) (t:Bs) (hsk:JP.skip (s.data.toList.drop a)=c :: t) (h91:c.toNat≠91) (h123:c.toNat≠123) :
  Calls Tryz.prog 94 #[.pointer (some ⟨g,0,none⟩)] w (OutE g s w (JP.beginP (s.data.toList.drop a) m st)):=by
 have m91:((c.toNat:Int) == 91)=false:=by rw [beq_eq_false_iff_ne];omega
 have m123:((c.toNat:Int) == 123)=false:=by rw [beq_eq_false_iff_ne];omega
 have Hne:Hid (c≠91∧c≠123):=Lib.hid ⟨fun e=>h91 (by rw [e];rfl),fun e=>h123 (by rw [e];rfl)⟩
 obtain⟨z,hzc⟩:∃ z:Int,(c.toNat:Int)=z:=⟨_,rfl⟩
 rw [hzc] at m91 m123
 clear h91 h123
 have hgw:=h.lt
 obtain⟨X,HX⟩:∃ X,Hid (JP.beginP (s.data.toList.drop a) m st=X):=⟨_,Lib.hid rfl⟩
 rw [HX.out]
 have hn:=next_any g s a m vst 0 w h ha hs
 rw [hsk] at hn
 have HN:=Lib.hid hn
 have hz:hdN ((c :: t))=z:=by rw [←hzc];rfl
 rw [hz] at hn
 have HN:=Lib.hid hn
 have Hc:=Lib.hid hc
 have Hsk:=Lib.hid hsk
 clear h hc hn hsk
 go_enter Tryz.func94,Tryz.ntmps94
 go_wp2_with fail
 refine HN.out.mono ?_
 rintro E w1 ⟨rfl,⟨i,hi,hdi,hr⟩,hb⟩
 have Hr1:=Lib.hid hr
 have Hb1:=Lib.hid hb
 have Hdi:=Lib.hid hdi
 have Hc1:=Lib.hid (Hc.out.but hb)
 clear hr hb hdi HN
 have Hzc:=Lib.hid hzc
 clear hzc
 go_upto_region 3 with fail
 go_cut [43] (fun u43 wx=>u43=.bool (!JP.starts c)∧w1=wx)
 case first=>
  have hzc:=Hzc.out
  by_cases e34:z=34
  ·subst e34
   have hS:JP.starts c=true:=by rw [u8_eq (a:=c) (b:=34) (by show c.toNat=34;omega)];decide
   have HS:=Lib.hid hS
   clear hS hzc
   go_wp2_with fail
   go_meet
   exact⟨by rw [HS.out];rfl,rfl⟩
  have n34:(z != 34)=true:=by rw [bne_iff_ne];exact e34
  by_cases e45:z=45
  ·subst e45
   have hS:JP.starts c=true:=by rw [u8_eq (a:=c) (b:=45) (by show c.toNat=45;omega)];decide
   have HS:=Lib.hid hS
   clear hS hzc
   go_wp2_with fail
   go_meet
   exact⟨by rw [HS.out];rfl,rfl⟩
  have n45:(z != 45)=true:=by rw [bne_iff_ne];exact e45
  by_cases e116:z=116
  ·subst e116
   have hS:JP.starts c=true:=by rw [u8_eq (a:=c) (b:=116) (by show c.toNat=116;omega)];decide
   have HS:=Lib.hid hS
   clear hS hzc
   go_wp2_with fail
   go_meet
   exact⟨by rw [HS.out];rfl,rfl⟩
  have n116:(z != 116)=true:=by rw [bne_iff_ne];exact e116
  by_cases e102:z=102
  ·subst e102
   have hS:JP.starts c=true:=by rw [u8_eq (a:=c) (b:=102) (by show c.toNat=102;omega)];decide
   have HS:=Lib.hid hS
   clear hS hzc
   go_wp2_with fail
   go_meet
   exact⟨by rw [HS.out];rfl,rfl⟩
  have n102:(z != 102)=true:=by rw [bne_iff_ne];exact e102
  by_cases e110:z=110
  ·subst e110
   have hS:JP.starts c=true:=by rw [u8_eq (a:=c) (b:=110) (by show c.toNat=110;omega)];decide
   have HS:=Lib.hid hS
   clear hS hzc
   go_wp2_with fail
   go_meet
   exact⟨by rw [HS.out];rfl,rfl⟩
  have n110:(z != 110)=true:=by rw [bne_iff_ne];exact e110
  by_cases l1:z<48
  ·have hS:JP.starts c=false:=starts_no Hzc.out m91 m123 e34 e45 e116 e102 e110 (.inl l1)
   have HS:=Lib.hid hS
   have p5:decide (z<48)=true:=decide_eq_true l1
   clear hS hzc e34 e45 e116 e102 e110
   go_wp2_with fail
   go_meet
   exact⟨by rw [HS.out];rfl,rfl⟩
  have p5:decide (z<48)=false:=decide_eq_false l1
  by_cases l2:57<z
  ·have hS:JP.starts c=false:=starts_no Hzc.out m91 m123 e34 e45 e116 e102 e110 (.inr l2)
   have HS:=Lib.hid hS
   have p6:decide (57<z)=true:=decide_eq_true l2
   clear hS hzc e34 e45 e116 e102 e110
   go_wp2_with fail
   go_meet
   exact⟨by rw [HS.out];rfl,rfl⟩
  have p6:decide (57<z)=false:=decide_eq_false l2
  have hS:JP.starts c=true:=starts_dig Hzc.out l1 l2
  have HS:=Lib.hid hS
  clear hS hzc e34 e45 e116 e102 e110
  go_wp2_with fail
  go_meet
  exact⟨by rw [HS.out];rfl,rfl⟩
 case rest=>
 obtain⟨rfl,rfl⟩:=hcut
 cases hS:JP.starts c with
 | false=>
  have HX2:Hid (X=.bad 3):=Lib.hid (by rw [←HX.out,beginP_eq Hsk.out];exact beginC_no hS)
  clear HX hS
  go_wp2_with fail
  refine (fail_any g s i m vst 0 3 w1 Hr1.out).mono ?_
  rintro E w2 ⟨rfl,hr,hbt⟩
  have Hr:=Lib.hid hr
  have Hbt:=Lib.hid (Hb1.out.trans hbt)
  clear hr hbt
  go_wp2_with fail
  go_ret2
  exact outE_of (out_bad HX2.out (by decide) Hr.out (below_but Hbt.out hgw))
 | true=>
 have HS:=Lib.hid hS
 clear hS
 have k2:w1.cell? ⟨g,2,none⟩=some (.int .i64 (m:Int)):=cell_block Hr1.out 2
 have z2:w1.frozen? ⟨g,2,none⟩=false:=free_block Hr1.out 2
 have ww1:IntKind.i64.wrap ((m:Int)+1)=(m:Int)+1:=IntWalk.i64_in _ (by omega)
 go_upto_region 7 with fail
 generalize hW:World.setCell _ ⟨g,2,none⟩ _=W2
 obtain⟨m',hm'⟩:∃ m',m+1=m':=⟨_,rfl⟩
 have hR2:RdAt g s i m' vst 0 W2:=by
  rw [←hW];unfold RdAt;rw [show ((m':Nat):Int)=(m:Int)+1 by omega]
  exact (touch_setCell (w:=w1) (i:=2) (v:=.int .i64 ((m:Int)+1)) Hr1.out).1
 have hB2:But g w W2:=by rw [←hW];exact Hb1.out.trans (But.touch (touch_setCell (w:=w1) (i:=2) (v:=.int .i64 ((m:Int)+1)) Hr1.out).2)
 have Hm':=Lib.hid hm'
 have hm9:m'≤1001:=by omega
 have HR2:=Lib.hid hR2
 have HB2:=Lib.hid hB2
 have HC2:=Lib.hid (Hc.out.but hB2)
 have k2:W2.cell? ⟨g,2,none⟩=some (.int .i64 (m':Int)):=cell_block hR2 2
 clear hW hR2 hB2 hm' z2 ww1
 by_cases hl:200<m'
 ·have HX2:Hid (X=.bad 2):=Lib.hid (by rw [←HX.out,beginP_eq Hsk.out];exact beginC_large HS.out (by rw [Hm'.out];exact hl))
  have p1:(200:Int)<(m':Int):=by omega
  clear HX hl
  go_wp2_with fail
  refine (fail_any g s i m' vst 0 2 W2 HR2.out).mono ?_
  rintro E w3 ⟨rfl,hr,hbt⟩
  have hr':RdAt g s i m' vst 2 w3:=hr
  have k4:w3.cell? ⟨g,4,none⟩=some (.int .i64 2):=cell_block hr' 4
  have Hr:=Lib.hid hr'
  have Hbt:=Lib.hid (HB2.out.trans hbt)
  clear hr hr' hbt
  go_wp2_with fail
  go_ret2
  exact outE_of (out_bad HX2.out (by decide) Hr.out (below_but Hbt.out hgw))
 have p1:¬(200:Int)<(m':Int):=by omega
 have Hl:Hid (¬200<m+1):=Lib.hid (by rw [Hm'.out];exact hl)
 clear hl
 have k4:W2.cell? ⟨g,4,none⟩=some (.int .i64 0):=cell_block HR2.out 4
 have HX2:Hid (X=JP.plainP c (s.data.toList.drop i) m' st):=Lib.hid (by rw [←HX.out,beginP_eq Hsk.out,beginC_plain HS.out Hl.out Hne.out.1 Hne.out.2,Hm'.out,Hdi.out])
 obtain⟨hil,_⟩:=drop_in Hdi.out
 have hci:s[i]=c:=by have h9:=Hdi.out;rw [drop_at hil] at h9;exact (List.cons.inj h9).1
 have hp:=plain_any g s i m' vst fs T st W2 HR2.out HC2.out hil hs
 rw [hci,Hzc.out,←HX2.out] at hp
 have HP:=Lib.hid hp
 clear hp hci HX HX2
 go_wp2_with fail
 refine HP.out.mono ?_
 rintro E w3 ⟨v,rfl,ho⟩
 have HO:=Lib.hid ho
 clear ho
 go_wp2_with fail
 go_ret2
 exact outE_of ⟨(below_but HB2.out hgw).trans HO.out.1,HO.out.2⟩
set_option maxRecDepth 100000 in
set_option maxHeartbeats 12800000 in
theorem begin_any (g:Nat) (s:ByteArray) (a m:Nat) (vst:Value) (fs:List GF) (T:List Nat) (st:List Fr) (w:World) (h:RdAt g s a m vst 0 w) (hc:Core g T w vst fs st) (ha:a≤s.size) (hs:s.size≤1048576) (hm:m≤1000) (hst:st.length≤10)  :
  Calls Tryz.prog 94 #[.pointer (some ⟨g,0,none⟩)] w (OutE g s w (JP.beginP (s.data.toList.drop a) m st)):=by
 cases hk:JP.skip (s.data.toList.drop a) with
 | nil=>exact begin_none g s a m vst fs T st w h hc ha hs hm hst hk
 | cons c t=>
  by_cases h1:c.toNat=91
  ·rw [u8_eq (a:=c) (b:=91) h1] at hk
   exact begin_list g s a m vst fs T st w h hc ha hs hm hst t hk
  ·by_cases h2:c.toNat=123
   ·rw [u8_eq (a:=c) (b:=123) h2] at hk
    exact begin_obj g s a m vst fs T st w h hc ha hs hm hst t hk
   ·exact begin_other g s a m vst fs T st w h hc ha hs hm hst c t hk h1 h2
end Go.Proofs.YtnnceaapodgfbaaGreatDoor
namespace Go.Proofs.YtnnceaapodgfbaaGreatDoor
open Go.RowKit
open JP (JV Bs Fr)
theorem below_drew1j (w:World):Below w.heap.size w w.drew:=⟨rfl,rfl,rfl,Nat.le_refl _,fun _ _=>rfl⟩
theorem ObR.upsJ {n m:Nat} {T:List Nat} {w:World} {q:Nat} {d:List (Bs × JV)} (h:ObR (JvR n T) T w q d) (hm:n≤m):ObR (JvR m T) T w q d:=by
 have:JvAt (n+1) T w (.iface 190 (.pointer (some ⟨q,0,none⟩))) (.obj d):=⟨q,rfl,h⟩
 obtain⟨q',e,h'⟩:=this.ups (m:=m+1) (by omega)
 have:q'=q:=by injection e with _ e;injection e with e;injection e with e;injection e with e;exact e.symm
 subst this
 exact h'
theorem putN_len (n:Bs) (v:JV):∀ d:List (Bs × JV),(JP.put n v d).length≤d.length+1
 | []=>Nat.le_refl _
 | (k,x) :: r=>by
  have ih:=putN_len n v r
  unfold JP.put
  split
  ·simp only [List.length_cons];omega
  ·split
   ·simp only [List.length_cons];omega
   ·simp only [List.length_cons];omega
theorem goes_ob_close {v:JV} {r t:Bs} {m:Nat} {d:List (Bs × JV)} {n:Bs} {st:List Fr} (h:JP.skip r=125 :: t):JP.goesP v r m (.ob d n) st=.whole (.obj (JP.put n v d)) t m st:=by
 unfold JP.goesP
 rw [h]
 dsimp only
 rw [if_pos rfl]
theorem goes_ob_more {v:JV} {r t:Bs} {m:Nat} {d:List (Bs × JV)} {n:Bs} {st:List Fr} (h:JP.skip r=44 :: t):JP.goesP v r m (.ob d n) st=JP.fieldP t m (JP.put n v d) st:=by
 unfold JP.goesP
 rw [h]
 dsimp only
 rw [if_neg (by decide),if_pos rfl]
theorem goes_ob_bad {v:JV} {r:Bs} {m:Nat} {d:List (Bs × JV)} {n:Bs} {st:List Fr} (h:hdN (JP.skip r)≠125) (h2:hdN (JP.skip r)≠44):JP.goesP v r m (.ob d n) st=.bad 3:=by
 unfold JP.goesP
 cases hs:JP.skip r with
 | nil=>rfl
 | cons c t=>
  rw [hs] at h h2
  dsimp only
  rw [if_neg (fun e=>h (by rw [e];rfl)),if_neg (fun e=>h2 (by rw [e];rfl))]
theorem goes_l_close {v:JV} {r t:Bs} {m:Nat} {d:List JV} {st:List Fr} (h:JP.skip r=93 :: t):JP.goesP v r m (.lst d) st=.whole (.list (d++[v])) t m st:=by
 unfold JP.goesP
 rw [h]
 dsimp only
 rw [if_pos rfl]
theorem goes_l_more {v:JV} {r t:Bs} {m:Nat} {d:List JV} {st:List Fr} (h:JP.skip r=44 :: t):JP.goesP v r m (.lst d) st=.more t m (.lst (d++[v]) :: st):=by
 unfold JP.goesP
 rw [h]
 dsimp only
 rw [if_neg (by decide),if_pos rfl]
theorem goes_l_bad {v:JV} {r:Bs} {m:Nat} {d:List JV} {st:List Fr} (h:hdN (JP.skip r)≠93) (h2:hdN (JP.skip r)≠44):JP.goesP v r m (.lst d) st=.bad 3:=by
 unfold JP.goesP
 cases hs:JP.skip r with
 | nil=>rfl
 | cons c t=>
  rw [hs] at h h2
  dsimp only
  rw [if_neg (fun e=>h (by rw [e];rfl)),if_neg (fun e=>h2 (by rw [e];rfl))]
set_option maxRecDepth 100000 in
set_option maxHeartbeats 12800000 in
theorem goes_ob (g:Nat) (s:ByteArray) (a m:Nat) (vst:Value) (f:GF) (fs:List GF) (T:List Nat) (d:List (Bs × JV)) (nm:Bs) (st:List Fr) (w:World) (v:Value) (y:JV) (nv:Nat) (h:RdAt g s a m vst 0 w) (hc:Core g T w vst (f :: fs) (.ob d nm :: st)) (hv:JvAt nv T w v y) (ha:a≤s.size) (hs:s.size≤1048576) (hd:d.length≤1048574) (hfl:fs.length≤1048576) :
  Calls Tryz.prog 97 #[.pointer (some ⟨g,0,none⟩),v] w (OutE g s w (JP.goesP y (s.data.toList.drop a) m (.ob d nm) st)):=by
 have hgw:=h.lt
 have H:=Lib.hid h
 have Hc:=Lib.hid hc
 obtain⟨X,HX⟩:∃ X,Hid (JP.goesP y (s.data.toList.drop a) m (.ob d nm) st=X):=⟨_,Lib.hid rfl⟩
 rw [HX.out]
 clear h hc
 obtain⟨sb,c,cur,htop⟩:=Hc.out.top
 obtain⟨tv,tl,tr,tm,ta,ts,t0,t1,t2⟩:=htop
 have Htop:Hid (Top g w vst f fs.length sb c cur):=Lib.hid ⟨tv,tl,tr,tm,ta,ts,t0,t1,t2⟩
 obtain⟨n,hn⟩:∃ n,fs.length=n:=⟨_,rfl⟩
 have Hn:=Lib.hid hn
 rw [hn] at tv tr t0 t1 t2 hfl
 have hsb:sb<w.heap.size:=blk_lt ta
 have hsg:sb≠g:=by omega
 have hgs:g≤sb:=by omega
 have hsT:sb∈T:=Hc.out.vT sb (by rw [tv];rfl)
 have q1:(0:Int)≤((n+1:Nat):Int) - 1:=by omega
 have q2:(((n+1:Nat):Int) - 1).toNat=n:=by omega
 have q3:((n+1:Nat):Int) - 1<((n+1:Nat):Int):=by omega
 have v1:IntKind.i64.wrap (((n+1:Nat):Int) - 1)=(n:Int):=by rw [IntWalk.i64_in _ (by omega)];omega
 have v2:IntKind.i64.wrap (n:Int)=(n:Int):=IntWalk.i64_in _ (by omega)
 have q4:(n:Int)<(n:Int)+1:=by omega
 have q5:(0:Int)≤(n:Int):=by omega
 have Ta:=Lib.hid ta
 subst tv
 have hall:=Hc.out.all.1
 obtain⟨hlv,hnm,nn,q,hpq,hob⟩:=hall
 rw [hpq] at t1
 rw [hnm] at t2
 obtain⟨N,hN1,hN2⟩:∃ N,nn≤N∧nv≤N:=⟨max nn nv,Nat.le_max_left _ _,Nat.le_max_right _ _⟩
 have Hob:=Lib.hid (hob.upsJ hN1)
 have Hjv:=Lib.hid (hv.ups hN2)
 have y1:w.cell? ⟨sb,n*3+1,none⟩=some (.pointer (some ⟨q,0,none⟩)):=(cell_block ta _).trans t1
 have y2:w.cell? ⟨sb,n*3+2,none⟩=some (.string (mkB nm)):=(cell_block ta _).trans t2
 have k3:w.cell? ⟨g,3,none⟩=some (.slice (some ⟨sb,0,none⟩) (n+1) c):=cell_block H.out 3
 have Hlv:=Lib.hid hlv
 have Hnm:=Lib.hid hnm
 have Hpq:=Lib.hid hpq
 obtain⟨D,hD⟩:∃ D,JP.put nm y d=D:=⟨_,rfl⟩
 have hDl:D.length≤1048576:=by
  have:=putN_len nm y d
  rw [hD] at this;omega
 have HD:=Lib.hid hD
 clear hob hv hlv hnm hpq ta ts t0 t1 t2 tl hn hN1 hN2 hD
 go_enter Tryz.func97,Tryz.ntmps97
 go_wp2_with fail
 go_quiet (fail)
 go_upto_region 4 with fail
 generalize hW:World.drewN w _=W1
 have hR1:RdAt g s a m (.slice (some ⟨sb,0,none⟩) (n+1) c) 0 W1:=by rw [←hW];exact H.out
 have hB1:Below w.heap.size w W1:=by rw [←hW];exact below_drewN0 w _
 have HR1:=Lib.hid hR1
 have HB1:=Lib.hid hB1
 have p1:W1.cell? ⟨sb,n*3+1,none⟩=some (.pointer (some ⟨q,0,none⟩)):=by rw [←hW];exact y1
 have p2:W1.cell? ⟨sb,n*3+2,none⟩=some (.string (mkB nm)):=by rw [←hW];exact y2
 have hsb1:sb<W1.heap.size:=Nat.lt_of_lt_of_le hsb hB1.size
 have HW:Hid (∀ w',Below W1.heap.size W1 w'→ObR (JvR N T) T w' q d∧JvAt N T w' v y∧∀ b∈T,b<w'.heap.size):=Lib.hid fun w' hb=>by
  have hk:KeepT T w w':=(KeepT.of hB1).trans (KeepT.of hb)
  exact⟨Hob.out.keepJ hk,Hjv.out.keepT hk,fun b hm=>Nat.lt_of_lt_of_le (Hc.out.low b hm).2 hk.size⟩
 clear hW hR1 hB1 k3 y1 y2
 refine wp_region_relB 11 (fun ii U w'=>match ii with
  | 0=>U 0=.pointer (some ⟨sb,n*3,none⟩)
  | 1=>U 1=.pointer (some ⟨sb,n*3,none⟩)
  | 2=>U 2=.pointer (some ⟨sb,n*3,none⟩)
  | 3=>U 3=.pointer (some ⟨sb,n*3+1,none⟩)
  | 4=>U 4=.pointer (some ⟨q,0,none⟩)
  | 5=>U 5=.pointer (some ⟨sb,n*3,none⟩)
  | 6=>U 6=.pointer (some ⟨sb,n*3,none⟩)
  | 7=>U 7=.pointer (some ⟨sb,n*3+2,none⟩)
  | 8=>U 8=.string (mkB nm)
  | 9=>U 9=v
  | 10=>∃ q',U 10=.pointer (some ⟨q',0,none⟩)∧ObR (JvR N T) T w' q' D
  | _=>True)
  (fun | 2=>[1] | 3=>[2] | 4=>[3] | 6=>[5] | 7=>[6] | 8=>[7] | 10=>[4,8,9] | _=>[]) (by kernel_rfl) (by kernel_rfl) ?_ ⟨?_,?_,?_,?_,?_,?_,?_,?_,?_,?_,?_,trivial⟩ ?_
 ·intro j u w1 w2 hb h
  match j,h with
  | 0,h=>exact h
  | 1,h=>exact h
  | 2,h=>exact h
  | 3,h=>exact h
  | 4,h=>exact h
  | 5,h=>exact h
  | 6,h=>exact h
  | 7,h=>exact h
  | 8,h=>exact h
  | 9,h=>exact h
  | 10,h=>exact (by obtain⟨q',e,h⟩:=h;exact⟨q',e,h.keepJ (KeepT.of hb)⟩)
  | _+11,h=>trivial
 ·intro x w' hb hd
  have hbr:Below W1.heap.size W1 w':=(below_drew1j W1).trans hb
  refine owes_here (.pointer (some ⟨sb,n*3,none⟩)) (by rfl) ?_ rfl
  simp only [putAll,List.take_succ_cons,List.take_zero]
  go_simp
 ·intro x w' hb hd
  have hbr:Below W1.heap.size W1 w':=(below_drew1j W1).trans hb
  refine owes_here (.pointer (some ⟨sb,n*3,none⟩)) (by rfl) ?_ rfl
  simp only [putAll,List.take_succ_cons,List.take_zero]
  go_simp
 ·intro x w' hb hd
  have hbr:Below W1.heap.size W1 w':=(below_drew1j W1).trans hb
  have k1:x 1=.pointer (some ⟨sb,n*3,none⟩):=hd 1 (by simp)
  refine owes_here (.pointer (some ⟨sb,n*3,none⟩)) (by rfl) ?_ rfl
  simp only [putAll,List.take_succ_cons,List.take_zero]
  go_simp
 ·intro x w' hb hd
  have hbr:Below W1.heap.size W1 w':=(below_drew1j W1).trans hb
  have k1:x 2=.pointer (some ⟨sb,n*3,none⟩):=hd 2 (by simp)
  refine owes_here (.pointer (some ⟨sb,n*3+1,none⟩)) (by rfl) ?_ rfl
  simp only [putAll,List.take_succ_cons,List.take_zero]
  go_simp
 ·intro x w' hb hd
  have hbr:Below W1.heap.size W1 w':=(below_drew1j W1).trans hb
  have k1:x 3=.pointer (some ⟨sb,n*3+1,none⟩):=hd 3 (by simp)
  have d1:=(hbr.cell (p:=⟨sb,n*3+1,none⟩) hsb1).trans p1
  refine owes_here (.pointer (some ⟨q,0,none⟩)) (by rfl) ?_ rfl
  simp only [putAll,List.take_succ_cons,List.take_zero]
  go_simp
 ·intro x w' hb hd
  have hbr:Below W1.heap.size W1 w':=(below_drew1j W1).trans hb
  refine owes_here (.pointer (some ⟨sb,n*3,none⟩)) (by rfl) ?_ rfl
  simp only [putAll,List.take_succ_cons,List.take_zero]
  go_simp
 ·intro x w' hb hd
  have hbr:Below W1.heap.size W1 w':=(below_drew1j W1).trans hb
  have k1:x 5=.pointer (some ⟨sb,n*3,none⟩):=hd 5 (by simp)
  refine owes_here (.pointer (some ⟨sb,n*3,none⟩)) (by rfl) ?_ rfl
  simp only [putAll,List.take_succ_cons,List.take_zero]
  go_simp
 ·intro x w' hb hd
  have hbr:Below W1.heap.size W1 w':=(below_drew1j W1).trans hb
  have k1:x 6=.pointer (some ⟨sb,n*3,none⟩):=hd 6 (by simp)
  refine owes_here (.pointer (some ⟨sb,n*3+2,none⟩)) (by rfl) ?_ rfl
  simp only [putAll,List.take_succ_cons,List.take_zero]
  go_simp
 ·intro x w' hb hd
  have hbr:Below W1.heap.size W1 w':=(below_drew1j W1).trans hb
  have k1:x 7=.pointer (some ⟨sb,n*3+2,none⟩):=hd 7 (by simp)
  have d1:=(hbr.cell (p:=⟨sb,n*3+2,none⟩) hsb1).trans p2
  refine owes_here (.string (mkB nm)) (by rfl) ?_ rfl
  simp only [putAll,List.take_succ_cons,List.take_zero]
  go_simp
 ·intro x w' hb hd
  have hbr:Below W1.heap.size W1 w':=(below_drew1j W1).trans hb
  refine owes_here v (by rfl) ?_ rfl
  simp only [putAll,List.take_succ_cons,List.take_zero]
  go_simp
 ·intro x w' hb hd
  have hbr:Below W1.heap.size W1 w':=(below_drew1j W1).trans hb
  have k1:x 4=.pointer (some ⟨q,0,none⟩):=hd 4 (by simp)
  have k2:x 8=.string (mkB nm):=hd 8 (by simp)
  have k3:x 9=v:=hd 9 (by simp)
  refine owes_call 131 #[.pointer (some ⟨q,0,none⟩),.string (mkB nm),v] (by rfl) ?_ ((with_any (x:=nm) (HW.out w' hbr).1 (HW.out w' hbr).2.1 (HW.out w' hbr).2.2 (by omega)).mono fun e w2 h=>(by obtain⟨q',e1,h1,h2⟩:=h;exact⟨_,e1,⟨q',rfl,by rw [←HD.out];exact h1⟩,h2⟩))
  simp only [putAll,List.take_succ_cons,List.take_zero]
  go_simp
 ·intro x w' hb hR
  have hbr:Below W1.heap.size W1 w':=(below_drew1j W1).trans hb
  have k0:x 0=.pointer (some ⟨sb,n*3,none⟩):=hR 0 (by omega)
  obtain⟨q',k10,hob'⟩:∃ q',x 10=.pointer (some ⟨q',0,none⟩)∧ObR (JvR N T) T w' q' D:=hR 10 (by omega)
  have Hob2:=Lib.hid hob'
  have HB2:=Lib.hid (HB1.out.trans (hbr.mono HB1.out.size))
  have HR2:Hid (RdAt g s a m (.slice (some ⟨sb,0,none⟩) (n+1) c) 0 w'):=Lib.hid (below_block hbr HR1.out)
  have HC2:=Lib.hid (Hc.out.but (But.of HB2.out))
  have HTa2:=Lib.hid (below_block HB2.out Ta.out)
  have z1:w'.frozen? ⟨sb,n*3+1,none⟩=false:=free_block HTa2.out _
  have d1:w'.cell? ⟨sb,n*3+1,none⟩=some (.pointer (some ⟨q,0,none⟩)):=(hbr.cell (p:=⟨sb,n*3+1,none⟩) hsb1).trans p1
  clear hR hb hbr hob' p1 p2 HW Hob Hjv
  simp only [putAll,List.take_succ_cons,List.take_zero,List.drop_succ_cons,List.drop_zero]
  try simp only [Act.put,List.setIfInBounds_toArray,List.set_cons_zero,List.set_cons_succ]
  go_upto_region 5 with fail
  generalize hW:World.setCell _ ⟨sb,n*3+1,none⟩ _=W4
  obtain⟨u1,u2⟩:W4.heap[sb]? = some (.cells (cur.setIfInBounds (n*3+1) (.pointer (some ⟨q',0,none⟩))) 223 (0,0))∧Touch sb w' W4:=by rw [←hW];exact touch_setCell (w:=w') (i:=n*3+1) (v:=.pointer (some ⟨q',0,none⟩)) HTa2.out
  have hTop:Top g w' (.slice (some ⟨sb,0,none⟩) (n+1) c) f fs.length sb c cur:={Htop.out with at_:=HTa2.out}
  have hob4:ObR (JvR N T) T W4 q' D:=Hob2.out.keepJ (KeepT.touch u2 hsT)
  have hcore:=core_turn (k:=1) (u:=.pointer (some ⟨q',0,none⟩)) (f':=⟨f.lv,.pointer (some ⟨q',0,none⟩),f.nm⟩) (fr':=.ob D nm) HC2.out hTop (by decide) (by rw [Hn.out];exact u1) u2 rfl rfl rfl ⟨HC2.out.ones.1,rfl⟩ (fun b hb=>absurd hb (by rw [Hlv.out];intro h;cases h)) ⟨Hlv.out,Hnm.out,N,q',rfl,hob4⟩
  have HC4:=Lib.hid hcore
  have hR4:RdAt g s a m (.slice (some ⟨sb,0,none⟩) (n+1) c) 0 W4:=(u2.other g (fun e=>hsg e.symm)).trans HR2.out
  have HR4:=Lib.hid hR4
  have HB4:Hid (Below g w W4):=Lib.hid (u2.below (HB2.out.mono (Nat.le_of_lt hgw)) hgs)
  have Hob4:=Lib.hid hob4
  have HU4:=Lib.hid u1
  have hgw4:=hR4.lt
  have hsb4:sb<W4.heap.size:=blk_lt u1
  have hpin:(cur.setIfInBounds (n*3+1) (.pointer (some ⟨q',0,none⟩)))[n*3+1]? = some (.pointer (some ⟨q',0,none⟩)):=Array.getElem?_setIfInBounds_self_of_lt (by rw [Htop.out.size];omega)
  have Hpin:=Lib.hid hpin
  clear hW u1 u2 hTop hob4 hcore hR4 Hob2 HB2 HR2 HC2 HTa2 z1 d1 hpin
  obtain⟨z6,hz6⟩:∃ z,hdN (JP.skip (s.data.toList.drop a))=z:=⟨_,rfl⟩
  have hn6:=next_any g s a m (.slice (some ⟨sb,0,none⟩) (n+1) c) 0 W4 HR4.out ha hs
  rw [hz6] at hn6
  have HN6:=Lib.hid hn6
  have Hz6:=Lib.hid hz6
  clear hn6 hz6
  go_wp2_with fail
  refine HN6.out.mono ?_
  rintro E w6 ⟨rfl,⟨i6,hi6,hdi6,hr⟩,hb⟩
  have HR6:=Lib.hid hr
  have HB6:=Lib.hid (HB4.out.trans (below_but hb hgw4))
  have HC6:=Lib.hid (HC4.out.but hb)
  have Hob6:=Lib.hid (Hob4.out.keepJ (KeepT.but hb HC4.out.gT))
  have Hd6:=Lib.hid hdi6
  have hgw6:=hr.lt
  have hs46:=hb.size
  have h6:w6.cell? ⟨sb,n*3+1,none⟩=some (.pointer (some ⟨q',0,none⟩)):=(hb.cell (p:=⟨sb,_,none⟩) hsb4 hsg).trans ((cell_block HU4.out _).trans Hpin.out)
  clear hr hb hdi6 HN6
  by_cases h125:z6=125
  ·subst h125
   obtain⟨t7,ht7⟩:=hd_zero (c:=125) (by decide) Hz6.out
   obtain⟨hi7,hd7⟩:=drop_in (Hd6.out.trans ht7)
   have HX2:Hid (X=.whole (.obj D) (s.data.toList.drop (i6+1)) m st):=Lib.hid (by rw [←HX.out,hd7,←HD.out];exact goes_ob_close ht7)
   clear HX ht7 hd7
   go_wp2_with fail
   refine (close_any g s i6 m sb n c (.iface 190 (.pointer (some ⟨q',0,none⟩))) _ HR6.out hi7 hs tr tm hfl).mono ?_
   rintro E w7 ⟨rfl,hr,hbt⟩
   have Hr:=Lib.hid hr
   have Hbt:=Lib.hid hbt
   clear hr hbt
   go_wp2_with fail
   go_ret2
   exact outE_of (out_whole HX2.out ⟨i6+1,_,fs,T,hi7,rfl,Hr.out,core_pop (HC6.out.but Hbt.out) Hn.out,N+1,q',rfl,Hob6.out.keepJ (KeepT.but Hbt.out HC6.out.gT)⟩ (HB6.out.trans (below_but Hbt.out hgw6)))
  have n125:(z6 == 125)=false:=by rw [beq_eq_false_iff_ne];exact h125
  by_cases h44:z6=44
  ·subst h44
   obtain⟨t7,ht7⟩:=hd_zero (c:=44) (by decide) Hz6.out
   obtain⟨hi7,hd7⟩:=drop_in (Hd6.out.trans ht7)
   have HX2:Hid (X=JP.fieldP (s.data.toList.drop (i6+1)) m D st):=Lib.hid (by rw [←HX.out,hd7,←HD.out];exact goes_ob_more ht7)
   have k1:w6.cell? ⟨g,1,none⟩=some (.int .i64 (i6:Int)):=cell_block HR6.out 1
   have z1:w6.frozen? ⟨g,1,none⟩=false:=free_block HR6.out 1
   have ww1:IntKind.i64.wrap ((i6:Int)+1)=(i6:Int)+1:=IntWalk.i64_in _ (by omega)
   clear HX ht7 hd7 h125
   go_upto_region 15 with fail
   generalize hW:World.setCell _ ⟨g,1,none⟩ _=W7
   have hR7:RdAt g s (i6+1) m (.slice (some ⟨sb,0,none⟩) (n+1) c) 0 W7:=by rw [←hW];exact RdAt.cast (touch_setCell (w:=w6) (i:=1) (v:=.int .i64 ((i6:Int)+1)) HR6.out).1 (by omega)
   have hB7:But g w6 W7:=by rw [←hW];exact But.touch (touch_setCell (w:=w6) (i:=1) (v:=.int .i64 ((i6:Int)+1)) HR6.out).2
   have h7:W7.cell? ⟨sb,n*3+1,none⟩=some (.pointer (some ⟨q',0,none⟩)):=(hB7.cell (p:=⟨sb,_,none⟩) (Nat.lt_of_lt_of_le hsb4 hs46) hsg).trans h6
   have HR7:=Lib.hid hR7
   have HB7:=Lib.hid (HB6.out.trans (below_but hB7 hgw6))
   have HC7:=Lib.hid (HC6.out.but hB7)
   clear hW hR7 hB7 k1 z1 ww1 h6
   go_wp2_with fail
   refine (field_any g s (i6+1) m _ _ fs T D nm st W7 HR7.out HC7.out hi7 hs hDl (by rw [Hn.out];exact hfl)).mono ?_
   intro E w8 hf
   obtain⟨rfl,ho⟩:=out_field hf HB7.out
   have HO:=Lib.hid ho
   clear hf ho
   go_wp2_with fail
   go_ret2
   exact outE_of (by rw [HX2.out];exact HO.out _)
  ·have HX2:Hid (X=.bad 3):=Lib.hid (by rw [←HX.out];exact goes_ob_bad (by rw [Hz6.out];exact h125) (by rw [Hz6.out];exact h44))
   have n44:(z6 == 44)=false:=by rw [beq_eq_false_iff_ne];exact h44
   clear HX h125 h44
   go_wp2_with fail
   refine (fail_any g s i6 m (.slice (some ⟨sb,0,none⟩) (n+1) c) 0 3 w6 HR6.out).mono ?_
   rintro E w7 ⟨rfl,hr,hbt⟩
   have Hr:=Lib.hid hr
   have Hbt:=Lib.hid (HB6.out.trans (below_but hbt hgw6))
   clear hr hbt
   go_wp2_with fail
   go_ret2
   exact outE_of (out_bad HX2.out (by decide) Hr.out Hbt.out)
end Go.Proofs.YtnnceaapodgfbaaGreatDoor
namespace Go.Proofs.YtnnceaapodgfbaaGreatDoor
open Go.RowKit
open JP (JV Bs Fr)
theorem no_type {w:World} {b:Nat} {x y:Array Value} (h1:w.heap[b]? = some (.cells x 223 (0,0))) (h2:w.heap[b]? = some (.cells y 125 (0,0))):False:=by
 rw [h1] at h2
 injection h2 with h2
 injection h2 with _ h2
 exact absurd h2 (by decide)
theorem get_snoc {α:Type} {l:List α} {x y:α} {j:Nat} (h:(l++[x])[j]? = some y):(l[j]? = some y)∨(j=l.length∧y=x):=by
 rcases Nat.lt_or_ge j l.length with hj | hj
 ·exact .inl (by rw [List.getElem?_append_left hj] at h;exact h)
 ·rw [List.getElem?_append_right hj] at h
  have:j - l.length=0:=by
   rcases Nat.eq_zero_or_pos (j - l.length) with h0 | h0
   ·exact h0
   ·rw [List.getElem?_eq_none (by rw [List.length_singleton];omega)] at h;cases h
  rw [this] at h
  simp only [List.getElem?_cons_zero,Option.some.injEq] at h
  exact .inr ⟨by omega,h.symm⟩
theorem core_app {g:Nat} {T:List Nat} {w wA w1 W:World} {vst v1 v:Value} {y:JV} {nv:Nat} {f:GF} {fs:List GF} {d:List JV} {st:List Fr} {sb c:Nat} {cur:Array Value} {xs:List Value} {n:Nat} (h:Core g T w vst (f :: fs) (.lst d :: st)) (t:Top g w vst f fs.length sb c cur) (hA:Below w.heap.size w wA)
  (hxs:xs.length=d.length) (hx:∀ (j:Nat) (u:Value) (x:JV),xs[j]? = some u→d[j]? = some x→JvAt n T w u x) (hv:JvAt nv T w v y)
  (ho:OwnAt RVal 1 w1 (g+1) 125 v1 (xs++[v])) (hg:wA.grownBy w1 f.lv.ownBlock) (hn:v1.ownBlock=f.lv.ownBlock∨v1.ownBlock=some wA.heap.size)
  (hh:W.heap[sb]? = some (.cells (cur.setIfInBounds (fs.length*3+0) v1) 223 (0,0))) (ht:Touch sb w1 W) :
  Core g (T++v1.ownBlock.toList) W vst (⟨v1,f.pv,f.nm⟩ :: fs) (.lst (d++[y]) :: st)∧KeepT (T++v1.ownBlock.toList) w W:=by
 have hsT:sb∈T:=h.vT sb (by rw [t.v];rfl)
 have hsb:sb<w.heap.size:=blk_lt t.at_
 have hf1:=h.all.1
 obtain⟨fp,fn,fT,_⟩:=hf1
 have hsz1:w.heap.size≤w1.heap.size:=Nat.le_trans hA.size hg.size
 have hsz:w.heap.size≤W.heap.size:=by rw [ht.size];exact hsz1
 have hsub:∀ b∈T++v1.ownBlock.toList,b∈T∨w.heap.size≤b:=fun b hb=>by
  rcases List.mem_append.1 hb with hb | hb
  ·exact .inl hb
  ·rw [Option.mem_toList] at hb
   rcases hn with e | e
   ·exact .inl (fT b (by rw [←e];exact hb))
   ·rw [e] at hb
    cases hb
    exact .inr hA.size
 have hmem:∀ {b},b∈T→b∈T++v1.ownBlock.toList:=fun hb=>List.mem_append_left _ hb
 have hold1:∀ b,b<w.heap.size→f.lv.ownBlock≠some b→w1.heap[b]? = w.heap[b]?:=fun b hb hne=>(grown_block hg (Nat.lt_of_lt_of_le hb hA.size) hne).trans (hA.block b hb)
 have hold:∀ b,b<w.heap.size→f.lv.ownBlock≠some b→b≠sb→W.heap[b]? = w.heap[b]?:=fun b hb hne hs=>(ht.other b hs).trans (hold1 b hb hne)
 have hkeep:KeepT (T++v1.ownBlock.toList) w W:=⟨ht.os.trans (hg.os.trans hA.os),ht.tape.trans (hg.tape.trans hA.tape),ht.output.trans (hg.output.trans hA.output),hsz,fun b hb hne=>hold b hb (fun e=>hne (hmem (fT b e))) (fun e=>hne (hmem (e▸hsT)))⟩
 have hv1b:∀ b,v1.ownBlock=some b→b≠sb:=fun b hb e=>by
  obtain⟨_,_,cur',hc⟩:=ho.at hb
  subst e
  have h1:w1.heap[b]? = some (.cells cur 223 (0,0)):=(hold1 b hsb (fun e=>by
   obtain⟨_,_,cur2,hc2⟩:=FrAt.own h.all.1 e
   exact no_type t.at_ hc2)).trans t.at_
  exact no_type h1 hc
 refine⟨⟨?_,hmem h.gT,fun b hb=>hmem (h.vT b hb),fun b hb=>?_,lbs_cons (lbs_tail h.nd) (fun b hb hm=>?_),⟨fp,fn,fun b hb=>List.mem_append_right _ (by rw [Option.mem_toList];exact hb),max n nv,xs++[v],?_,?_,?_⟩,?_⟩,hkeep⟩
 ·exact row_top h t (k:=0) (u:=v1) (by decide) hh rfl rfl rfl ⟨(by obtain⟨a9,c9,e9,_⟩:=ho.row.len;rw [e9];rfl),h.ones.2⟩
 ·rcases List.mem_append.1 hb with hb | hb
  ·exact⟨fun k hk=>hmem ((h.low b hb).1 k hk),Nat.lt_of_lt_of_le (h.low b hb).2 hsz⟩
  ·rw [Option.mem_toList] at hb
   obtain⟨k1,k2,_⟩:=ho.at hb
   exact⟨fun k hk=>hmem ((h.low g h.gT).1 k hk),by rw [ht.size];exact k2⟩
 ·rcases hn with e | e
  ·exact lbs_head h.nd (b:=b) (by rw [←e];exact hb) hm
  ·rw [hb] at e
   obtain⟨f',hf',hb'⟩:=lbs_mem.1 hm
   have:=(h.low b (AllFr.own h.all.2 f' hf' b hb').1).2
   have h9:=Option.some.inj e
   have:=hA.size
   omega
 ·exact ho.touch flat_val ht hv1b
 ·rw [List.length_append,List.length_append,hxs];rfl
 ·intro j u x hu hd
  have hT:∀ {m:Nat} {u:Value} {x:JV},JvAt m T w u x→m≤max n nv→JvAt (max n nv) (T++v1.ownBlock.toList) W u x:=fun hj hm=>((hj.fresh hsub).keepT hkeep).ups hm
  rcases get_snoc hu with hu | ⟨hj,rfl⟩
  ·rcases get_snoc hd with hd | ⟨hj,_⟩
   ·exact hT (hx j u x hu hd) (Nat.le_max_left _ _)
   ·have:=(List.getElem?_eq_some_iff.1 hu).1;omega
  ·rcases get_snoc hd with hd | ⟨_,rfl⟩
   ·have:=(List.getElem?_eq_some_iff.1 hd).1;omega
   ·exact hT hv (Nat.le_max_right _ _)
 ·refine AllFr.keep hkeep (AllFr.fresh hsub h.all.2 fun f' hf b hb=>hmem (AllFr.own h.all.2 f' hf b hb).1) fun f' hf b hb=>?_
  obtain⟨k1,k2,cur',k3⟩:=AllFr.own h.all.2 f' hf b hb
  refine hold b (h.low b k1).2 (fun e=>lbs_head h.nd e (lbs_mem.2 ⟨f',hf,hb⟩)) (fun e=>?_)
  subst e
  exact no_type t.at_ k3
theorem core_close {g n sb c:Nat} {T:List Nat} {w:World} {f:GF} {fs:List GF} {d:List JV} {st:List Fr} (h:Core g T w (.slice (some ⟨sb,0,none⟩) (n+1) c) (f :: fs) (.lst d :: st)) (hn:fs.length=n) :
  ∃ T',Core g T' w (.slice (some ⟨sb,0,none⟩) n c) fs st∧∃ m,JvAt m T' w (.iface 188 f.lv) (.list d):=by
 have hsub:∀ b∈T.filter (fun b=>f.lv.ownBlock != some b),b∈T∨w.heap.size≤b:=fun b hb=>.inl (List.mem_filter.1 hb).1
 have hin:∀ {b},b∈T→f.lv.ownBlock≠some b→b∈T.filter (fun b=>f.lv.ownBlock != some b):=fun hb hne=>List.mem_filter.2 ⟨hb,by rw [bne_iff_ne];exact hne⟩
 have hp:=core_pop h hn
 have hown:∀ {b},f.lv.ownBlock=some b→g+1≤b∧∃ cur,w.heap[b]? = some (.cells cur 125 (0,0)):=fun hb=>(FrAt.own h.all.1 hb).2
 refine⟨T.filter (fun b=>f.lv.ownBlock != some b),⟨hp.row,hin hp.gT fun e=>?_,fun b hb=>hin (hp.vT b hb) fun e=>?_,fun b hb=>⟨fun k hk=>hin ((hp.low g hp.gT).1 k hk) fun e=>(by have:=(hown e).1;omega),(hp.low b (List.mem_filter.1 hb).1).2⟩,hp.nd,AllFr.fresh hsub hp.all fun f' hf b hb=>hin (AllFr.own hp.all f' hf b hb).1 fun e=>lbs_head h.nd e (lbs_mem.2 ⟨f',hf,hb⟩)⟩,?_⟩
 ·have:=(hown e).1;omega
 ·obtain⟨_,_,cur,k⟩:=hp.row.at hb
  obtain⟨_,cur2,k2⟩:=hown e
  exact no_type k k2
 ·obtain⟨_,_,fT,m,xs,ho,hl,hx⟩:=h.all.1
  refine⟨m+1,f.lv,rfl,RowAt.ofRaw ho.row hl (fun j u x hu hd=>⟨u,rfl,(hx j u x hu hd).fresh hsub⟩),fun _ b hb hm=>?_⟩
  have:=(List.mem_filter.1 hm).2
  rw [bne_iff_ne] at this
  exact this hb
set_option maxRecDepth 100000 in
set_option maxHeartbeats 12800000 in
theorem goes_lst (g:Nat) (s:ByteArray) (a m:Nat) (vst:Value) (f:GF) (fs:List GF) (T:List Nat) (d:List JV) (st:List Fr) (w:World) (v:Value) (y:JV) (nv:Nat) (h:RdAt g s a m vst 0 w) (hc:Core g T w vst (f :: fs) (.lst d :: st)) (hv:JvAt nv T w v y) (ha:a≤s.size) (hs:s.size≤1048576) (hd:d.length≤1048574) (hfl:fs.length≤1048576) :
  Calls Tryz.prog 97 #[.pointer (some ⟨g,0,none⟩),v] w (OutE g s w (JP.goesP y (s.data.toList.drop a) m (.lst d) st)):=by
 have hgw:=h.lt
 have H:=Lib.hid h
 have Hc:=Lib.hid hc
 obtain⟨X,HX⟩:∃ X,Hid (JP.goesP y (s.data.toList.drop a) m (.lst d) st=X):=⟨_,Lib.hid rfl⟩
 rw [HX.out]
 clear h hc
 obtain⟨sb,c,cur,htop⟩:=Hc.out.top
 obtain⟨tv,tl,tr,tm,ta,ts,t0,t1,t2⟩:=htop
 have Htop:Hid (Top g w vst f fs.length sb c cur):=Lib.hid ⟨tv,tl,tr,tm,ta,ts,t0,t1,t2⟩
 obtain⟨n,hn⟩:∃ n,fs.length=n:=⟨_,rfl⟩
 have Hn:=Lib.hid hn
 rw [hn] at tv tr t0 t1 t2 hfl
 have hsb:sb<w.heap.size:=blk_lt ta
 have hsg:sb≠g:=by omega
 have hgs:g≤sb:=by omega
 have hsT:sb∈T:=Hc.out.vT sb (by rw [tv];rfl)
 have q1:(0:Int)≤((n+1:Nat):Int) - 1:=by omega
 have q2:(((n+1:Nat):Int) - 1).toNat=n:=by omega
 have q3:((n+1:Nat):Int) - 1<((n+1:Nat):Int):=by omega
 have v1:IntKind.i64.wrap (((n+1:Nat):Int) - 1)=(n:Int):=by rw [IntWalk.i64_in _ (by omega)];omega
 have v2:IntKind.i64.wrap (n:Int)=(n:Int):=IntWalk.i64_in _ (by omega)
 have q4:(n:Int)<(n:Int)+1:=by omega
 have q5:(0:Int)≤(n:Int):=by omega
 have Ta:=Lib.hid ta
 subst tv
 have hall:=Hc.out.all.1
 obtain⟨hpq,hnm,hfT,nn,xs,hown,hxl,hxs⟩:=hall
 obtain⟨al,cl,hlv,_,_⟩:=hown.row.len
 rw [hxl] at hlv
 obtain⟨dl,hdl⟩:∃ dl,d.length=dl:=⟨_,rfl⟩
 rw [hdl] at hlv hxl hd
 have Hxl:=Lib.hid hxl
 have Hdl:=Lib.hid hdl
 rw [hpq] at t1
 rw [hlv] at t0 hown
 have Hown:=Lib.hid hown
 have Hxs:=Lib.hid hxs
 have Hjv:=Lib.hid hv
 have HVf:=jv_form hv
 have Hv1:=Lib.hid (jv_one hv)
 have y1:w.cell? ⟨sb,n*3+1,none⟩=some (.pointer none):=(cell_block ta _).trans t1
 have y0:w.cell? ⟨sb,n*3,none⟩=some (.slice al dl cl):=(cell_block ta _).trans t0
 have k3:w.cell? ⟨g,3,none⟩=some (.slice (some ⟨sb,0,none⟩) (n+1) c):=cell_block H.out 3
 have Hlv:=Lib.hid hlv
 have Hnm:=Lib.hid hnm
 have Hpq:=Lib.hid hpq
 have HfT:=Lib.hid hfT
 obtain⟨i0,hi0,hz0,hz1,hz2⟩:=info_parts Tryz.infoVal
 clear hown hv hlv hnm hpq ta ts t0 t1 t2 tl hn hxl hdl hxs hfT
 rcases HVf with rfl | ⟨tv,uv,rfl⟩
 ·go_enter Tryz.func97,Tryz.ntmps97
  go_wp2_with fail
  go_quiet (fail)
  go_upto_region 6 with fail
  generalize hW:World.drewN w _=W1
  have hR1:RdAt g s a m (.slice (some ⟨sb,0,none⟩) (n+1) c) 0 W1:=by rw [←hW];exact H.out
  have hB1:Below w.heap.size w W1:=by rw [←hW];exact below_drewN0 w _
  have p0:W1.cell? ⟨sb,n*3,none⟩=some (.slice al dl cl):=by rw [←hW];exact y0
  have HR1:=Lib.hid hR1
  have HB1:=Lib.hid hB1
  have HO1:Hid (OwnAt RVal 1 W1 (g+1) 125 (.slice al dl cl) xs):=Lib.hid (by rw [←hW];exact Hown.out)
  have hgw1:g+1≤W1.heap.size:=hR1.lt
  have hsb1:sb<W1.heap.size:=Nat.lt_of_lt_of_le hsb hB1.size
  clear hW hR1 hB1 k3 y1 y0
  go_wp2_with (at_builtin;refine wpList_append_ownAt (R:=RVal) (k:=1) (e:=125) (B:=g+1) (l:=xs) (m:=[_]) _ (by rfl) _ _ _ (by rfl) i0 _ 16 Tryz.underlying188 hi0 hz0 hz1 hz2 rfl (by omega) flat_val one_val _ (by rfl) (HO1.out.alloc stays_val _) (.slice (some ⟨W1.heap.size,0,none⟩) 1 1) (by rfl) (RowAt.one (R:=RVal) (k:=1) (cs:=#[_]) (heap_alloc_new W1 _) rfl ⟨rfl,Hv1.out⟩) (by rw [Hxl.out];unfold maxLen;simp;omega) (by rw [Hxl.out];simp;omega) (by simp;omega) ?_)
  intro v1 w4 hv1 hg4 _ hn4
  have hA:Below W1.heap.size W1 (W1.alloc (.cells #[.nilIface] 125)):=(Below.refl _ _).alloc (Nat.le_refl _) _
  obtain⟨wA,hwA⟩:∃ wA,W1.alloc (.cells #[.nilIface] 125)=wA:=⟨_,rfl⟩
  rw [hwA] at hg4 hA
  have hnA:v1.ownBlock=(Value.slice al dl cl).ownBlock∨v1.ownBlock=some wA.heap.size:=by rw [←hwA];simpa only [World.size_alloc] using hn4
  obtain⟨a9,c9,e9,_⟩:=hv1.row.len
  have hlen:∀ u:Value,(xs++[u]).length=dl+1:=fun u=>by rw [List.length_append,List.length_singleton,Hxl.out]
  rw [hlen] at e9
  subst e9
  have hA0:Below w.heap.size w wA:=HB1.out.trans (hA.mono HB1.out.size)
  have hlb:∀ b,(Value.slice al dl cl).ownBlock=some b→g+1≤b∧∃ cur,W1.heap[b]? = some (.cells cur 125 (0,0)):=fun b hb=>⟨(HO1.out.at hb).1,(HO1.out.at hb).2.2⟩
  have hTa1:W1.heap[sb]? = some (.cells cur 223 (0,0)):=below_block HB1.out Ta.out
  have hTa4:w4.heap[sb]? = some (.cells cur 223 (0,0)):=(grown_block hg4 (Nat.lt_of_lt_of_le hsb1 hA.size) (fun e=>by obtain⟨_,cc,k⟩:=hlb sb e;exact no_type hTa1 k)).trans ((hA.block sb hsb1).trans hTa1)
  have hR4:RdAt g s a m (.slice (some ⟨sb,0,none⟩) (n+1) c) 0 w4:=(grown_block hg4 (Nat.lt_of_lt_of_le HR1.out.lt hA.size) (fun e=>by have:=(hlb g e).1;omega)).trans ((hA.block g HR1.out.lt).trans HR1.out)
  have hB4:Below g w w4:=(HB1.out.mono (Nat.le_of_lt hgw)).trans ⟨hg4.os.trans hA.os,hg4.tape.trans hA.tape,hg4.output.trans hA.output,Nat.le_trans hA.size hg4.size,fun b hb=>(grown_block hg4 (by have:=hA.size;omega) (fun e=>by have:=(hlb b e).1;omega)).trans (hA.block b (by omega))⟩
  have HR4:=Lib.hid hR4
  have HB4:=Lib.hid hB4
  have HTa4:=Lib.hid hTa4
  have HV4:=Lib.hid hv1
  have HG4:=Lib.hid hg4
  have HN4:=Lib.hid hnA
  have HA0:=Lib.hid hA0
  have d4:w4.cell? ⟨sb,n*3,none⟩=some (.slice al dl cl):=(cell_block hTa4 _).trans ((cell_block hTa1 _).symm.trans p0)
  have z4:w4.frozen? ⟨sb,n*3,none⟩=false:=free_block hTa4 _
  clear hv1 hg4 hn4 hA hwA hnA hlen hA0 hlb hTa1 hTa4 hR4 hB4 HR1 HB1 HO1 p0
  go_upto_region 7 with fail
  generalize hW:World.setCell _ ⟨sb,n*3,none⟩ _=W5
  obtain⟨u1,u2⟩:W5.heap[sb]? = some (.cells (cur.setIfInBounds (n*3) (.slice a9 (dl+1) c9)) 223 (0,0))∧Touch sb w4 W5:=by rw [←hW];exact touch_setCell (w:=w4) (i:=n*3) (v:=.slice a9 (dl+1) c9) HTa4.out
  obtain⟨hcore,hkeep⟩:=core_app (n:=nn) Hc.out Htop.out HA0.out (by rw [Hxl.out,Hdl.out]) Hxs.out Hjv.out HV4.out (by rw [Hlv.out];exact HG4.out) (by rw [Hlv.out];exact HN4.out) (by rw [Hn.out];exact u1) u2
  obtain⟨T5,hT5⟩:∃ T',T++(Value.slice a9 (dl+1) c9).ownBlock.toList=T':=⟨_,rfl⟩
  rw [hT5] at hcore
  have HC5:=Lib.hid hcore
  have hR5:RdAt g s a m (.slice (some ⟨sb,0,none⟩) (n+1) c) 0 W5:=(u2.other g (fun e=>hsg e.symm)).trans HR4.out
  have HR5:=Lib.hid hR5
  have HB5:Hid (Below g w W5):=Lib.hid (u2.below HB4.out hgs)
  have HU5:=Lib.hid u1
  have hgw5:=hR5.lt
  have hsb5:sb<W5.heap.size:=blk_lt u1
  have hin:n*3+1<cur.size:=by rw [Htop.out.size];omega
  have hp0:(cur.setIfInBounds (n*3) (.slice a9 (dl+1) c9))[n*3]? = some (.slice a9 (dl+1) c9):=Array.getElem?_setIfInBounds_self_of_lt (by omega)
  have hp1:(cur.setIfInBounds (n*3) (.slice a9 (dl+1) c9))[n*3+1]? = some (.pointer none):=by rw [Array.getElem?_setIfInBounds_ne (by omega),←Hn.out,Htop.out.pv,Hpq.out]
  have Hp0:=Lib.hid hp0
  have Hp1:=Lib.hid hp1
  clear hW u1 u2 hcore hkeep hT5 hR5 hin hp0 hp1 HR4 HB4 HTa4 HV4 HG4 HN4 HA0 d4 z4
  obtain⟨z6,hz6⟩:∃ z,hdN (JP.skip (s.data.toList.drop a))=z:=⟨_,rfl⟩
  have hn6:=next_any g s a m (.slice (some ⟨sb,0,none⟩) (n+1) c) 0 W5 HR5.out ha hs
  rw [hz6] at hn6
  have HN6:=Lib.hid hn6
  have Hz6:=Lib.hid hz6
  clear hn6 hz6
  go_wp2_with fail
  refine HN6.out.mono ?_
  rintro E w6 ⟨rfl,⟨i6,hi6,hdi6,hr⟩,hb⟩
  have HR6:=Lib.hid hr
  have HB6:=Lib.hid (HB5.out.trans (below_but hb hgw5))
  have HC6:=Lib.hid (HC5.out.but hb)
  have Hd6:=Lib.hid hdi6
  have hgw6:=hr.lt
  have e0:w6.cell? ⟨sb,n*3,none⟩=some (.slice a9 (dl+1) c9):=(hb.cell (p:=⟨sb,_,none⟩) hsb5 hsg).trans ((cell_block HU5.out _).trans Hp0.out)
  have e1:w6.cell? ⟨sb,n*3+1,none⟩=some (.pointer none):=(hb.cell (p:=⟨sb,_,none⟩) hsb5 hsg).trans ((cell_block HU5.out _).trans Hp1.out)
  have hs56:=hb.size
  clear hr hb hdi6 HN6
  by_cases h93:z6=93
  ·subst h93
   obtain⟨t7,ht7⟩:=hd_zero (c:=93) (by decide) Hz6.out
   obtain⟨hi7,hd7⟩:=drop_in (Hd6.out.trans ht7)
   have HX2:Hid (X=.whole (.list (d++[y])) (s.data.toList.drop (i6+1)) m st):=Lib.hid (by rw [←HX.out,hd7];exact goes_l_close ht7)
   clear HX ht7 hd7
   go_wp2_with fail
   refine (close_any g s i6 m sb n c (.iface 188 (.slice a9 (dl+1) c9)) _ HR6.out hi7 hs tr tm hfl).mono ?_
   rintro E w7 ⟨rfl,hr,hbt⟩
   have Hr:=Lib.hid hr
   have Hbt:=Lib.hid hbt
   clear hr hbt
   go_wp2_with fail
   go_ret2
   obtain⟨T6,hc6,m6,hj6⟩:=core_close (HC6.out.but Hbt.out) Hn.out
   exact outE_of (out_whole HX2.out ⟨i6+1,_,fs,T6,hi7,rfl,Hr.out,hc6,m6,hj6⟩ (HB6.out.trans (below_but Hbt.out hgw6)))
  have n93:(z6 == 93)=false:=by rw [beq_eq_false_iff_ne];exact h93
  by_cases h44:z6=44
  ·subst h44
   obtain⟨t7,ht7⟩:=hd_zero (c:=44) (by decide) Hz6.out
   obtain⟨hi7,hd7⟩:=drop_in (Hd6.out.trans ht7)
   have HX2:Hid (X=.more (s.data.toList.drop (i6+1)) m (.lst (d++[y]) :: st)):=Lib.hid (by rw [←HX.out,hd7];exact goes_l_more ht7)
   have k1:w6.cell? ⟨g,1,none⟩=some (.int .i64 (i6:Int)):=cell_block HR6.out 1
   have z1:w6.frozen? ⟨g,1,none⟩=false:=free_block HR6.out 1
   have ww1:IntKind.i64.wrap ((i6:Int)+1)=(i6:Int)+1:=IntWalk.i64_in _ (by omega)
   clear HX ht7 hd7 h93
   go_upto_region 15 with fail
   generalize hW:World.setCell _ ⟨g,1,none⟩ _=W7
   have hR7:RdAt g s (i6+1) m (.slice (some ⟨sb,0,none⟩) (n+1) c) 0 W7:=by rw [←hW];exact RdAt.cast (touch_setCell (w:=w6) (i:=1) (v:=.int .i64 ((i6:Int)+1)) HR6.out).1 (by omega)
   have hB7:But g w6 W7:=by rw [←hW];exact But.touch (touch_setCell (w:=w6) (i:=1) (v:=.int .i64 ((i6:Int)+1)) HR6.out).2
   have h7:W7.cell? ⟨sb,n*3+1,none⟩=some (.pointer none):=(hB7.cell (p:=⟨sb,_,none⟩) (Nat.lt_of_lt_of_le hsb5 hs56) hsg).trans e1
   have HR7:=Lib.hid hR7
   have HB7:=Lib.hid (HB6.out.trans (below_but hB7 hgw6))
   have HC7:=Lib.hid (HC6.out.but hB7)
   clear hW hR7 hB7 k1 z1 ww1 e0 e1
   go_wp2_with fail
   go_ret2
   exact outE_of (out_more HX2.out ⟨i6+1,_,_,T5,hi7,rfl,HR7.out,HC7.out,trivial⟩ HB7.out)
  ·have HX2:Hid (X=.bad 3):=Lib.hid (by rw [←HX.out];exact goes_l_bad (by rw [Hz6.out];exact h93) (by rw [Hz6.out];exact h44))
   have n44:(z6 == 44)=false:=by rw [beq_eq_false_iff_ne];exact h44
   clear HX h93 h44
   go_wp2_with fail
   refine (fail_any g s i6 m (.slice (some ⟨sb,0,none⟩) (n+1) c) 0 3 w6 HR6.out).mono ?_
   rintro E w7 ⟨rfl,hr,hbt⟩
   have Hr:=Lib.hid hr
   have Hbt:=Lib.hid (HB6.out.trans (below_but hbt hgw6))
   clear hr hbt
   go_wp2_with fail
   go_ret2
   exact outE_of (out_bad HX2.out (by decide) Hr.out Hbt.out)
 ·go_enter Tryz.func97,Tryz.ntmps97
  go_wp2_with fail
  go_quiet (fail)
  go_upto_region 6 with fail
  generalize hW:World.drewN w _=W1
  have hR1:RdAt g s a m (.slice (some ⟨sb,0,none⟩) (n+1) c) 0 W1:=by rw [←hW];exact H.out
  have hB1:Below w.heap.size w W1:=by rw [←hW];exact below_drewN0 w _
  have p0:W1.cell? ⟨sb,n*3,none⟩=some (.slice al dl cl):=by rw [←hW];exact y0
  have HR1:=Lib.hid hR1
  have HB1:=Lib.hid hB1
  have HO1:Hid (OwnAt RVal 1 W1 (g+1) 125 (.slice al dl cl) xs):=Lib.hid (by rw [←hW];exact Hown.out)
  have hgw1:g+1≤W1.heap.size:=hR1.lt
  have hsb1:sb<W1.heap.size:=Nat.lt_of_lt_of_le hsb hB1.size
  clear hW hR1 hB1 k3 y1 y0
  go_wp2_with (at_builtin;refine wpList_append_ownAt (R:=RVal) (k:=1) (e:=125) (B:=g+1) (l:=xs) (m:=[_]) _ (by rfl) _ _ _ (by rfl) i0 _ 16 Tryz.underlying188 hi0 hz0 hz1 hz2 rfl (by omega) flat_val one_val _ (by rfl) (HO1.out.alloc stays_val _) (.slice (some ⟨W1.heap.size,0,none⟩) 1 1) (by rfl) (RowAt.one (R:=RVal) (k:=1) (cs:=#[_]) (heap_alloc_new W1 _) rfl ⟨rfl,Hv1.out⟩) (by rw [Hxl.out];unfold maxLen;simp;omega) (by rw [Hxl.out];simp;omega) (by simp;omega) ?_)
  intro v1 w4 hv1 hg4 _ hn4
  have hA:Below W1.heap.size W1 (W1.alloc (.cells #[.iface tv uv] 125)):=(Below.refl _ _).alloc (Nat.le_refl _) _
  obtain⟨wA,hwA⟩:∃ wA,W1.alloc (.cells #[.iface tv uv] 125)=wA:=⟨_,rfl⟩
  rw [hwA] at hg4 hA
  have hnA:v1.ownBlock=(Value.slice al dl cl).ownBlock∨v1.ownBlock=some wA.heap.size:=by rw [←hwA];simpa only [World.size_alloc] using hn4
  obtain⟨a9,c9,e9,_⟩:=hv1.row.len
  have hlen:∀ u:Value,(xs++[u]).length=dl+1:=fun u=>by rw [List.length_append,List.length_singleton,Hxl.out]
  rw [hlen] at e9
  subst e9
  have hA0:Below w.heap.size w wA:=HB1.out.trans (hA.mono HB1.out.size)
  have hlb:∀ b,(Value.slice al dl cl).ownBlock=some b→g+1≤b∧∃ cur,W1.heap[b]? = some (.cells cur 125 (0,0)):=fun b hb=>⟨(HO1.out.at hb).1,(HO1.out.at hb).2.2⟩
  have hTa1:W1.heap[sb]? = some (.cells cur 223 (0,0)):=below_block HB1.out Ta.out
  have hTa4:w4.heap[sb]? = some (.cells cur 223 (0,0)):=(grown_block hg4 (Nat.lt_of_lt_of_le hsb1 hA.size) (fun e=>by obtain⟨_,cc,k⟩:=hlb sb e;exact no_type hTa1 k)).trans ((hA.block sb hsb1).trans hTa1)
  have hR4:RdAt g s a m (.slice (some ⟨sb,0,none⟩) (n+1) c) 0 w4:=(grown_block hg4 (Nat.lt_of_lt_of_le HR1.out.lt hA.size) (fun e=>by have:=(hlb g e).1;omega)).trans ((hA.block g HR1.out.lt).trans HR1.out)
  have hB4:Below g w w4:=(HB1.out.mono (Nat.le_of_lt hgw)).trans ⟨hg4.os.trans hA.os,hg4.tape.trans hA.tape,hg4.output.trans hA.output,Nat.le_trans hA.size hg4.size,fun b hb=>(grown_block hg4 (by have:=hA.size;omega) (fun e=>by have:=(hlb b e).1;omega)).trans (hA.block b (by omega))⟩
  have HR4:=Lib.hid hR4
  have HB4:=Lib.hid hB4
  have HTa4:=Lib.hid hTa4
  have HV4:=Lib.hid hv1
  have HG4:=Lib.hid hg4
  have HN4:=Lib.hid hnA
  have HA0:=Lib.hid hA0
  have d4:w4.cell? ⟨sb,n*3,none⟩=some (.slice al dl cl):=(cell_block hTa4 _).trans ((cell_block hTa1 _).symm.trans p0)
  have z4:w4.frozen? ⟨sb,n*3,none⟩=false:=free_block hTa4 _
  clear hv1 hg4 hn4 hA hwA hnA hlen hA0 hlb hTa1 hTa4 hR4 hB4 HR1 HB1 HO1 p0
  go_upto_region 7 with fail
  generalize hW:World.setCell _ ⟨sb,n*3,none⟩ _=W5
  obtain⟨u1,u2⟩:W5.heap[sb]? = some (.cells (cur.setIfInBounds (n*3) (.slice a9 (dl+1) c9)) 223 (0,0))∧Touch sb w4 W5:=by rw [←hW];exact touch_setCell (w:=w4) (i:=n*3) (v:=.slice a9 (dl+1) c9) HTa4.out
  obtain⟨hcore,hkeep⟩:=core_app (n:=nn) Hc.out Htop.out HA0.out (by rw [Hxl.out,Hdl.out]) Hxs.out Hjv.out HV4.out (by rw [Hlv.out];exact HG4.out) (by rw [Hlv.out];exact HN4.out) (by rw [Hn.out];exact u1) u2
  obtain⟨T5,hT5⟩:∃ T',T++(Value.slice a9 (dl+1) c9).ownBlock.toList=T':=⟨_,rfl⟩
  rw [hT5] at hcore
  have HC5:=Lib.hid hcore
  have hR5:RdAt g s a m (.slice (some ⟨sb,0,none⟩) (n+1) c) 0 W5:=(u2.other g (fun e=>hsg e.symm)).trans HR4.out
  have HR5:=Lib.hid hR5
  have HB5:Hid (Below g w W5):=Lib.hid (u2.below HB4.out hgs)
  have HU5:=Lib.hid u1
  have hgw5:=hR5.lt
  have hsb5:sb<W5.heap.size:=blk_lt u1
  have hin:n*3+1<cur.size:=by rw [Htop.out.size];omega
  have hp0:(cur.setIfInBounds (n*3) (.slice a9 (dl+1) c9))[n*3]? = some (.slice a9 (dl+1) c9):=Array.getElem?_setIfInBounds_self_of_lt (by omega)
  have hp1:(cur.setIfInBounds (n*3) (.slice a9 (dl+1) c9))[n*3+1]? = some (.pointer none):=by rw [Array.getElem?_setIfInBounds_ne (by omega),←Hn.out,Htop.out.pv,Hpq.out]
  have Hp0:=Lib.hid hp0
  have Hp1:=Lib.hid hp1
  clear hW u1 u2 hcore hkeep hT5 hR5 hin hp0 hp1 HR4 HB4 HTa4 HV4 HG4 HN4 HA0 d4 z4
  obtain⟨z6,hz6⟩:∃ z,hdN (JP.skip (s.data.toList.drop a))=z:=⟨_,rfl⟩
  have hn6:=next_any g s a m (.slice (some ⟨sb,0,none⟩) (n+1) c) 0 W5 HR5.out ha hs
  rw [hz6] at hn6
  have HN6:=Lib.hid hn6
  have Hz6:=Lib.hid hz6
  clear hn6 hz6
  go_wp2_with fail
  refine HN6.out.mono ?_
  rintro E w6 ⟨rfl,⟨i6,hi6,hdi6,hr⟩,hb⟩
  have HR6:=Lib.hid hr
  have HB6:=Lib.hid (HB5.out.trans (below_but hb hgw5))
  have HC6:=Lib.hid (HC5.out.but hb)
  have Hd6:=Lib.hid hdi6
  have hgw6:=hr.lt
  have e0:w6.cell? ⟨sb,n*3,none⟩=some (.slice a9 (dl+1) c9):=(hb.cell (p:=⟨sb,_,none⟩) hsb5 hsg).trans ((cell_block HU5.out _).trans Hp0.out)
  have e1:w6.cell? ⟨sb,n*3+1,none⟩=some (.pointer none):=(hb.cell (p:=⟨sb,_,none⟩) hsb5 hsg).trans ((cell_block HU5.out _).trans Hp1.out)
  have hs56:=hb.size
  clear hr hb hdi6 HN6
  by_cases h93:z6=93
  ·subst h93
   obtain⟨t7,ht7⟩:=hd_zero (c:=93) (by decide) Hz6.out
   obtain⟨hi7,hd7⟩:=drop_in (Hd6.out.trans ht7)
   have HX2:Hid (X=.whole (.list (d++[y])) (s.data.toList.drop (i6+1)) m st):=Lib.hid (by rw [←HX.out,hd7];exact goes_l_close ht7)
   clear HX ht7 hd7
   go_wp2_with fail
   refine (close_any g s i6 m sb n c (.iface 188 (.slice a9 (dl+1) c9)) _ HR6.out hi7 hs tr tm hfl).mono ?_
   rintro E w7 ⟨rfl,hr,hbt⟩
   have Hr:=Lib.hid hr
   have Hbt:=Lib.hid hbt
   clear hr hbt
   go_wp2_with fail
   go_ret2
   obtain⟨T6,hc6,m6,hj6⟩:=core_close (HC6.out.but Hbt.out) Hn.out
   exact outE_of (out_whole HX2.out ⟨i6+1,_,fs,T6,hi7,rfl,Hr.out,hc6,m6,hj6⟩ (HB6.out.trans (below_but Hbt.out hgw6)))
  have n93:(z6 == 93)=false:=by rw [beq_eq_false_iff_ne];exact h93
  by_cases h44:z6=44
  ·subst h44
   obtain⟨t7,ht7⟩:=hd_zero (c:=44) (by decide) Hz6.out
   obtain⟨hi7,hd7⟩:=drop_in (Hd6.out.trans ht7)
   have HX2:Hid (X=.more (s.data.toList.drop (i6+1)) m (.lst (d++[y]) :: st)):=Lib.hid (by rw [←HX.out,hd7];exact goes_l_more ht7)
   have k1:w6.cell? ⟨g,1,none⟩=some (.int .i64 (i6:Int)):=cell_block HR6.out 1
   have z1:w6.frozen? ⟨g,1,none⟩=false:=free_block HR6.out 1
   have ww1:IntKind.i64.wrap ((i6:Int)+1)=(i6:Int)+1:=IntWalk.i64_in _ (by omega)
   clear HX ht7 hd7 h93
   go_upto_region 15 with fail
   generalize hW:World.setCell _ ⟨g,1,none⟩ _=W7
   have hR7:RdAt g s (i6+1) m (.slice (some ⟨sb,0,none⟩) (n+1) c) 0 W7:=by rw [←hW];exact RdAt.cast (touch_setCell (w:=w6) (i:=1) (v:=.int .i64 ((i6:Int)+1)) HR6.out).1 (by omega)
   have hB7:But g w6 W7:=by rw [←hW];exact But.touch (touch_setCell (w:=w6) (i:=1) (v:=.int .i64 ((i6:Int)+1)) HR6.out).2
   have h7:W7.cell? ⟨sb,n*3+1,none⟩=some (.pointer none):=(hB7.cell (p:=⟨sb,_,none⟩) (Nat.lt_of_lt_of_le hsb5 hs56) hsg).trans e1
   have HR7:=Lib.hid hR7
   have HB7:=Lib.hid (HB6.out.trans (below_but hB7 hgw6))
   have HC7:=Lib.hid (HC6.out.but hB7)
   clear hW hR7 hB7 k1 z1 ww1 e0 e1
   go_wp2_with fail
   go_ret2
   exact outE_of (out_more HX2.out ⟨i6+1,_,_,T5,hi7,rfl,HR7.out,HC7.out,trivial⟩ HB7.out)
  ·have HX2:Hid (X=.bad 3):=Lib.hid (by rw [←HX.out];exact goes_l_bad (by rw [Hz6.out];exact h93) (by rw [Hz6.out];exact h44))
   have n44:(z6 == 44)=false:=by rw [beq_eq_false_iff_ne];exact h44
   clear HX h93 h44
   go_wp2_with fail
   refine (fail_any g s i6 m (.slice (some ⟨sb,0,none⟩) (n+1) c) 0 3 w6 HR6.out).mono ?_
   rintro E w7 ⟨rfl,hr,hbt⟩
   have Hr:=Lib.hid hr
   have Hbt:=Lib.hid (HB6.out.trans (below_but hbt hgw6))
   clear hr hbt
   go_wp2_with fail
   go_ret2
   exact outE_of (out_bad HX2.out (by decide) Hr.out Hbt.out)
end Go.Proofs.YtnnceaapodgfbaaGreatDoor
namespace Go.Proofs.YtnnceaapodgfbaaGreatDoor
open Go.RowKit
open JP (JV Bs Fr)
theorem lenL_ge:∀ d:List JV,d.length≤JP.lenL d
 | []=>Nat.le_refl _
 | v :: r=>by have:=lenL_ge r;simp only [JP.lenL,List.length_cons];omega
theorem lenF_ge:∀ d:List (Bs × JV),d.length≤JP.lenF d
 | []=>Nat.le_refl _
 | (n,v) :: r=>by have:=lenF_ge r;simp only [JP.lenF,List.length_cons];omega
theorem goes_any {g:Nat} {s:ByteArray} {r:Bs} {m:Nat} {f:Fr} {st:List Fr} {w:World} {v:Value} {y:JV} (h:RS g s r m (f :: st) (some (v,y)) w) (hs:s.size≤1048576) (hi:JP.Inv 2000 (.whole y r m (f :: st))) :
  Calls Tryz.prog 97 #[.pointer (some ⟨g,0,none⟩),v] w (OutE g s w (JP.goesP y r m f st)):=by
 obtain⟨a,vst,fs,T,ha,rfl,hr,hc,n,hv⟩:=h
 obtain⟨i1,_,_,_,_,i6⟩:=hi
 have hst:=JP.stOK_len i6
 have hl:=hc.all.len
 cases fs with
 | nil=>simp at hl
 | cons f' fs=>
  rw [List.length_cons,List.length_cons] at hl
  rw [List.length_cons] at hst
  simp only [JP.wlenS,List.map_cons,List.sum_cons] at i1
  cases f with
  | lst d=>
   have:=lenL_ge d
   simp only [JP.wlen] at i1
   exact goes_lst g s a m vst f' fs T d st w v y n hr hc hv ha hs (by omega) (by omega)
  | ob d nm=>
   have:=lenF_ge d
   simp only [JP.wlen] at i1
   exact goes_ob g s a m vst f' fs T d nm st w v y n hr hc hv ha hs (by omega) (by omega)
theorem below_drewNj {B:Nat} {a w:World} (h:Below B a w) (n:Nat):Below B a (w.drewN n):=⟨h.os,h.tape,h.output,h.size,h.block⟩
def StM (g:Nat) (s:ByteArray) (x:JP.R) (w:World):Prop:=match x with
 | .bad er=>RBad g s er w
 | .more r m st=>RS g s r m st none w
 | .whole _ _ _ _=>False
def StW (g:Nat) (s:ByteArray) (x:JP.R) (v:Value) (b:Bool) (w:World):Prop:=match x with
 | .bad er=>RBad g s er w
 | .whole y r m st=>b=true∧RS g s r m st (some (v,y)) w
 | .more r m st=>b=false∧RS g s r m st none w
theorem outE_st {g:Nat} {s:ByteArray} {w w':World} {x:JP.R} {e:Ending} (h:OutE g s w x e w'):∃ v b,e=.returned (.tuple #[v,.bool b])∧Below g w w'∧StW g s x v b w':=by
 obtain⟨v,b,h1,h2,h3⟩:=h
 exact⟨v,b,h1,h2,h3⟩
theorem ret_pair {a:Value} {i j:Int} (h:i=j):Ending.returned (.tuple #[a,.int .i64 i])=.returned (.tuple #[a,.int .i64 j]):=by rw [h]
theorem row_empty {g:Nat} {T:List Nat} {w:World} {vst:Value} (h:Core g T w vst [] []):∃ p c,vst=.slice p 0 c:=by
 obtain⟨a,c,e,_⟩:=h.row.row.len
 exact⟨a,c,e⟩
set_option maxRecDepth 100000 in
set_option maxHeartbeats 12800000 in
theorem read_low (s:ByteArray) (w:World) (hs:s.size≤1048576) :
  Calls Tryz.prog 66 #[.string s] w fun e w'=>∃ v,e=.returned (.tuple #[v,.int .i64 (JP.readL s.data.toList).2])∧(∃ n,∀ T0:List Nat,(∀ b∈T0,b<w.heap.size)→JvAt n T0 w' v (JP.readL s.data.toList).1)∧Below w.heap.size w w':=by
 have hsl:s.data.toList.length=s.size:=by rw [Array.length_toList];rfl
 obtain⟨F,HF⟩:∃ F,Hid (JP.readL s.data.toList=F):=⟨_,Lib.hid rfl⟩
 rw [HF.out]
 by_cases hlg:2000<s.size
 ·have HF2:Hid (F=(.nul,2)):=Lib.hid (by rw [←HF.out];unfold JP.readL;rw [if_pos (by omega)])
  have p1:(2000:Int)<(s.size:Int):=by omega
  clear HF hsl
  go_enter Tryz.func66,Tryz.ntmps66
  go_wp2_with fail
  go_ret2
  exact⟨_,ret_pair (by rw [HF2.out]),⟨1,fun T0 _=>by rw [HF2.out];rfl⟩,Below.refl _ _⟩
 have p1:¬(2000:Int)<(s.size:Int):=by omega
 have HF2:Hid (JP.fin (.more s.data.toList 0 [])=F):=Lib.hid (by rw [←HF.out];unfold JP.readL;rw [if_neg (by omega)])
 have HI0:Hid (JP.Inv 2000 (.more s.data.toList 0 [])):=Lib.hid ⟨by show s.data.toList.length+0≤2000;omega,rfl,by omega,trivial⟩
 clear HF hsl hlg
 go_enter Tryz.func66,Tryz.ntmps66
 go_wp2_with fail
 go_loopg [] (JP.mu (.more s.data.toList 0 [])) (fun k wr=>∃ x:JP.R,JP.mu x≤k∧Hid (JP.fin x=F)∧Hid (JP.Inv 2000 x)∧Hid (StM w.heap.size s x wr)∧Hid (Below w.heap.size w wr))
 case atStart=>
  refine⟨.more s.data.toList 0 [],Nat.le_refl _,HF2,HI0,Lib.hid ⟨0,.slice none 0 0,[],List.range (w.heap.size+1),by omega,List.drop_zero,heap_alloc_new w _,?_,trivial⟩,Lib.hid ((Below.refl _ _).alloc (Nat.le_refl _) _)⟩
  refine⟨OwnAt.nil _,List.mem_range.2 (by omega),fun b hb=>(by cases hb),fun b hb=>?_,List.nodup_nil,trivial⟩
  exact⟨fun k hk=>List.mem_range.2 (by omega),by rw [World.size_alloc];have:=List.mem_range.1 hb;omega⟩
 case round=>
  obtain⟨x,hxk,HFx,HIx,HS,HB⟩:=hrel
  cases x with
  | whole y r m st=>exact HS.out.elim
  | bad er=>
   obtain⟨h0,a,m,vst,hr⟩:=HS.out
   have k4:wr.cell? ⟨w.heap.size,4,none⟩=some (.int .i64 er):=cell_block hr 4
   have q0:(er == 0)=false:=by rw [beq_eq_false_iff_ne];exact h0
   have HF3:Hid (F=(.nul,er)):=Lib.hid (by rw [←HFx.out,JP.fin_bad])
   clear hr h0 HFx HIx HS
   go_wp2_with fail
   go_quiet (fail)
   go_wp2_with fail
   go_ret2
   exact⟨_,ret_pair (by rw [HF3.out]),⟨1,fun T0 _=>by rw [HF3.out];rfl⟩,below_drewNj HB.out _⟩
  | more r m st=>
   have HI1:=Lib.hid (JP.begin_inv HIx.out)
   have HF1:Hid (JP.fin (JP.beginP r m st)=F):=Lib.hid (by rw [←JP.fin_more];exact HFx.out)
   have hmu:=JP.begin_mu r m st
   obtain⟨a,vst,fs,T,ha,rfl,hr,hc,_⟩:=HS.out
   obtain⟨_,_,hm,hst⟩:=HIx.out
   have HC:=Lib.hid (begin_any w.heap.size s a m vst fs T st wr hr hc ha hs (by omega) (JP.stOK_len hst))
   have k4:wr.cell? ⟨w.heap.size,4,none⟩=some (.int .i64 0):=cell_block hr 4
   obtain⟨x1,hx1⟩:∃ x1,JP.beginP (s.data.toList.drop a) m st=x1:=⟨_,rfl⟩
   rw [hx1] at HI1 HF1 hmu HC
   obtain⟨K,hK⟩:∃ K,JP.mu x1=K:=⟨_,rfl⟩
   have hKk:K<gk:=by rw [←hK];omega
   have hK1:JP.mu x1≤K:=Nat.le_of_eq hK
   clear hr hc hm hst hx1 HS HIx HFx hmu hxk hK
   go_wp2_with fail
   refine HC.out.mono ?_
   intro E w1 he
   obtain⟨v1,b1,rfl,hb1,hs1⟩:=outE_st he
   have HS1:=Lib.hid hs1
   have HB1:=Lib.hid (HB.out.trans hb1)
   clear he hb1 hs1 HC k4 HB
   go_wp2_with fail
   go_loopg [5,6] K (fun k2 u5 u6 wr2=>∃ (x:JP.R) (b:Bool),u6=.bool b∧JP.mu x≤k2∧JP.mu x≤K∧Hid (JP.fin x=F)∧Hid (JP.Inv 2000 x)∧Hid (StW w.heap.size s x u5 b wr2)∧Hid (Below w.heap.size w wr2))
   case atStart=>exact⟨x1,b1,rfl,hK1,hK1,HF1,HI1,HS1,HB1⟩
   case round=>
    obtain⟨x,b,rfl,hxk,hxK,HFx,HIx,HS,HB⟩:=hrel
    cases x with
    | bad er=>
     obtain⟨h0,a,m,vst,hr⟩:=HS.out
     have k4:wr.cell? ⟨w.heap.size,4,none⟩=some (.int .i64 er):=cell_block hr 4
     have q0:(er == 0)=false:=by rw [beq_eq_false_iff_ne];exact h0
     have HS2:Hid (StM w.heap.size s (.bad er) wr):=Lib.hid ⟨h0,a,m,vst,hr⟩
     clear hr h0 HS
     cases b
     ·go_wp2_with fail
      go_roundg K
      case measure=>omega
      case rel=>exact⟨.bad er,hxK,HFx,HIx,HS2,HB⟩
     ·go_wp2_with fail
      go_roundg K
      case measure=>omega
      case rel=>exact⟨.bad er,hxK,HFx,HIx,HS2,HB⟩
    | more r m st=>
     obtain⟨rfl,hrs⟩:=HS.out
     have HS2:Hid (StM w.heap.size s (.more r m st) wr):=Lib.hid hrs
     clear hrs HS
     go_wp2_with fail
     go_roundg K
     case measure=>omega
     case rel=>exact⟨.more r m st,hxK,HFx,HIx,HS2,HB⟩
    | whole y r m st=>
     obtain⟨rfl,hrs⟩:=HS.out
     have Hrs:=Lib.hid hrs
     obtain⟨a,vst,fs,T,ha,hda,hr,hc,ny,hv⟩:=hrs
     have k4:wr.cell? ⟨w.heap.size,4,none⟩=some (.int .i64 0):=cell_block hr 4
     have k3:wr.cell? ⟨w.heap.size,3,none⟩=some vst:=cell_block hr 3
     have Hda:=Lib.hid hda
     have Hr:=Lib.hid hr
     have Hc:=Lib.hid hc
     have Hv:=Lib.hid hv
     clear hr hda hv HS
     cases st with
     | nil=>
      have hfs:fs = []:=List.eq_nil_of_length_eq_zero hc.all.len
      subst hfs
      obtain⟨p,c,rfl⟩:=row_empty hc
      have Hc9:=Lib.hid hc
      clear hc
      have HN:=Lib.hid (next_any w.heap.size s a m (.slice p 0 c) 0 wr Hr.out ha hs)
      go_wp2_with fail
      refine HN.out.mono ?_
      rintro E w2 ⟨rfl,⟨i,hi,hdi,hr⟩,hb⟩
      have k0:w2.cell? ⟨w.heap.size,0,none⟩=some (.string s):=cell_block hr 0
      have k1:w2.cell? ⟨w.heap.size,1,none⟩=some (.int .i64 (i:Int)):=cell_block hr 1
      have HR2:=Lib.hid hr
      have HB2:=Lib.hid (HB.out.trans (below_but hb Hr.out.lt))
      have HV2:=Lib.hid (Hv.out.keepT (KeepT.but hb Hc9.out.gT))
      have Hdi:=Lib.hid (hdi.trans (by rw [Hda.out]))
      have HFx2:=Lib.hid ((JP.fin_end y r m).symm.trans HFx.out)
      clear hr hb hdi HN k3 k4 Hr Hv HFx
      by_cases hil:i<s.size
      ·have HF3:Hid (JP.fin (.bad 3)=F):=Lib.hid (by rw [JP.fin_bad,←HFx2.out,if_neg (fun e=>by rw [←Hdi.out,drop_at hil] at e;cases e)])
       have q1:(i:Int)<(s.size:Int):=by omega
       have HI3:Hid (JP.Inv 2000 (.bad 3)):=Lib.hid (show (3:Int)≠0 by decide)
       clear HFx2 Hdi hil
       go_wp2_with fail
       go_quiet (fail)
       go_wp2_with fail
       refine (fail_any w.heap.size s i m (.slice p 0 c) 0 3 _ (HR2.out.drew _)).mono ?_
       rintro E w3 ⟨rfl,hr,hbt⟩
       have HS3:Hid (StM w.heap.size s (.bad 3) w3):=Lib.hid (rbad_of (show RdAt w.heap.size s i m (.slice p 0 c) 3 w3 from hr) (by decide))
       have HB3:=Lib.hid ((below_drewNj HB2.out _).trans (below_but hbt (show w.heap.size<w2.heap.size from HR2.out.lt)))
       clear hr hbt
       go_wp2_with fail
       go_roundg K
       case measure=>omega
       case rel=>exact⟨.bad 3,by show 0≤K;omega,HF3,HI3,HS3,HB3⟩
      ·have q1:¬(i:Int)<(s.size:Int):=by omega
       have HF3:Hid (F=(y,0)):=Lib.hid (by rw [←HFx2.out,if_pos (by rw [←Hdi.out,drop_end (by omega)])])
       clear HFx2 Hdi hil
       go_wp2_with fail
       go_quiet (fail)
       go_wp2_with fail
       go_ret2
       exact⟨_,ret_pair (by rw [HF3.out]),⟨ny,fun T0 hT0=>by rw [HF3.out];exact (HV2.out.fresh (T':=T0) (fun b hb=>.inl ((Hc9.out.low _ Hc9.out.gT).1 b (hT0 b hb)))).keepT (KeepT.drewN _ _)⟩,below_drewNj HB2.out _⟩
     | cons f st=>
      obtain⟨sb,n,c,hvs⟩:∃ sb n c,vst=.slice (some ⟨sb,0,none⟩) (n+1) c:=by
       cases fs with
       | nil=>have:=hc.all.len;simp at this
       | cons f' fs=>
        obtain⟨sb,c,cur,ht⟩:=hc.top
        exact⟨sb,_,c,ht.v⟩
      subst hvs
      have HC:=Lib.hid (goes_any Hrs.out hs HIx.out)
      have HI1:=Lib.hid (JP.goes_inv HIx.out)
      have HF1:Hid (JP.fin (JP.goesP y r m f st)=F):=Lib.hid (by rw [←JP.fin_whole];exact HFx.out)
      have hmu:=JP.goes_mu y r m f st
      obtain⟨x1,hx1⟩:∃ x1,JP.goesP y r m f st=x1:=⟨_,rfl⟩
      rw [hx1] at HI1 HF1 hmu HC
      obtain⟨K2,hK2⟩:∃ K,JP.mu x1=K:=⟨_,rfl⟩
      have hKk2:K2<gk:=by rw [←hK2];omega
      have hK3:JP.mu x1≤K2:=Nat.le_of_eq hK2
      have hK4:JP.mu x1≤K:=by omega
      have e0:(((n+1:Nat):Int) == 0)=false:=by rw [beq_eq_false_iff_ne];omega
      have e1:(((n:Int)+1) == 0)=false:=by rw [beq_eq_false_iff_ne];omega
      clear hc hx1 HIx HFx hmu hxk hxK hK2 Hrs Hr Hv Hda ha
      go_wp2_with fail
      refine HC.out.mono ?_
      intro E w2 he
      obtain⟨v1,b1,rfl,hb1,hs1⟩:=outE_st he
      have HS1:=Lib.hid hs1
      have HB1:=Lib.hid (HB.out.trans hb1)
      clear he hb1 hs1 HC k4 k3
      go_wp2_with fail
      go_roundg K2
      case measure=>omega
      case rel=>exact⟨x1,b1,rfl,hK3,hK4,HF1,HI1,HS1,HB1⟩
theorem read_any (s:ByteArray) (w:World) (hs:s.size≤1048576) :
  Calls Tryz.prog 66 #[.string s] w fun e w'=>∃ v,e=.returned (.tuple #[v,.int .i64 (JP.readL s.data.toList).2])∧(∃ n,JvAt n [] w' v (JP.readL s.data.toList).1)∧Below w.heap.size w w':=
 (read_low s w hs).mono fun _ _ ⟨v,h1,⟨n,h2⟩,h3⟩=>⟨v,h1,⟨n,h2 [] (fun _ h=>by cases h)⟩,h3⟩
end Go.Proofs.YtnnceaapodgfbaaGreatDoor
namespace Go.Proofs.YtnnceaapodgfbaaGreatDoor
open Go
theorem as_nil  : (∀ w:World,(Instr.typeAssert (.nilIface) 125 4 true).run Tryz.prog w=.ok (.tuple #[.bool false,.bool false]) w)∧(∀ w:World,(Instr.typeAssert (.nilIface) 125 2 true).run Tryz.prog w=.ok (.tuple #[.int .i64 0,.bool false]) w)∧(∀ w:World,(Instr.typeAssert (.nilIface) 125 9 true).run Tryz.prog w=.ok (.tuple #[.string ⟨#[]⟩,.bool false]) w)∧(∀ w:World,(Instr.typeAssert (.nilIface) 125 188 true).run Tryz.prog w=.ok (.tuple #[.slice none 0 0,.bool false]) w)∧(∀ w:World,(Instr.typeAssert (.nilIface) 125 190 true).run Tryz.prog w=.ok (.tuple #[.pointer none,.bool false]) w):=⟨fun w=>by kernel_rfl,fun w=>by kernel_rfl,fun w=>by kernel_rfl,fun w=>by kernel_rfl,fun w=>by kernel_rfl⟩
theorem as_bool (u:Value):(∀ w:World,(Instr.typeAssert (.iface 4 u) 125 4 true).run Tryz.prog w=.ok (.tuple #[u,.bool true]) w)∧(∀ w:World,(Instr.typeAssert (.iface 4 u) 125 2 true).run Tryz.prog w=.ok (.tuple #[.int .i64 0,.bool false]) w)∧(∀ w:World,(Instr.typeAssert (.iface 4 u) 125 9 true).run Tryz.prog w=.ok (.tuple #[.string ⟨#[]⟩,.bool false]) w)∧(∀ w:World,(Instr.typeAssert (.iface 4 u) 125 188 true).run Tryz.prog w=.ok (.tuple #[.slice none 0 0,.bool false]) w)∧(∀ w:World,(Instr.typeAssert (.iface 4 u) 125 190 true).run Tryz.prog w=.ok (.tuple #[.pointer none,.bool false]) w):=⟨fun w=>by kernel_rfl,fun w=>by kernel_rfl,fun w=>by kernel_rfl,fun w=>by kernel_rfl,fun w=>by kernel_rfl⟩
theorem as_int64 (u:Value):(∀ w:World,(Instr.typeAssert (.iface 2 u) 125 4 true).run Tryz.prog w=.ok (.tuple #[.bool false,.bool false]) w)∧(∀ w:World,(Instr.typeAssert (.iface 2 u) 125 2 true).run Tryz.prog w=.ok (.tuple #[u,.bool true]) w)∧(∀ w:World,(Instr.typeAssert (.iface 2 u) 125 9 true).run Tryz.prog w=.ok (.tuple #[.string ⟨#[]⟩,.bool false]) w)∧(∀ w:World,(Instr.typeAssert (.iface 2 u) 125 188 true).run Tryz.prog w=.ok (.tuple #[.slice none 0 0,.bool false]) w)∧(∀ w:World,(Instr.typeAssert (.iface 2 u) 125 190 true).run Tryz.prog w=.ok (.tuple #[.pointer none,.bool false]) w):=⟨fun w=>by kernel_rfl,fun w=>by kernel_rfl,fun w=>by kernel_rfl,fun w=>by kernel_rfl,fun w=>by kernel_rfl⟩
theorem as_string (u:Value):(∀ w:World,(Instr.typeAssert (.iface 9 u) 125 4 true).run Tryz.prog w=.ok (.tuple #[.bool false,.bool false]) w)∧(∀ w:World,(Instr.typeAssert (.iface 9 u) 125 2 true).run Tryz.prog w=.ok (.tuple #[.int .i64 0,.bool false]) w)∧(∀ w:World,(Instr.typeAssert (.iface 9 u) 125 9 true).run Tryz.prog w=.ok (.tuple #[u,.bool true]) w)∧(∀ w:World,(Instr.typeAssert (.iface 9 u) 125 188 true).run Tryz.prog w=.ok (.tuple #[.slice none 0 0,.bool false]) w)∧(∀ w:World,(Instr.typeAssert (.iface 9 u) 125 190 true).run Tryz.prog w=.ok (.tuple #[.pointer none,.bool false]) w):=⟨fun w=>by kernel_rfl,fun w=>by kernel_rfl,fun w=>by kernel_rfl,fun w=>by kernel_rfl,fun w=>by kernel_rfl⟩
theorem as_list (u:Value):(∀ w:World,(Instr.typeAssert (.iface 188 u) 125 4 true).run Tryz.prog w=.ok (.tuple #[.bool false,.bool false]) w)∧(∀ w:World,(Instr.typeAssert (.iface 188 u) 125 2 true).run Tryz.prog w=.ok (.tuple #[.int .i64 0,.bool false]) w)∧(∀ w:World,(Instr.typeAssert (.iface 188 u) 125 9 true).run Tryz.prog w=.ok (.tuple #[.string ⟨#[]⟩,.bool false]) w)∧(∀ w:World,(Instr.typeAssert (.iface 188 u) 125 188 true).run Tryz.prog w=.ok (.tuple #[u,.bool true]) w)∧(∀ w:World,(Instr.typeAssert (.iface 188 u) 125 190 true).run Tryz.prog w=.ok (.tuple #[.pointer none,.bool false]) w):=⟨fun w=>by kernel_rfl,fun w=>by kernel_rfl,fun w=>by kernel_rfl,fun w=>by kernel_rfl,fun w=>by kernel_rfl⟩
theorem as_obj (u:Value):(∀ w:World,(Instr.typeAssert (.iface 190 u) 125 4 true).run Tryz.prog w=.ok (.tuple #[.bool false,.bool false]) w)∧(∀ w:World,(Instr.typeAssert (.iface 190 u) 125 2 true).run Tryz.prog w=.ok (.tuple #[.int .i64 0,.bool false]) w)∧(∀ w:World,(Instr.typeAssert (.iface 190 u) 125 9 true).run Tryz.prog w=.ok (.tuple #[.string ⟨#[]⟩,.bool false]) w)∧(∀ w:World,(Instr.typeAssert (.iface 190 u) 125 188 true).run Tryz.prog w=.ok (.tuple #[.slice none 0 0,.bool false]) w)∧(∀ w:World,(Instr.typeAssert (.iface 190 u) 125 190 true).run Tryz.prog w=.ok (.tuple #[u,.bool true]) w):=⟨fun w=>by kernel_rfl,fun w=>by kernel_rfl,fun w=>by kernel_rfl,fun w=>by kernel_rfl,fun w=>by kernel_rfl⟩
end Go.Proofs.YtnnceaapodgfbaaGreatDoor
