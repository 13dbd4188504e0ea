/- Texts of ours joined. -/
import Derived.WideKeyEntry
import Derived.Lib.ItoaLen
import Derived.Below
import Derived.Lib.Bytealg
import Derived.Lib.ItoaNum
import Derived.Test.YtnnceaapodgfbaaGreatDoorAz6
set_option linter.unusedVariables false
set_option linter.unusedSimpArgs false
namespace Go.Proofs.YtnnceaapodgfbaaGreatDoor
namespace Sto
open Go.RowKit
def PutD (f:GKey→Option Value) (k:GKey) (g mb:Nat) (vlog:Value):Dom:=fun b=>b=g∨b=mb∨((f k).getD nilS).ownBlock=some b∨vlog.ownBlock=some b
section
variable {M I J : Dom} {w w' : World} {g mb nn : Nat} {f : GKey → Option Value} {vlog vlog' vn : Value} {S : St} {kind : Int} {o : GObject}
theorem StoreIn.putM (h:StoreIn M I w g mb nn f vlog S) {k:GKey} {b:Nat} (hb:PutD f k g mb vlog b):M b:=by
 rcases hb with rfl | rfl | hb | hb
 ·exact h.gM
 ·exact h.mbM
 ·cases hf:f k with
  | none=>rw [hf] at hb;cases hb
  | some v=>rw [hf] at hb;exact (h.chain k v hf).2 b hb
 ·exact h.logM b hb
theorem StoreIn.chainAt (h:StoreIn M I w g mb nn f vlog S) {k:GKey} {b:Nat} (hb:((f k).getD nilS).ownBlock=some b):∃ v,f k=some v∧v.ownBlock=some b:=by
 cases hf:f k with
 | none=>rw [hf] at hb;cases hb
 | some v=>rw [hf] at hb;exact⟨v,rfl,hb⟩
theorem StoreIn.chain_ne (h:StoreIn M I w g mb nn f vlog S) {k:GKey} {v:Value} (hf:f k=some v) {b:Nat} (hb:v.ownBlock=some b):b≠g∧b≠mb∧vlog.ownBlock≠some b∧b<w.heap.size:=by
 obtain⟨_,hlt,cur,hc⟩:=(h.chain k v hf).1.at hb
 refine⟨fun e=>?_,fun e=>?_,fun e=>?_,hlt⟩
 ·rw [e,h.box] at hc;cases hc
 ·obtain⟨es,ck,h9⟩:=h.map.isMap
  rw [e,h9] at hc;cases hc
 ·obtain⟨_,_,cur2,hc2⟩:=h.log.at e
  rw [hc] at hc2;cases hc2
theorem put_end (h:StoreIn M I w g mb nn f vlog S) (hJ:∀ b,J b→b<w.heap.size∧¬M b) (hO:Only (PutD f o.okey g mb vlog) w w')
  (hbox:w'.heap[g]? = some (.cells #[.int .i64 (put S kind o).rev,.int .i64 S.comp,.map (some mb),.int .i64 (live (put S kind o).log),vlog'] 110 (0,0)))
  (hmap:MapK keyC w' mb (nn+1) (updK f o.okey vn))
  (hrow:OwnAt (VerX (fun b=>I b∨J b) w) 12 w' 0 163 vn (hits S.log o.okey++[(⟨kind,(S.rev:Int)+1,putO (S.rev+1) kind o⟩:GEvent)])) (hvn:∀ q,vn.ownBlock=some q→((f o.okey).getD nilS).ownBlock=some q∨w.heap.size≤q)
  (hlog:OwnAt (EvX (fun b=>I b∨J b) w) 12 w' 0 56 vlog' (S.log++[(⟨kind,(S.rev:Int)+1,putO (S.rev+1) kind o⟩:GEvent)])) (hvl:∀ q,vlog'.ownBlock=some q→vlog.ownBlock=some q∨w.heap.size≤q) :
  StoreIn (fun b=>M b∨vn.ownBlock=some b∨vlog'.ownBlock=some b) (fun b=>I b∨J b) w' g mb (nn+1) (updK f o.okey vn) vlog' (put S kind o):=by
 have hIJ:∀ b,I b∨J b→b<w.heap.size∧¬M b:=fun b hb=>hb.elim (fun hb=>⟨h.low b (.inr hb),fun hm=>h.apart b hm hb⟩) (hJ b)
 have hag:Agree (fun b=>I b∨J b) w w':=hO.agree fun b hb=>⟨(hIJ b hb).1,fun hp=>(hIJ b hb).2 (h.putM hp)⟩
 have hh:∀ k,hits (put S kind o).log k=if o.okey=k then hits S.log k++[(⟨kind,(S.rev:Int)+1,putO (S.rev+1) kind o⟩:GEvent)] else hits S.log k:=fun k=>by
  unfold put
  dsimp only
  rw [hits_append]
  by_cases hk:o.okey=k
  ·rw [if_pos hk]
   congr 1
   unfold hits
   rw [List.filter_cons_of_pos (by exact decide_eq_true hk)];rfl
  ·rw [if_neg hk]
   have:hits [(⟨kind,(S.rev:Int)+1,putO (S.rev+1) kind o⟩:GEvent)] k = []:=by
    unfold hits
    rw [List.filter_cons_of_neg (by rw [decide_eq_true_iff];exact hk)];rfl
   rw [this,List.append_nil]
 have hvnM:∀ q,vn.ownBlock=some q→M q∨w.heap.size≤q:=fun q hq=>(hvn q hq).imp (fun e=>h.putM (k:=o.okey) (.inr (.inr (.inl e)))) id
 have hvlM:∀ q,vlog'.ownBlock=some q→M q∨w.heap.size≤q:=fun q hq=>(hvl q hq).imp (fun e=>h.logM q e) id
 have oldc:∀ k v,k≠o.okey→f k=some v→∀ b,v.ownBlock=some b→w'.heap[b]? = w.heap[b]?:=fun k v hk hf b hb=>by
  obtain⟨n1,n2,n3,n4⟩:=h.chain_ne hf hb
  refine hO.block b n4 fun hp=>?_
  rcases hp with e | e | e | e
  ·exact n1 e
  ·exact n2 e
  ·obtain⟨v2,f2,b2⟩:=h.chainAt e
   exact h.own k o.okey v v2 hf f2 hk b hb b2
  ·exact n3 e
 refine⟨.inl h.gM,.inl h.mbM,fun b hb hI=>?_,fun b hb=>?_,hbox,hmap,?_,fun k v hk=>?_,fun k hk=>?_,fun k k' v v' hk hk' hne b hb hb'=>?_,?_,fun b hb=>.inr (.inr hb)⟩
 ·obtain⟨i1,i2⟩:=hIJ b hI
  rcases hb with hb | hb | hb
  ·exact i2 hb
  ·rcases hvnM b hb with e | e
   ·exact i2 e
   ·omega
  ·rcases hvlM b hb with e | e
   ·exact i2 e
   ·omega
 ·have hs:=hO.size
  rcases hb with (hb | hb | hb) | hb
  ·exact Nat.lt_of_lt_of_le (h.low b (.inl hb)) hs
  ·exact (hrow.at hb).2.1
  ·exact (hlog.at hb).2.1
  ·exact Nat.lt_of_lt_of_le (hIJ b hb).1 hs
 ·have:=h.many
  show nn+1≤(put S kind o).rev
  rw [show (put S kind o).rev=S.rev+1 from by unfold put St.rev;dsimp only;rw [List.length_append];rfl]
  omega
 ·rw [hh]
  by_cases hko:k=o.okey
  ·subst hko
   rw [updK_same] at hk
   cases hk
   rw [if_pos rfl]
   exact⟨hrow.imp' fun _ _ _ hx=>famVer.agree _ _ _ _ _ _ hag hx,fun b hb=>.inr (.inl hb)⟩
  ·rw [updK_other f vn hko] at hk
   rw [if_neg (fun e=>hko e.symm)]
   obtain⟨h1,h2⟩:=h.chain k v hk
   exact⟨(h1.stay (famVer.flat I w) fun b hb=>oldc k v hko hk b hb).imp' fun _ _ _ hx=>famVer.agree _ _ _ _ _ _ hag (famVer.mono _ _ _ _ _ _ (fun b hb=>Or.inl hb) hx),fun b hb=>.inl (h2 b hb)⟩
 ·rw [hh]
  by_cases hko:k=o.okey
  ·subst hko;rw [updK_same] at hk;cases hk
  ·rw [updK_other f vn hko] at hk
   rw [if_neg (fun e=>hko e.symm)]
   exact h.no k hk
 ·have far:∀ k v,k≠o.okey→f k=some v→v.ownBlock=some b→vn.ownBlock≠some b:=fun k v hk hf hb hn=>by
   rcases hvn b hn with e | e
   ·obtain⟨v2,f2,b2⟩:=h.chainAt e
    exact h.own k o.okey v v2 hf f2 hk b hb b2
   ·have:=(h.chain_ne hf hb).2.2.2
    omega
  by_cases hko:k=o.okey
  ·by_cases hko':k'=o.okey
   ·exact hne (hko.trans hko'.symm)
   ·rw [hko,updK_same] at hk
    rw [updK_other f vn hko'] at hk'
    cases hk
    exact far k' v' hko' hk' hb' hb
  ·rw [updK_other f vn hko] at hk
   by_cases hko':k'=o.okey
   ·rw [hko',updK_same] at hk'
    cases hk'
    exact far k v hko hk hb hb'
   ·rw [updK_other f vn hko'] at hk'
    exact h.own k k' v v' hk hk' hne b hb hb'
 ·exact hlog.imp' fun _ _ _ hx=>famEv.agree _ _ _ _ _ _ hag hx
end
end Sto
end Go.Proofs.YtnnceaapodgfbaaGreatDoor
namespace Go.Proofs.YtnnceaapodgfbaaGreatDoor
namespace Sto
open Go.RowKit
theorem str_take {w:World} {ao:Option Addr} {n c:Nat} {l:List ByteArray} (h:StrAt w (.slice ao n c) l) {i:Nat} (hi:i≤l.length):StrAt w (.slice ao i c) (l.take i):=by
 rcases h with ⟨h1,rfl⟩ | ⟨a,c',h1,h2,h3,h4⟩
 ·cases h1
  obtain rfl:i=0:=by simpa using hi
  exact .inl ⟨rfl,by simp⟩
 ·injection h1 with u1 u2 u3
  subst u1 u3
  have hlen:(l.take i).length=i:=by rw [List.length_take];omega
  refine .inr ⟨a,c,by rw [hlen],by omega,h3,fun j x hx=>?_⟩
  have hj:j<i:=by have:=(List.getElem?_eq_some_iff.1 hx).1;omega
  rw [List.getElem?_take_of_lt hj] at hx
  exact h4 j x hx
def twI (l:List ByteArray) (i:Nat):Int:=if (l.take i).Nodup then 0 else 5
theorem tw_step {l:List ByteArray} {i:Nat} {h:ByteArray} (hi:l[i]? = some h) (b:Int):says b (twI l (i+1))=if Lib.containsS (l.take i) h=true then says (says b (twI l i)) 5 else says b (twI l i):=by
 have hnd:(l.take (i+1)).Nodup↔(l.take i).Nodup∧h∉l.take i:=by
  rw [List.take_add_one,hi]
  show (l.take i++[h]).Nodup↔_
  rw [List.nodup_append]
  constructor
  ·rintro ⟨h1,_,h3⟩;exact⟨h1,fun hm=>h3 h hm h (List.mem_cons_self ..) rfl⟩
  ·rintro ⟨h1,h2⟩;exact⟨h1,List.nodup_cons.2 ⟨by simp,List.nodup_nil⟩,fun a ha c hc e=>by rw [List.mem_singleton] at hc;subst hc;subst e;exact h2 ha⟩
 unfold twI
 by_cases hc:Lib.containsS (l.take i) h=true
 ·rw [if_pos hc,if_neg (fun h9=>(hnd.1 h9).2 ((Lib.containsS_iff _ _).1 hc))]
  split
  ·rw [says_zero]
  ·unfold says;by_cases hb:b=0<;>simp [hb]
 ·rw [if_neg hc]
  have hno:h∉l.take i:=fun hm=>hc ((Lib.containsS_iff _ _).2 hm)
  by_cases hd:(l.take i).Nodup
  ·rw [if_pos (hnd.2 ⟨hd,hno⟩),if_pos hd]
  ·rw [if_neg (fun h9=>hd (hnd.1 h9).1),if_neg hd]
theorem bad_cell {g:Nat} {w:World} {b:Int} (h:IsBad g w b):w.cell? ⟨g,0,none⟩=some (.int .i64 b):=cell_block h 0
def bigO (n m:Nat):Int:=if 4<n∨4<m then 2 else 0
set_option maxRecDepth 100000 in
set_option maxHeartbeats 6400000 in
theorem checkObj_any (o:GObject) (v1 v2 v3:Value) (w:World) (hl:RowAt LabelR 2 w v1 o.labels) (ho:StrAt w v2 o.owners) (hh:StrAt w v3 o.holds) (hok:OkObj o) (ht:TabOK w) (hm:∃ m,MaxOK m w) :
  Calls Tryz.prog 18 #[objW o v1 v2 v3] w fun e w'=>e=.returned (.int .i64 (objE o))∧Below w.heap.size w w':=by
 obtain⟨mx,hmx⟩:=hm
 obtain⟨a1,c1,rfl,-,-⟩:=hl.len
 obtain⟨a2,c2,rfl,-,-⟩:=ho.row.len
 obtain⟨a3,c3,rfl,hc3,-⟩:=hh.row.len
 obtain⟨n1,Hn1⟩:∃ n,Hid (o.labels.length=n):=⟨_,Lib.hid rfl⟩
 obtain⟨n2,Hn2⟩:∃ n,Hid (o.owners.length=n):=⟨_,Lib.hid rfl⟩
 obtain⟨n3,Hn3⟩:∃ n,Hid (o.holds.length=n):=⟨_,Lib.hid rfl⟩
 rw [Hn1.out] at hl
 rw [Hn2.out] at ho
 rw [Hn3.out] at hh hc3
 rw [Hn1.out,Hn2.out,Hn3.out]
 obtain⟨kc,Hkc⟩:∃ x,Hid (keyK o.okey=x):=⟨_,Lib.hid rfl⟩
 obtain⟨lc,Hlc⟩:∃ x,Hid (labelsE o.labels=x):=⟨_,Lib.hid rfl⟩
 obtain⟨ce,Hce⟩:∃ x,Hid (JP.canonE o.doc.data.toList=x):=⟨_,Lib.hid rfl⟩
 obtain⟨ct,Hct⟩:∃ x,Hid (JP.canonT o.doc.data.toList=x):=⟨_,Lib.hid rfl⟩
 obtain⟨fo,Hfo⟩:∃ x,Hid (firstBad (o.owners.map chk)=x):=⟨_,Lib.hid rfl⟩
 obtain⟨fh,Hfh⟩:∃ x,Hid (firstBad (o.holds.map chk)=x):=⟨_,Lib.hid rfl⟩
 obtain⟨R,HR⟩:∃ x,Hid (objE o=x):=⟨_,Lib.hid rfl⟩
 rw [HR.out]
 have HRe:Hid (R=if says (says kc lc) (bigO n2 n3)≠0 then says (says kc lc) (bigO n2 n3) else says (says (says fo fh) (twI o.holds n3)) ce):=Lib.hid (by
  rw [←HR.out,←Hkc.out,←Hlc.out,←Hce.out,←Hfo.out,←Hfh.out,←Hn2.out,←Hn3.out]
  unfold twI
  rw [List.take_of_length_le (Nat.le_refl _)]
  rfl)
 have HL:=Lib.hid hl
 have HO:=Lib.hid ho
 have HH:=Lib.hid hh
 have Hok:=Lib.hid hok
 have HT:=Lib.hid ht
 have HM:=Lib.hid hmx
 obtain⟨w1,hw1⟩:∃ w1,w1=(w.alloc (.cells #[.string o.okey.kind,.string o.okey.space,.string o.okey.name,.slice a1 n1 c1,.slice a2 n2 c2,.slice a3 n3 c3,.bool o.ending,.string o.uid,.int .i64 o.rev,.string o.doc] 30)).alloc (.cells #[.int .i64 0] 113):=⟨_,rfl⟩
 obtain⟨gb,hgb⟩:∃ gb,gb=w.heap.size:=⟨_,rfl⟩
 obtain⟨gc,hgc⟩:∃ gc,gc=w.heap.size+1:=⟨_,rfl⟩
 have B1:Hid (w1.heap[gb]? = some (.cells #[.string o.okey.kind,.string o.okey.space,.string o.okey.name,.slice a1 n1 c1,.slice a2 n2 c2,.slice a3 n3 c3,.bool o.ending,.string o.uid,.int .i64 o.rev,.string o.doc] 30 (0,0))):=Lib.hid (by rw [hw1,hgb];exact heap_alloc_old (heap_alloc_new w _))
 have C1:Hid (IsBad gc w1 0):=Lib.hid (by unfold IsBad;rw [hw1,hgc];exact heap_alloc_at (World.size_alloc _ _).symm)
 have hb1:Below w.heap.size w w1:=by rw [hw1];exact ((Below.refl _ w).alloc (Nat.le_refl _) _).alloc (by rw [World.size_alloc];omega) _
 have hs1:w1.heap.size=w.heap.size+2:=by rw [hw1,World.size_alloc,World.size_alloc]
 have Hb1:=Lib.hid hb1
 have hne:gb≠gc:=by omega
 have hwb:w.heap.size≤gb:=by omega
 have hwc:w.heap.size≤gc:=by omega
 have hgl:gc<w1.heap.size:=by omega
 have N1:Hid (∀ w',But gc w1 w'→Below w.heap.size w w'∧w'.heap[gb]? = some (.cells #[.string o.okey.kind,.string o.okey.space,.string o.okey.name,.slice a1 n1 c1,.slice a2 n2 c2,.slice a3 n3 c3,.bool o.ending,.string o.uid,.int .i64 o.rev,.string o.doc] 30 (0,0))):=Lib.hid fun w' hb=>⟨hb.below Hb1.out (by omega) hwc,hb.keep B1.out hne⟩
 clear hl ho hh hok ht hmx hb1
 rw [show objW o (.slice a1 n1 c1) (.slice a2 n2 c2) (.slice a3 n3 c3)=.agg #[.string o.okey.kind,.string o.okey.space,.string o.okey.name,.slice a1 n1 c1,.slice a2 n2 c2,.slice a3 n3 c3,.bool o.ending,.string o.uid,.int .i64 o.rev,.string o.doc] from rfl]
 go_enter Tryz.func18,Tryz.ntmps18
 go_upto_region 2 with fail
 rw [←hw1]
 try rw [←hgc]
 rw [←hgb]
 clear hw1 hgb hgc
 -- says(CheckKey)
 have cc:=fun i=>cell_block B1.out i
 have HK:=Lib.hid (key_any o.okey.kind o.okey.space o.okey.name w1 (by have:=Hok.out.kind;omega) (by have:=Hok.out.space;omega) (by have:=Hok.out.name;omega))
 have hkc:AuP.keyE o.okey.kind.data.toList o.okey.space.data.toList o.okey.name.data.toList=kc:=Hkc.out
 rw [hkc] at HK
 clear hkc
 go_wp2_with fail
 refine HK.out.mono ?_
 rintro E w2 ⟨rfl,hb2⟩
 have HS:=Lib.hid (says_any gc 0 kc w2 (C1.out.below hb2))
 have K2:=Lib.hid (But.of (g:=gc) hb2)
 clear hb2 HK cc
 go_wp2_with fail
 refine HS.out.mono ?_
 rintro E w3 ⟨rfl,hbd,hbt⟩
 rw [zero_says] at hbd
 have C3:=Lib.hid hbd
 have K3:=Lib.hid (K2.out.trans hbt)
 clear hbd hbt HS K2
 -- says(CheckLabels)
 have cc:=fun i=>cell_block (N1.out w3 K3.out).2 i
 have HLb:=Lib.hid (labels_any (.slice a1 n1 c1) o.labels mx w3 (HL.out.below stays_label (N1.out w3 K3.out).1) (by have:=Hok.out.labels.1;omega) Hok.out.labels.2 (HM.out.below (N1.out w3 K3.out).1))
 rw [Hlc.out] at HLb
 go_wp2_with fail
 refine HLb.out.mono ?_
 rintro E w4 ⟨rfl,hb4⟩
 have HS:=Lib.hid (says_any gc kc lc w4 (C3.out.below hb4))
 have K4:=Lib.hid (K3.out.trans (But.of (g:=gc) hb4))
 clear hb4 HLb cc
 go_wp2_with fail
 refine HS.out.mono ?_
 rintro E w5 ⟨rfl,hbd,hbt⟩
 have C5:=Lib.hid hbd
 have K5:=Lib.hid (K4.out.trans hbt)
 clear hbd hbt HS K4
 have cc:=fun i=>cell_block (N1.out w5 K5.out).2 i
 obtain⟨b5,Hb5⟩:∃ x,Hid (says kc lc=x):=⟨_,Lib.hid rfl⟩
 have HRe2:Hid (R=if says b5 (bigO n2 n3)≠0 then says b5 (bigO n2 n3) else says (says (says fo fh) (twI o.holds n3)) ce):=Lib.hid (by rw [←Hb5.out];exact HRe.out)
 have C5b:Hid (IsBad gc w5 b5):=Lib.hid (by rw [←Hb5.out];exact C5.out)
 clear C5 HRe Hb5 C3 K3 C1
 obtain⟨bg,Hbg⟩:∃ bg,Hid (decide (4<n2∨4<n3)=bg):=⟨_,Lib.hid rfl⟩
 have hbig:bigO n2 n3=if bg=true then 2 else 0:=by
  rw [←Hbg.out]
  unfold bigO
  by_cases h:4<n2∨4<n3
  ·rw [if_pos h,if_pos (decide_eq_true h)]
  ·rw [if_neg h,if_neg (by rw [decide_eq_false h];decide)]
 have Hbig:=Lib.hid hbig
 clear hbig
 go_upto_region 4 with fail
 go_cut [29] (fun u29 wx=>u29=.bool bg∧w5=wx)
 case first=>
  by_cases h4:4<n2
  ·have q1:(4:Int)<(n2:Int):=by omega
   have hb:bg=true:=by rw [←Hbg.out];exact decide_eq_true (.inl h4)
   subst hb
   clear Hbig Hbg
   go_wp2_with fail
   go_meet
   exact⟨rfl,rfl⟩
  ·have q1:¬(4:Int)<(n2:Int):=by omega
   by_cases h5:4<n3
   ·have q2:(4:Int)<(n3:Int):=by omega
    have hb:bg=true:=by rw [←Hbg.out];exact decide_eq_true (.inr h5)
    subst hb
    clear Hbig Hbg
    go_wp2_with fail
    go_meet
    exact⟨rfl,rfl⟩
   ·have q2:¬(4:Int)<(n3:Int):=by omega
    have hb:bg=false:=by rw [←Hbg.out];exact decide_eq_false (by omega)
    subst hb
    clear Hbig Hbg
    go_wp2_with fail
    go_meet
    exact⟨rfl,rfl⟩
 case rest=>
 obtain⟨rfl,rfl⟩:=hcut
 go_upto_if 29 with fail
 go_cut [29] (fun u29 wx=>Hid (IsBad gc wx (says b5 (bigO n2 n3)))∧Hid (But gc w1 wx))
 case first=>
  have hbig:=Hbig.out
  cases bg with
  | true=>
   rw [if_pos rfl] at hbig
   have HS:=Lib.hid (says_any gc b5 2 w5 C5b.out)
   have Hb2:=Lib.hid hbig
   clear hbig Hbig
   go_wp2_with fail
   refine HS.out.mono ?_
   rintro E w6 ⟨rfl,hbd,hbt⟩
   go_wp2_with fail
   go_meet
   exact⟨Lib.hid (by rw [Hb2.out];exact hbd),Lib.hid (K5.out.trans hbt)⟩
  | false=>
   rw [if_neg (by decide)] at hbig
   have Hb2:=Lib.hid hbig
   clear hbig Hbig
   go_wp2_with fail
   go_meet
   exact⟨Lib.hid (by rw [Hb2.out,says_zero];exact C5b.out),K5⟩
 case rest=>
 obtain⟨C6,K6⟩:=hcut
 obtain⟨b6,Hb6⟩:∃ x,Hid (says b5 (bigO n2 n3)=x):=⟨_,Lib.hid rfl⟩
 rw [Hb6.out] at C6 HRe2
 have cg:=bad_cell C6.out
 clear cc C5b K5
 by_cases h0:b6=0
 ·subst h0
  have HRe3:Hid (R=says (says (says fo fh) (twI o.holds n3)) ce):=Lib.hid (by rw [HRe2.out];exact if_neg fun h=>h rfl)
  clear HRe2 Hb6
  have cc:=fun i=>cell_block (N1.out wc K6.out).2 i
  have HNo:=Lib.hid (names_any gc 0 (.slice a2 n2 c2) o.owners wc C6.out (HO.out.below (N1.out wc K6.out).1) (fun hpos a n c he hab=>by
   rcases HO.out.form hpos with ⟨b,o',c',hv,_,_,hbs,_⟩
   injection he with e1
   injection hv with e2
   rw [e2] at e1
   injection e1 with e1
   rw [←e1] at hab
   have:b=gc:=hab
   omega) (fun x hx=>by have:=Hok.out.owners.2 x hx;omega) (by have:=Hok.out.owners.1;omega))
  rw [Hfo.out,zero_says] at HNo
  go_wp2_with fail
  refine HNo.out.mono ?_
  rintro E w7 ⟨rfl,hbd,hbt⟩
  have C7:=Lib.hid hbd
  have K7:=Lib.hid (K6.out.trans hbt)
  clear hbd hbt HNo cc cg C6 K6
  have cc:=fun i=>cell_block (N1.out w7 K7.out).2 i
  have HNh:=Lib.hid (names_any gc fo (.slice a3 n3 c3) o.holds w7 C7.out (HH.out.below (N1.out w7 K7.out).1) (fun hpos a n c he hab=>by
   rcases HH.out.form hpos with ⟨b,o',c',hv,_,_,hbs,_⟩
   injection he with e1
   injection hv with e2
   rw [e2] at e1
   injection e1 with e1
   rw [←e1] at hab
   have:b=gc:=hab
   omega) (fun x hx=>by have:=Hok.out.holds.2 x hx;omega) (by have:=Hok.out.holds.1;omega))
  rw [Hfh.out] at HNh
  go_wp2_with fail
  refine HNh.out.mono ?_
  rintro E w8 ⟨rfl,hbd,hbt⟩
  have C8:=Lib.hid hbd
  have K8:=Lib.hid (K7.out.trans hbt)
  obtain⟨b8,Hb8⟩:∃ x,Hid (says fo fh=x):=⟨_,Lib.hid rfl⟩
  rw [Hb8.out] at C8 HRe3
  clear hbd hbt HNh cc C7 K7 Hb8
  have cc:=fun i=>cell_block (N1.out w8 K8.out).2 i
  have hn3:n3≤1048576:=by rw [←Hn3.out];exact Hok.out.holds.1
  go_wp2_with fail
  clear cc
  go_loopg [52] n3 (fun k u52 wr=>∃ i:Nat,i+k=n3∧u52=.int .i64 (i:Int)∧Hid (IsBad gc wr (says b8 (twI o.holds i)))∧Hid (But gc w1 wr))
  case atStart=>exact⟨0,by omega,rfl,Lib.hid (by unfold twI;rw [List.take_zero,if_pos List.nodup_nil,says_zero];exact C8.out),K8⟩
  case round=>
   obtain⟨i,hik,rfl,Cr,Kr⟩:=hrel
   cases gk with
   | zero=>
    obtain rfl:i=n3:=by omega
    have cc:=fun i=>cell_block (N1.out wr Kr.out).2 i
    have HCn:=Lib.hid (canon_any o.doc wr Hok.out.doc (HT.out.below (N1.out wr Kr.out).1))
    rw [Hct.out,Hce.out] at HCn
    obtain⟨b9,Hb9⟩:∃ x,Hid (says b8 (twI o.holds i)=x):=⟨_,Lib.hid rfl⟩
    rw [Hb9.out] at Cr HRe3
    clear Hb9
    go_wp2_with fail
    refine HCn.out.mono ?_
    rintro E w10 ⟨rfl,hb10⟩
    have HS:=Lib.hid (says_any gc b9 ce w10 (Cr.out.below hb10))
    have K10:=Lib.hid (Kr.out.trans (But.of (g:=gc) hb10))
    clear hb10 HCn cc Cr Kr
    go_wp2_with fail
    refine HS.out.mono ?_
    rintro E w11 ⟨rfl,hbd,hbt⟩
    have C11:=Lib.hid hbd
    have K11:=Lib.hid (K10.out.trans hbt)
    have cg:=bad_cell hbd
    rw [←HRe3.out] at cg
    clear hbd hbt HS K10
    go_wp2_with fail
    go_ret
    exact⟨rfl,(N1.out w11 K11.out).1⟩
   | succ k=>
    have hil:i<n3:=by omega
    obtain⟨x,hx⟩:∃ x,o.holds[i]? = some x:=⟨o.holds[i]'(by rw [Hn3.out];exact hil),List.getElem?_eq_getElem _⟩
    have hrow:=HH.out.below (N1.out wr Kr.out).1
    obtain⟨b,o',c',hv,_,_,_,hcell⟩:=hrow.form (by rw [Hn3.out];omega)
    injection hv with u1 u2 u3
    subst u1
    clear u2 u3
    have e0:=hcell i x hx
    have HCt:=Lib.hid (contains_any _ (o.holds.take i) x wr (str_take hrow (i:=i) (by rw [Hn3.out];omega)) (by rw [List.length_take];have:=Hok.out.holds.1;omega))
    have cc:=fun i=>cell_block (N1.out wr Kr.out).2 i
    have q1:(0:Int)≤(i:Int):=by omega
    have q2:(i:Int)<(n3:Int):=by omega
    have q3:i≤c3:=by omega
    have q4:(i:Int)≤(c3:Int):=by omega
    have Hst:=Lib.hid (tw_step hx b8)
    obtain⟨cn,Hcn⟩:∃ x',Hid (Lib.containsS (o.holds.take i) x=x'):=⟨_,Lib.hid rfl⟩
    rw [Hcn.out] at HCt Hst
    clear hcell hrow hx
    go_wp2_with fail
    refine HCt.out.mono ?_
    rintro E w9 ⟨rfl,rfl⟩
    cases cn with
    | true=>
     have hst:=Hst.out
     rw [if_pos rfl] at hst
     have HS:=Lib.hid (says_any gc (says b8 (twI o.holds i)) 5 wr Cr.out)
     rw [←hst] at HS
     clear hst Hst HCt cc e0
     go_wp2_with fail
     refine HS.out.mono ?_
     rintro E w10 ⟨rfl,hbd,hbt⟩
     have C10:=Lib.hid hbd
     have K10:=Lib.hid (Kr.out.trans hbt)
     clear hbd hbt HS
     go_wp2_with fail
     go_roundg k
     case measure=>omega
     case rel=>exact⟨i+1,by omega,by go_num,C10,K10⟩
    | false=>
     have hst:=Hst.out
     rw [if_neg (by decide)] at hst
     have C10:Hid (IsBad gc wr (says b8 (twI o.holds (i+1)))):=Lib.hid (by rw [hst];exact Cr.out)
     clear hst Hst HCt cc e0
     go_wp2_with fail
     go_roundg k
     case measure=>omega
     case rel=>exact⟨i+1,by omega,by go_num,C10,Kr⟩
 ·have q0:(b6 == 0)=false:=by rw [beq_eq_false_iff_ne];exact h0
  have HRe3:Hid (R=b6):=Lib.hid (by rw [HRe2.out];exact if_pos h0)
  clear HRe2 h0 Hb6
  go_wp2_with fail
  go_ret
  exact⟨congrArg (fun x=>Ending.returned (.int .i64 x)) HRe3.out.symm,(N1.out wc K6.out).1⟩
end Sto
end Go.Proofs.YtnnceaapodgfbaaGreatDoor
namespace Go.Proofs.YtnnceaapodgfbaaGreatDoor
namespace Sto
open Go.RowKit
theorem results_one_obj {fn:Func} {p:Tmp} (h:fn.results=#[.cell p 30]) (tmps:Array Value) (w:World) (g:Nat) (cs:Array Value) (hp:tmps.getD p undef=.pointer (some ⟨g,0,none⟩)) (hg:w.heap[g]? = some (.cells cs 30 (0,0))) (hs:cs.size=10) :
  (results fn tmps).run Tryz.prog w=.ok (.agg cs) w:=by
 have hp':tmps[p]?.getD undef=.pointer (some ⟨g,0,none⟩):=by simpa using hp
 have hi:(Tryz.prog.info? 30).map (·.size)=some cs.size:=by rw [hs];exact Tryz.sizeObj
 have hr:=run_loadVar_row (P:=Tryz.prog) w g 30 30 cs (0,0) _ hg Tryz.underlying30 rfl hi
 simp [results,h,hp',asAddr,hr]
set_option maxRecDepth 100000 in
set_option maxHeartbeats 6400000 in
theorem kept_any (o:GObject) (v1 v2 v3:Value) (w:World) (hl:RowAt LabelR 2 w v1 o.labels) (ho:StrAt w v2 o.owners) (hh:StrAt w v3 o.holds) (hok:OkObj o) (ht:TabOK w) :
  Calls Tryz.prog 52 #[objW o v1 v2 v3] w fun e w'=>∃ E u1 u2 u3,e=.returned (objW (keptO o) u1 u2 u3)∧ObjIn E w' u1 u2 u3 (keptO o)∧(∀ b,E b→w.heap.size≤b∧b<w'.heap.size)∧Below w.heap.size w w':=by
 obtain⟨a1,c1,rfl,-,-⟩:=hl.len
 obtain⟨a2,c2,rfl,-,-⟩:=ho.row.len
 obtain⟨a3,c3,rfl,-,-⟩:=hh.row.len
 obtain⟨n1,Hn1⟩:∃ n,Hid (o.labels.length=n):=⟨_,Lib.hid rfl⟩
 obtain⟨n2,Hn2⟩:∃ n,Hid (o.owners.length=n):=⟨_,Lib.hid rfl⟩
 obtain⟨n3,Hn3⟩:∃ n,Hid (o.holds.length=n):=⟨_,Lib.hid rfl⟩
 rw [Hn1.out] at hl
 rw [Hn2.out] at ho
 rw [Hn3.out] at hh
 rw [Hn1.out,Hn2.out,Hn3.out]
 obtain⟨ce,Hce⟩:∃ x,Hid (JP.canonE o.doc.data.toList=x):=⟨_,Lib.hid rfl⟩
 obtain⟨ct,Hct⟩:∃ x,Hid (mkB (JP.canonT o.doc.data.toList)=x):=⟨_,Lib.hid rfl⟩
 obtain⟨w1,hw1⟩:∃ w1,w1=(w.alloc (.cells #[.string o.okey.kind,.string o.okey.space,.string o.okey.name,.slice a1 n1 c1,.slice a2 n2 c2,.slice a3 n3 c3,.bool o.ending,.string o.uid,.int .i64 o.rev,.string o.doc] 30)).alloc (.cells noA 30):=⟨_,rfl⟩
 obtain⟨gb,hgb⟩:∃ gb,gb=w.heap.size:=⟨_,rfl⟩
 obtain⟨gr,hgr⟩:∃ gr,gr=w.heap.size+1:=⟨_,rfl⟩
 have B1:Hid (w1.heap[gb]? = some (.cells #[.string o.okey.kind,.string o.okey.space,.string o.okey.name,.slice a1 n1 c1,.slice a2 n2 c2,.slice a3 n3 c3,.bool o.ending,.string o.uid,.int .i64 o.rev,.string o.doc] 30 (0,0))):=Lib.hid (by rw [hw1,hgb];exact heap_alloc_old (heap_alloc_new w _))
 have R1:Hid (w1.heap[gr]? = some (.cells noA 30 (0,0))):=Lib.hid (by rw [hw1,hgr];exact heap_alloc_at (World.size_alloc _ _).symm)
 have hb1:Below w.heap.size w w1:=by rw [hw1];exact ((Below.refl _ w).alloc (Nat.le_refl _) _).alloc (by rw [World.size_alloc];omega) _
 have hs1:w1.heap.size=w.heap.size+2:=by rw [hw1,World.size_alloc,World.size_alloc]
 have HCp:Hid (Calls Tryz.prog 65 #[.agg #[.string o.okey.kind,.string o.okey.space,.string o.okey.name,.slice a1 n1 c1,.slice a2 n2 c2,.slice a3 n3 c3,.bool o.ending,.string o.uid,.int .i64 o.rev,.string o.doc]] w1 fun E w'=>∃ vl' vo' vh',E=.returned (objV o.okey vl' vo' vh' o.ending o.uid o.rev o.doc)∧
   OwnAt LabelR 2 w' w1.heap.size 66 vl' o.labels∧OwnAt RString 1 w' w1.heap.size 9 vo' o.owners∧OwnAt RString 1 w' w1.heap.size 9 vh' o.holds∧(∀ g,vh'.ownBlock=some g→vo'.ownBlock≠some g)∧Below w1.heap.size w1 w'):=
  Lib.hid (storeCopy_any o.okey (.slice a1 n1 c1) (.slice a2 n2 c2) (.slice a3 n3 c3) o.ending o.uid o.rev o.doc o.labels o.owners o.holds w1 (hl.below stays_label hb1) (ho.below hb1) (hh.below hb1) (by have:=hok.labels.1;omega) (by have:=hok.owners.1;omega) (by have:=hok.holds.1;omega))
 have Hb1:=Lib.hid hb1
 have Hok:=Lib.hid hok
 have HT:=Lib.hid ht
 have hne:gb≠gr:=by omega
 have hwb:w.heap.size≤gb:=by omega
 have hwr:w.heap.size≤gr:=by omega
 have hrl:gr<w.heap.size+2:=by omega
 have hbl:gb<w.heap.size+2:=by omega
 clear hl ho hh hok ht hb1
 rw [show objW o (.slice a1 n1 c1) (.slice a2 n2 c2) (.slice a3 n3 c3)=.agg #[.string o.okey.kind,.string o.okey.space,.string o.okey.name,.slice a1 n1 c1,.slice a2 n2 c2,.slice a3 n3 c3,.bool o.ending,.string o.uid,.int .i64 o.rev,.string o.doc] from rfl]
 go_enter Tryz.func52,Tryz.ntmps52
 go_upto_region 1 with fail
 have hex:((w.alloc (.cells #[.string o.okey.kind,.string o.okey.space,.string o.okey.name,.slice a1 n1 c1,.slice a2 n2 c2,.slice a3 n3 c3,.bool o.ending,.string o.uid,.int .i64 o.rev,.string o.doc] 30)).alloc (.cells #[.string {data:=#[]},.string {data:=#[]},.string {data:=#[]},.slice none 0 0,.slice none 0 0,.slice none 0 0,.bool false,.string {data:=#[]},.int .i64 0,.string {data:=#[]}] 30))=w1:=hw1.symm
 rw [hex]
 try rw [←hgr]
 rw [←hgb]
 clear hw1 hex hgb hgr
 have cc:=fun i=>cell_block B1.out i
 go_wp2_with fail
 refine HCp.out.mono ?_
 rintro E w2 ⟨u1,u2,u3,rfl,k1,k2,k3,-,hb2⟩
 obtain⟨d1,e1,rfl,-,-⟩:=k1.row.len
 obtain⟨d2,e2,rfl,-,-⟩:=k2.row.len
 obtain⟨d3,e3,rfl,-,-⟩:=k3.row.len
 have K1:=Lib.hid k1
 have K2:=Lib.hid k2
 have K3:=Lib.hid k3
 rw [Hn1.out] at K1
 rw [Hn2.out] at K2
 rw [Hn3.out] at K3
 rw [Hn1.out,Hn2.out,Hn3.out]
 have B2:=Lib.hid (below_block hb2 B1.out)
 have R2:=Lib.hid (below_block hb2 R1.out)
 have Hb2:=Lib.hid (Hb1.out.trans (hb2.mono (by omega)))
 have hs2:=hb2.size
 clear k1 k2 k3 hb2 cc HCp B1 R1
 unfold objV
 go_wp2_with (refine wpList_store_box (by rfl) _ _ _ (by rfl) gb #[.string o.okey.kind,.string o.okey.space,.string o.okey.name,.slice d1 n1 e1,.slice d2 n2 e2,.slice d3 n3 e3,.bool o.ending,.string o.uid,.int .i64 o.rev,.string o.doc] (by rfl) (by rfl) _ _ (by exact B2.out) (by exact Tryz.sizeObj) (by rfl) (by simp [Value.oneCell']) ?_)
 intro w3 b3 t3
 have B3:=Lib.hid b3
 have R3:=Lib.hid (t3.block R2.out (Ne.symm hne))
 have Hb3:=Lib.hid (t3.below Hb2.out hwb)
 have hs3:=t3.size
 have M1:=Lib.hid (K1.out.touch flat_label t3 fun q hq e=>by have:=(K1.out.at hq).1;omega)
 have M2:=Lib.hid (K2.out.touch flat_string t3 fun q hq e=>by have:=(K2.out.at hq).1;omega)
 have M3:=Lib.hid (K3.out.touch flat_string t3 fun q hq e=>by have:=(K3.out.at hq).1;omega)
 clear b3 t3 K1 K2 K3 B2 R2 Hb2
 have cc:=fun i=>cell_block B3.out i
 have HCn:=Lib.hid (canon_any o.doc w3 Hok.out.doc (HT.out.below Hb3.out))
 rw [Hct.out,Hce.out] at HCn
 go_upto_region 2 with fail
 go_wp2_with fail
 refine HCn.out.mono ?_
 rintro E w4 ⟨rfl,hb4⟩
 have B4:=Lib.hid (below_block hb4 B3.out)
 have R4:=Lib.hid (below_block hb4 R3.out)
 have Hb4:=Lib.hid (Hb3.out.trans (hb4.mono (by omega)))
 have M4:=Lib.hid (M1.out.below stays_label hb4)
 have M5:=Lib.hid (M2.out.below stays_string hb4)
 have M6:=Lib.hid (M3.out.below stays_string hb4)
 have hs4:=hb4.size
 clear hb4 HCn cc B3 R3 Hb3 M1 M2 M3
 have fb:=fun i=>free_block B4.out i
 have cb:=fun i=>cell_block B4.out i
 obtain⟨w5,hw5⟩:∃ w5,w4.setCell ⟨gb,9,none⟩ (.string ct)=w5:=⟨_,rfl⟩
 have t1:=touch_setCell (i:=9) (v:=.string ct) B4.out
 rw [hw5] at t1
 have B5:Hid (w5.heap[gb]? = some (.cells #[.string o.okey.kind,.string o.okey.space,.string o.okey.name,.slice d1 n1 e1,.slice d2 n2 e2,.slice d3 n3 e3,.bool o.ending,.string o.uid,.int .i64 o.rev,.string ct] 30 (0,0))):=Lib.hid t1.1
 have R5:=Lib.hid (t1.2.block R4.out (Ne.symm hne))
 have Hb5:=Lib.hid (t1.2.below Hb4.out hwb)
 have hs5:=t1.2.size
 have M1:=Lib.hid (M4.out.touch flat_label t1.2 fun q hq e=>by have:=(M4.out.at hq).1;omega)
 have M2:=Lib.hid (M5.out.touch flat_string t1.2 fun q hq e=>by have:=(M5.out.at hq).1;omega)
 have M3:=Lib.hid (M6.out.touch flat_string t1.2 fun q hq e=>by have:=(M6.out.at hq).1;omega)
 go_upto_region 3 with fail
 try rw [hw5]
 clear t1 hw5 fb cb B4 R4 Hb4 M4 M5 M6
 have fb:=fun i=>free_block B5.out i
 have cb:=fun i=>cell_block B5.out i
 obtain⟨w6,hw6⟩:∃ w6,w5.setCell ⟨gb,7,none⟩ (.string {data:=#[]})=w6:=⟨_,rfl⟩
 have t1:=touch_setCell (i:=7) (v:=.string {data:=#[]}) B5.out
 rw [hw6] at t1
 have B6:Hid (w6.heap[gb]? = some (.cells #[.string o.okey.kind,.string o.okey.space,.string o.okey.name,.slice d1 n1 e1,.slice d2 n2 e2,.slice d3 n3 e3,.bool o.ending,.string {data:=#[]},.int .i64 o.rev,.string ct] 30 (0,0))):=Lib.hid t1.1
 have R6:=Lib.hid (t1.2.block R5.out (Ne.symm hne))
 have Hb6:=Lib.hid (t1.2.below Hb5.out hwb)
 have hs6:=t1.2.size
 have M4:=Lib.hid (M1.out.touch flat_label t1.2 fun q hq e=>by have:=(M1.out.at hq).1;omega)
 have M5:=Lib.hid (M2.out.touch flat_string t1.2 fun q hq e=>by have:=(M2.out.at hq).1;omega)
 have M6:=Lib.hid (M3.out.touch flat_string t1.2 fun q hq e=>by have:=(M3.out.at hq).1;omega)
 go_upto_region 4 with fail
 try rw [hw6]
 clear t1 hw6 fb cb B5 R5 Hb5 M1 M2 M3
 have cb:=fun i=>cell_block B6.out i
 go_wp2_with (refine wpList_store_box (by rfl) _ _ _ (by rfl) gr #[.string o.okey.kind,.string o.okey.space,.string o.okey.name,.slice d1 n1 e1,.slice d2 n2 e2,.slice d3 n3 e3,.bool o.ending,.string {data:=#[]},.int .i64 o.rev,.string ct] (by rfl) (by rfl) _ _ (by exact R6.out) (by exact Tryz.sizeObj) (by rfl) (by simp [Value.oneCell']) ?_)
 intro w7 b7 t7
 have B7:=Lib.hid b7
 have Hb7:=Lib.hid (t7.below Hb6.out hwr)
 have hs7:=t7.size
 have M1:=Lib.hid (M4.out.touch flat_label t7 fun q hq e=>by have:=(M4.out.at hq).1;omega)
 have M2:=Lib.hid (M5.out.touch flat_string t7 fun q hq e=>by have:=(M5.out.at hq).1;omega)
 have M3:=Lib.hid (M6.out.touch flat_string t7 fun q hq e=>by have:=(M6.out.at hq).1;omega)
 clear b7 t7 cb B6 R6 Hb6 M4 M5 M6
 go_wp2_with fail
 refine bodyPost_ret (v:=.agg #[.string o.okey.kind,.string o.okey.space,.string o.okey.name,.slice d1 n1 e1,.slice d2 n2 e2,.slice d3 n3 e3,.bool o.ending,.string {data:=#[]},.int .i64 o.rev,.string ct]) ?_ rfl ?_
 ·exact results_one_obj Tryz.results52 _ _ gr _ (by rfl) B7.out rfl
 ·refine⟨fun b=>w.heap.size≤b∧b<w7.heap.size,_,_,_,by rw [←Hct.out];rfl,⟨OwnX.ofFlat M1.out fun b hb=>⟨by have:=(M1.out.at hb).1;omega,(M1.out.at hb).2.1⟩,OwnX.ofFlat M2.out fun b hb=>⟨by have:=(M2.out.at hb).1;omega,(M2.out.at hb).2.1⟩,OwnX.ofFlat M3.out fun b hb=>⟨by have:=(M3.out.at hb).1;omega,(M3.out.at hb).2.1⟩⟩,fun b hb=>hb,Hb7.out⟩
end Sto
end Go.Proofs.YtnnceaapodgfbaaGreatDoor
namespace Go.Proofs.YtnnceaapodgfbaaGreatDoor
open Go.RowKit Go.ChangeMaps Go.MapKept Go.WideMaps
open Go.WideElems (Fit rd rg pl rd_val rd_key rg_of rd_mk other_key)
open Go.Maps (Keyed)
variable {κ : Type}
theorem pair_one {α β:Type} {f:α→β}:∀ {l:List α},(l.map f).Pairwise (·≠·)→∀ {x y:α},x∈l→y∈l→f x=f y→x=y
 | [],_,_,_,h,_,_=>by cases h
 | a :: r,hp,x,y,hx,hy,he=>by
  rw [List.map_cons,List.pairwise_cons] at hp
  rcases List.mem_cons.1 hx with e1 | hx2
  ·rcases List.mem_cons.1 hy with e2 | hy2
   ·rw [e1,e2]
   ·exact absurd (by rw [←e1];exact he) (hp.1 _ (List.mem_map.2 ⟨y,hy2,rfl⟩))
  ·rcases List.mem_cons.1 hy with e2 | hy2
   ·exact absurd (by rw [←e2];exact he.symm) (hp.1 _ (List.mem_map.2 ⟨x,hx2,rfl⟩))
   ·exact pair_one hp.2 hx2 hy2 he
def EntryAt {P:Program} {K:TypeId} [DecidableEq κ] (C:KeyCode P K κ) (t:TypeId) (w1:World) (b n:Nat) (f:κ→Option Value) (k:κ) (st:Value):Prop:=
 ∀ w2 v,w2.heap[b]? = w1.heap[b]?→∃ w3,(Instr.entryStore t (.map (some b)) st v).run P w2=.ok () w3∧w2.mapTurned w3 b∧MapK C w3 b (n+1) (updK f k v)
theorem EntryAt.block {P:Program} {K:TypeId} [DecidableEq κ] {C:KeyCode P K κ} {t:TypeId} {w1 w1':World} {b n:Nat} {f:κ→Option Value} {k:κ} {st:Value} (h:EntryAt C t w1 b n f k st) (hb:w1'.heap[b]? = w1.heap[b]?):EntryAt C t w1' b n f k st:=
 fun w2 v hv=>h w2 v (hv.trans hb)
theorem MapK.entry [DecidableEq κ] {P:Program} {K e t:TypeId} {C:KeyCode P K κ} {w:World} {b n:Nat} {f:κ→Option Value} (h:MapK C w b n f) (hL:KeyLaw P K) (ht:P.underlying t=some (.map K e)) (hn:n<maxLen) {z:Value} (hz:∀ u:World,(zeroValue e).run P u=.ok z u) (k:κ) (hs:C.ok k) :
  ∃ st w1,(Instr.mapEntry t (.map (some b)) (C.val k)).run P w=.ok (.tuple #[(f k).getD z,st]) w1∧w.mapTurned w1 b∧EntryAt C t w1 b n f k st:=by
 have hlook:=(h.look ht (hz w) k hs).2
 obtain⟨w',hst,hm,htr⟩:=h.store ht hn k hs (.bool false)
 have hstore:=fun v=>h.store ht hn k hs v
 obtain⟨D,⟨es,clock,hb,F,hsz,hD⟩,h2,h3⟩:=h
 have hkey:=C.key k hs
 obtain⟨v0,st,es1,clock1,hrun,hv0,hen⟩:=WideElems.entry_then_store hL ht hz hb F hkey
 have hval:v0=(f k).getD z:=by
  rcases C.keyed.find w hkey es.toList F.keys with ⟨q1,q2⟩ | ⟨j,e1,q1,q2,q3⟩
  ·rcases hv0 with ⟨e0,g1,g2,_⟩ | ⟨_,g2⟩
   ·exact absurd g2 (q2 e0 g1)
   ·have hr:(Instr.lookup t (.map (some b)) (C.val k) false).run P w=.ok z w:=by
     simp [Instr.lookup,run_underlying ht,MapKept.run_getObj_map hb,C.keyed.check w es.isEmpty hkey,q1,hz,Result.andThen]
    rw [hr] at hlook
    injection hlook with hlook
    rw [g2,←hlook]
  ·have hr:(Instr.lookup t (.map (some b)) (C.val k) false).run P w=.ok e1.val w:=by
    simp [Instr.lookup,run_underlying ht,MapKept.run_getObj_map hb,C.keyed.check w es.isEmpty hkey,q1,hz,Result.andThen]
   rw [hr] at hlook
   injection hlook with hlook
   have hmem:e1∈es.toList:=List.mem_of_getElem? q2
   rcases hv0 with ⟨e0,g1,g2,g3⟩ | ⟨g1,_⟩
   ·have hone:e0=e1:=by
     have hp:(es.toList.map fun x=>(rg P K rawE x).1).Pairwise (·≠·):=by
      have:=F.apart hL
      rw [List.pairwise_map] at this ⊢
      exact this
     refine pair_one hp g1 hmem ?_
     obtain⟨y0,hy0⟩:=F.reads e0 g1
     obtain⟨y1,hy1⟩:=F.reads e1 hmem
     rw [rg_of hy0,rg_of hy1]
     have k0:=rd_key hy0
     have k1:=rd_key hy1
     rw [g2] at k0
     rw [q3] at k1
     exact Option.some.inj (k0.symm.trans k1)
    rw [g3,hone,hlook]
   ·exact absurd q3 (g1 e1 hmem)
 refine⟨goInt st,_,by rw [hrun,hval],⟨es,clock,es1,clock1,hb,rfl⟩,fun w2 v hv=>?_⟩
 have hb1:(setBlock w b (.map es1 clock1)).heap[b]? = some (.map es1 clock1):=heap_setBlock_same hb _
 rw [hb1] at hv
 obtain⟨es',clock',g1,g2⟩:=hen w2 v hv
 obtain⟨w4,r1,r2,r3⟩:=hstore v
 have hw4:w4=setBlock w b (.map es' clock'):=by
  have:=r1.symm.trans g2
  injection this
 refine⟨_,g1,⟨es1,clock1,es',clock',hv,rfl⟩,?_⟩
 rw [hw4] at r2
 refine r2.block ?_
 rw [heap_setBlock_same hv,heap_setBlock_same hb]
section
variable {P : Program} {K : TypeId} {C : KeyCode P K κ} (w : World) {ops : Array Oper} {rest : List Oper} {o : Oper} {a : Act} {Q : Exit → Act → World → Prop}
theorem wpList_entry_mapK [DecidableEq κ] (hg:o.guard=none) (m x v:Operand) (t:TypeId) (hop:o.op=Op.entryStore t m x v) (b n:Nat) (f:κ→Option Value) (k:κ) (st:Value) (hm:a.eval m=.map (some b)) (hx:a.eval x=st) (h:EntryAt C t w b n f k st) (u:Value) (hv:a.eval v=u)
  (hK:∀ w',MapK C w' b (n+1) (updK f k u)→w.mapTurned w' b→wpList P ops Q rest (a.put o.dst undef) w'):wpList P ops Q (o :: rest) a w:=by
 refine wpList_plain hg fun K' hK'=>?_
 obtain⟨w',hrun,r1,r2⟩:=h w u rfl
 unfold Oper.wp
 simp [execOp,hop,hm,hx,hv,hrun,Result.andThen]
 exact hK' _ _ (hK w' r2 r1)
end
end Go.Proofs.YtnnceaapodgfbaaGreatDoor
namespace Go.Proofs.YtnnceaapodgfbaaGreatDoor
open Go
section
variable {P : Program} {ops : Array Oper} {md : Region.Mode}
theorem wpAny_relZ {n g : Nat} {hs : List Oper} {a0 : Act} {I : World → Prop} {S : Nat → World → Prop} {R : Nat → (Nat → Value) → World → Prop} {deps kills : Nat → List Nat} {Q : Exit → Act → World → Prop}
    (hops : ∀ j, j < n → hs[j]? = ops[j]?) (hn : n < ops.size) (hap : apartDsts hs)
    (hs1 : Region.sinkB md ops n = true) (hc1 : Region.chainB md ops n = true)
    (hback : ∀ i o, ops[i]? = some o → ∀ e ∈ o.after, Region.binds md e = true → e.on < i)
    (hdeps : ∀ i o, hs[i]? = some o → ∀ j ∈ deps i, j < n ∧ ∃ e ∈ o.after, Region.binds md e = true ∧ (e.on = j ∨ (e.on < i ∧ j ∈ deps e.on)))
    (hkill : ∀ i o, hs[i]? = some o → ∀ d ∈ deps i, ∀ i' ∈ kills d, i' = i ∨ ∃ o', ops[i']? = some o' ∧ ∃ e ∈ o'.after, Region.binds md e = true ∧ e.on = i)
    (hloc : ∀ j u u' w, (∀ k, (k = j ∨ k ∈ deps j) → u k = u' k) → R j u w → R j u' w)
    (obl : ∀ i o, hs[i]? = some o → ∀ (u : Nat → Value) w, I w → S i w → (∀ j ∈ deps i, R j u w) →
      (Region.wanted o (yielded ops (putAll hs u 0 a0).tmps) = true ∧ gives P (fun v w' => R i (upd u i v) w' ∧ I w' ∧ (∀ j u, j ≠ i → i ∉ kills j → R j u w → R j u w') ∧ (∀ j, j ≠ i → S j w → S j w')) ((execOp (putAll hs u 0 a0).eval o).run P w)) ∨
      (Region.wanted o (yielded ops (putAll hs u 0 a0).tmps) = false ∧ R i (upd u i undef) w))
    (hend : ∀ (u : Nat → Value) w, I w → (∀ j, j < n → kills j = [] → R j u w) → wpAny P md ops Q g (canon n ops.size) (putAll hs u 0 a0) w) :
    ∀ (f : Nat) (listed : Array Bool) (u : Nat → Value) (w : World), unl listed n = f → HeadInv md ops n listed → I w → (∀ j, j < n → listed.getD j false = true → (∀ i ∈ kills j, listed.getD i false = false) → R j u w) → (∀ j, j < n → listed.getD j false = false → S j w) →
      wpAny P md ops Q (f + g) listed (putAll hs u 0 a0) w := by
  have clos : ∀ (listed : Array Bool), HeadInv md ops n listed → ∀ (m j : Nat), j < n → j ≤ m → listed.getD j false = true → ∀ d ∈ deps j, listed.getD d false = true := by
    intro listed inv m
    induction m with
    | zero =>
      intro j hjn hjm hl d hd
      have hj0 : j = 0 := by omega
      subst hj0
      have hoj : ops[0]? = some (ops[0]'(by omega)) := by simp [show 0 < ops.size by omega]
      obtain ⟨_, e, he, hb, hon⟩ := hdeps 0 _ ((hops 0 hjn).trans hoj) d hd
      have h1 := inv.closed 0 _ hoj hl e he hb
      rcases hon with h2 | ⟨h2, _⟩
      · rw [← h2]; exact h1
      · omega
    | succ m ihm =>
      intro j hjn hjm hl d hd
      have hoj : ops[j]? = some (ops[j]'(by omega)) := by simp [show j < ops.size by omega]
      obtain ⟨_, e, he, hb, hon⟩ := hdeps j _ ((hops j hjn).trans hoj) d hd
      have h1 := inv.closed j _ hoj hl e he hb
      rcases hon with h2 | ⟨h2, h3⟩
      · rw [← h2]; exact h1
      · exact ihm e.on (by omega) (by omega) h1 d h3
  intro f
  induction f with
  | zero =>
    intro listed u w hf inv hI hR hS
    rw [Nat.zero_add, eq_canon inv hf]
    refine hend u w hI fun j hj hk0 => hR j hj (getD_false (by rw [inv.size]; omega) (unl_zero hf j hj)) (fun i hi => by rw [hk0] at hi; cases hi)
  | succ f ih =>
    intro listed u w hf inv hI hR hS
    obtain ⟨k, hk, hku, hkr⟩ := ready_ex inv hback (by omega) (by omega)
    rw [show f + 1 + g = (f + g) + 1 by omega]
    refine ⟨fun h => (by rw [h] at hkr; cases hkr), fun i hi => ?_⟩
    have hin : i < n := by
      rcases Nat.lt_or_ge i n with h | h
      · exact h
      · exact absurd hi (tail_waits hs1 hc1 hn inv _ k rfl hk hku i h)
    obtain ⟨hiu, o, ho, hall⟩ := mem_ready.1 hi
    have ho' : hs[i]? = some o := (hops i hin).trans ho
    have hRd : ∀ j ∈ deps i, R j u w := fun j hj => by
      obtain ⟨hjn, e, he, hb, hon⟩ := hdeps i o ho' j hj
      refine hR j hjn (by rcases hon with h2 | ⟨h2, h3⟩; · rw [← h2]; exact hall e he hb
                          · exact clos listed inv e.on e.on (by omega) (Nat.le_refl _) (hall e he hb) j h3) fun i' hi' => ?_
      rcases hkill i o ho' j hj i' hi' with rfl | ⟨o', ho2, e', he', hb', hon'⟩
      · exact getD_both hiu
      · cases hl : listed.getD i' false with
        | false => rfl
        | true =>
          have h1 := inv.closed i' o' ho2 hl e' he' hb'
          rw [hon', getD_both hiu] at h1
          cases h1
    have next : ∀ v w', R i (upd u i v) w' → I w' → (∀ j u, j ≠ i → i ∉ kills j → R j u w → R j u w') → (∀ j, j ≠ i → S j w → S j w') → wpAny P md ops Q (f + g) (listed.setIfInBounds i true) ((putAll hs u 0 a0).put o.dst v) w' := fun v w' hv hI' hst hsS => by
      rw [putAll_set hs u 0 i a0 o v hap ho']
      have hil : i < listed.size := by rw [inv.size]; omega
      refine ih _ _ w' (by have := unl_set hin hiu hil; omega) (inv.set hi hin) hI' (fun j hj hl hal => ?_) fun j hj hl => by
        by_cases hji : j = i
        · subst hji
          have : (listed.setIfInBounds j true).getD j false = true := by simp [Array.getD, hil]
          rw [this] at hl; cases hl
        · exact hsS j hji (hS j hj (by rwa [getD_set_ne false (fun h => hji h.symm)] at hl))
      have hup : (fun j => if j = 0 + i then v else u j) = upd u i v := by funext j; simp [upd]
      rw [hup]
      by_cases hji : j = i
      · subst hji; exact hv
      · rw [getD_set_ne false (fun h => hji h.symm)] at hl
        have hik : i ∉ kills j := fun hik => by
          have h1 := hal i hik
          have hil2 : i < listed.size := hil
          have : (listed.setIfInBounds i true).getD i false = true := by simp [Array.getD, hil2]
          rw [this] at h1
          cases h1
        refine hloc j u _ w' (fun q hq => ?_) (hst _ _ hji hik (hR j hj hl (fun i' hi' => by
          have h1 := hal i' hi'
          by_cases hii : i' = i
          · subst hii; exact absurd hi' hik
          · rwa [getD_set_ne false (fun h => hii h.symm)] at h1)))
        unfold upd
        rw [if_neg ?_]
        rintro rfl
        rcases hq with rfl | hq
        · exact hji rfl
        · have h1 := clos listed inv j j hj (Nat.le_refl _) hl q hq
          rw [getD_both hiu] at h1
          cases h1
    unfold wpOp
    simp only [ho]
    rcases obl i o ho' u w hI (hS i hin (getD_both hiu)) hRd with ⟨hw, hg⟩ | ⟨hw, hv⟩
    · rw [if_pos hw]
      refine .inl ?_
      unfold Oper.wp
      exact gives_upon (R := fun v w' => R i (upd u i v) w' ∧ I w' ∧ (∀ j u, j ≠ i → i ∉ kills j → R j u w → R j u w') ∧ ∀ j, j ≠ i → S j w → S j w') (fun v w' h => next v w' h.1 h.2.1 h.2.2.1 h.2.2.2) hg
    · rw [if_neg (by rw [hw]; simp)]
      exact next undef w hv hI (fun _ _ _ _ h => h) (fun _ _ h => h)
theorem wp_region_relZr {id:Nat} {Q:Exit→Act→World→Prop} {a:Act} {w:World} {l:List Oper} (n:Nat) (I:World→Prop) (S:Nat→World→Prop) (R:Nat→(Nat→Value)→World→Prop) (deps kills:Nat→List Nat)
  (hm:P.follows .mixedOrders=true) (hB:relYB .any l n deps kills=true) (hloc:∀ j u u' w,(∀ k,(k=j∨k∈deps j)→u k=u' k)→R j u w→R j u' w) (hI:I w.drew) (hS0:∀ j,S j w.drew)
  (obl:∀ i o,(l.take n)[i]? = some o→∀ (u:Nat→Value) w,I w→S i w→(∀ j∈deps i,R j u w)→
   (Region.wanted o (yielded l.toArray (putAll (l.take n) u 0 a).tmps)=true∧gives P (fun v w'=>R i (upd u i v) w'∧I w'∧(∀ j u,j≠i→i∉kills j→R j u w→R j u w')∧(∀ j,j≠i→S j w→S j w')) ((execOp (putAll (l.take n) u 0 a).eval o).run P w))∨
   (Region.wanted o (yielded l.toArray (putAll (l.take n) u 0 a).tmps)=false∧R i (upd u i undef) w))
  (htail:∀ (u:Nat→Value) w,I w→(∀ j,j<n→kills j = []→R j u w)→wpList P l.toArray Q (l.drop n) (putAll (l.take n) u 0 a) w):(Code.region id l.toArray true).wp P Q a w:=by
 simp only [relYB,Bool.and_eq_true,decide_eq_true_eq,List.all_eq_true,List.mem_range] at hB
 obtain⟨⟨⟨⟨⟨⟨⟨hn,hs1⟩,hc1⟩,hback⟩,hap⟩,hdeps⟩,hseq⟩,hkl⟩:=hB
 have hsz:l.toArray.size=l.length:=by simp
 refine wp_region_any hm ?_
 have hown:putAll (l.take n) (fun j=>slotOf a (((l.take n)[j]?).bind (·.dst))) 0 a=a:=putAll_own _ 0 a _ fun j o ho=>by simp only [Nat.zero_add];rw [ho];rfl
 have hu0:unl (Array.replicate l.toArray.size false) n=n:=by
  have key:∀ m,m≤l.length→unl (Array.replicate l.toArray.size false) m=m:=by
   intro m
   induction m with
   | zero=>intro _;rfl
   | succ m ih=>
    intro h
    unfold unl
    rw [ih (by omega),if_neg (by simp [Array.getD,show m<l.length by omega])]
  exact key n (by omega)
 have inv0:HeadInv .any l.toArray n (Array.replicate l.toArray.size false):=
  ⟨by simp,fun j oj _ hl=>(by rw [getD_replicate_false] at hl;cases hl),fun t _ ht=>getD_in (by simpa using ht) (getD_replicate_false _ _)⟩
 have H:=wpAny_relZ (P:=P) (ops:=l.toArray) (md:=.any) (n:=n) (g:=l.length - n) (hs:=l.take n) (a0:=a) (I:=I) (S:=S) (R:=R) (deps:=deps) (kills:=kills) (Q:=Q)
  (fun j hj=>by simp [List.getElem?_take_of_lt hj]) (by simpa using hn)
  (List.pairwise_iff_getElem.2 fun i j hi hj hij d hd=>by
   have hi':i<l.length:=by simp at hi;omega
   have hj':j<l.length:=by simp at hj;omega
   have hjn:j<n:=by simp at hj;omega
   have:=hap j hjn i hij
   rw [List.getElem?_eq_getElem hj',List.getElem?_eq_getElem hi'] at this
   simp only [List.getElem_take] at hd ⊢
   simp only [hd] at this
   simpa using this)
  hs1 hc1
  (fun i o ho e he hb=>by
   have ho':l[i]? = some o:=by simpa using ho
   have hil:i<l.length:=(List.getElem?_eq_some_iff.1 ho').1
   have:=hback i hil
   rw [ho'] at this
   have:=Array.all_eq_true'.1 this e he
   simpa [hb] using this)
  (fun i o ho j hj=>by
   have hin:i<n:=by have:=(List.getElem?_eq_some_iff.1 ho).1;simp at this;omega
   have ho':l[i]? = some o:=by rw [List.getElem?_take_of_lt hin] at ho;exact ho
   have:=hdeps i hin
   rw [ho'] at this
   have:=List.all_eq_true.1 this j hj
   simp only [Bool.and_eq_true,decide_eq_true_eq] at this
   obtain⟨e,he,hb⟩:=Array.any_eq_true'.1 this.2
   simp only [Bool.and_eq_true,Bool.or_eq_true,beq_iff_eq,decide_eq_true_eq,List.contains_iff_mem] at hb
   exact⟨this.1,e,he,hb.1,hb.2⟩)
  (fun i o ho d hd i' hi'=>by
   have hin:i<n:=by have:=(List.getElem?_eq_some_iff.1 ho).1;simp at this;omega
   have ho':l[i]? = some o:=by rw [List.getElem?_take_of_lt hin] at ho;exact ho
   have h1:=hkl i hin d hd i' hi'
   rw [Bool.or_eq_true] at h1
   rcases h1 with h1 | h1
   ·left;simpa using h1
   ·right
    cases ho2:l[i']? with
    | none=>rw [ho2] at h1;cases h1
    | some o'=>
     rw [ho2] at h1
     obtain⟨e,he,hb⟩:=Array.any_eq_true'.1 h1
     simp only [Bool.and_eq_true,beq_iff_eq] at hb
     exact⟨o',by simpa using ho2,e,he,hb.1,hb.2⟩)
  hloc obl
  (fun u w' hI' hR=>by
   have:=wpAny_of_seq (md:=.any) (Q':=Q) (l.drop n) n (canon n l.toArray.size) (putAll (l.take n) u 0 a) w' (fun j=>by simp [List.getElem?_drop]) (by rw [List.length_drop,hsz];exact hseq) (htail u w' hI' hR)
   rwa [List.length_drop] at this)
  n (Array.replicate l.toArray.size false) (fun j=>slotOf a (((l.take n)[j]?).bind (·.dst))) w.drew hu0 inv0 hI (fun j _ hl _=>by rw [getD_replicate_false] at hl;cases hl) (fun j _ _=>hS0 j)
 rw [hown,show n+(l.length - n)=l.length by omega] at H
 rw [hsz]
 exact H
def relOblZ (P:Program) (ops:Array Oper) (I:World→Prop) (S:Nat→World→Prop) (K:Nat→World→World→Prop) (R:Nat→(Nat→Value)→World→Prop) (deps:Nat→List Nat) (hs:List Oper) (a0:Act):List Oper→Nat→Prop
 | [],_=>True
 | o :: r,i=>(∀ (u:Nat→Value) w,I w→S i w→(∀ j∈deps i,R j (mask (deps j) j u) w)→owesK P ops (fun v w'=>R i (mask (deps i) i (upd u i v)) w') (K i) (putAll hs u 0 a0) o w)∧relOblZ P ops I S K R deps hs a0 r (i+1)
theorem relOblZ_get {I:World→Prop} {S:Nat→World→Prop} {K:Nat→World→World→Prop} {R:Nat→(Nat→Value)→World→Prop} {deps:Nat→List Nat} {hs:List Oper} {a0:Act}:∀ (l:List Oper) (k:Nat),relOblZ P ops I S K R deps hs a0 l k→∀ j o,l[j]? = some o→
  (∀ (u:Nat→Value) w,I w→S (k+j) w→(∀ i∈deps (k+j),R i (mask (deps i) i u) w)→owesK P ops (fun v w'=>R (k+j) (mask (deps (k+j)) (k+j) (upd u (k+j) v)) w') (K (k+j)) (putAll hs u 0 a0) o w)
 | [],_,_,j,o,h=>by simp at h
 | x :: r,k,h,j,o,ho=>by
  cases j with
  | zero=>
   simp only [List.getElem?_cons_zero,Option.some.injEq] at ho
   subst ho
   exact h.1
  | succ j=>
   have:=relOblZ_get r (k+1) h.2 j o (by simpa using ho)
   rw [show k+1+j=k+(j+1) by omega] at this
   exact this
theorem wp_region_relZ {id:Nat} {Q:Exit→Act→World→Prop} {a:Act} {w:World} {l:List Oper} (n:Nat) (I:World→Prop) (S:Nat→World→Prop) (K:Nat→World→World→Prop) (R:Nat→(Nat→Value)→World→Prop) (deps:Nat→List Nat)
  (hm:P.follows .mixedOrders=true) (hB:relYB .any l n deps (fun _=>[])=true) (hI0:I w.drew) (hS0:∀ j,S j w.drew) (hI:∀ i w w',K i w w'→I w→I w') (hS:∀ i j w w',j≠i→K i w w'→I w→S j w→S j w') (hst:∀ i j u w w',j≠i→K i w w'→I w→R j u w→R j u w')
  (obl:relOblZ P l.toArray I S K R deps (l.take n) a (l.take n) 0)
  (htail:∀ (u:Nat→Value) w',I w'→(∀ j,j<n→R j (mask (deps j) j u) w')→wpList P l.toArray Q (l.drop n) (putAll (l.take n) u 0 a) w'):(Code.region id l.toArray true).wp P Q a w:=by
 refine wp_region_relZr n I S (fun j u w=>R j (mask (deps j) j u) w) deps (fun _=>[]) hm hB (fun j u u' w h hR=>by rw [←mask_congr h];exact hR) hI0 hS0 (fun i o ho u w' hI' hS' hd=>?_) (fun u w' hI' hR=>htail u w' hI' fun j hj=>hR j hj rfl)
 have h:=relOblZ_get (l.take n) 0 obl i o ho u w' hI' (by rw [Nat.zero_add];exact hS') (by rw [Nat.zero_add];exact hd)
 rw [Nat.zero_add] at h
 rcases h with ⟨h1,h2⟩ | h
 ·exact .inl ⟨h1,gives_mono (fun v w'' ⟨g1,g2⟩=>⟨g1,hI _ _ _ g2 hI',(fun j u hji _ hj=>hst i j _ _ _ hji g2 hI' hj),fun j hji hj=>hS i j _ _ hji g2 hI' hj⟩) h2⟩
 ·exact .inr h
end
end Go.Proofs.YtnnceaapodgfbaaGreatDoor
namespace Go.Proofs.YtnnceaapodgfbaaGreatDoor
namespace Sto
open Go.RowKit
theorem itoaP_any (n:Int) (w:World) (b1 : -9223372036854775808≤n) (b2:n≤9223372036854775807) (ht:TabOK w):Calls Tryz.prog 86 #[.int .i64 n] w fun e w'=>e=.returned (.string (mkB (Lib.itoa n)))∧Below w.heap.size w w':=by
 refine (Tryz.strconv_Itoa n b1 b2 w ht).mono ?_
 rintro e w' ⟨rfl,k,os,rfl⟩
 exact⟨rfl,Lib.below_grow _ _ (Nat.le_refl _) _ _⟩
theorem uidOf_cat (n:Nat):(⟨#[117]⟩:ByteArray)++mkB (Lib.itoa (n:Int))=uidOf n:=by
 apply ByteArray.ext
 simp [uidOf,mkB]
theorem turned_other {w w':World} {b k:Nat} (h:w.mapTurned w' b) (hk:k≠b):w'.heap[k]? = w.heap[k]?:=by
 obtain⟨es,clock,es',clock',hb,rfl⟩:=h
 exact ChangeMaps.heap_setBlock_other hb _ hk
theorem exec_app {P:Program} {a:Act} {o:Oper} {w w3:World} {s x:Operand} {t:TypeId} {v xv v':Value} (ho:o.op=.call {callee:=.builtin .append,args:=#[s,x],argTypes:=#[t,t]}) (hs:a.eval s=v) (hx:a.eval x=xv)
  (hrun:(Builtin.append_ #[t,t] o.type #[v,xv]).run P w=.ok v' w3):(execOp a.eval o).run P w=.ok (.value v') w3:=by
 simp [execOp,ho,resolve,invoke,builtin,hs,hx,hrun,Result.andThen]
theorem lt_of_some {w:World} {b:Nat} {o:Obj} (h:w.heap[b]? = some o):b<w.heap.size:=by
 rcases Nat.lt_or_ge b w.heap.size with h1 | h1
 ·exact h1
 ·rw [Array.getElem?_eq_none h1] at h;cases h
theorem _root_.Go.Proofs.YtnnceaapodgfbaaGreatDoor.Only.drewO {D:Dom} {a w:World} (h:Only D a w):Only D a w.drew:=⟨h.os,h.tape,h.output,h.size,h.block⟩
theorem results_one_box {P:Program} {fn:Func} {p:Tmp} {ty:TypeId} (h:fn.results=#[.cell p ty]) (tmps:Array Value) (w:World) (g:Nat) (t:TypeId) (cs:Array Value) (fr:Nat × Nat) (d:TypeDesc)
  (hp:tmps.getD p undef=.pointer (some ⟨g,0,none⟩)) (hg:w.heap[g]? = some (.cells cs t fr))
  (hu:P.underlying ty=some d) (hd:(match d with | .struct _ | .array _ _=>true | _=>false)=true) (hi:(P.info? ty).map (·.size)=some cs.size) :
  (results fn tmps).run P w=.ok (.agg cs) w:=by
 have hp':tmps[p]?.getD undef=.pointer (some ⟨g,0,none⟩):=by simpa using hp
 simp [results,h,hp',asAddr,run_loadVar_row w g t ty cs fr d hg hu hd hi]
def NewRow (wc:World) (v v':Value):Prop:=∀ q,v'.ownBlock=some q→v.ownBlock=some q∨wc.heap.size≤q
theorem Tryz.infoVer:(Tryz.prog.info? 163).map (fun i=>(i.zero,i.size,i.bytes))=some (some (.agg #[.int .i64 0,.string ByteArray.empty,.string ByteArray.empty,.string ByteArray.empty,.slice none 0 0,.slice none 0 0,.slice none 0 0,.bool false,.string ByteArray.empty,.int .i64 0,.string ByteArray.empty,.bool false]),12,184):=by kernel_rfl
theorem Tryz.infoEv:(Tryz.prog.info? 56).map (fun i=>(i.zero,i.size,i.bytes))=some (some (.agg #[.int .i64 0,.int .i64 0,.string ByteArray.empty,.string ByteArray.empty,.string ByteArray.empty,.slice none 0 0,.slice none 0 0,.slice none 0 0,.bool false,.string ByteArray.empty,.int .i64 0,.string ByteArray.empty]),12,184):=by kernel_rfl
set_option maxRecDepth 100000 in
set_option maxHeartbeats 12800000 in
theorem put_any {M I J:Dom} {w:World} {g mb nn:Nat} {f:GKey→Option Value} {vlog:Value} {S:St} (h:StoreIn M I w g mb nn f vlog S) (hS:S.rev≤4194303) (hlv : -4194304≤live S.log∧live S.log≤4194304) (ht:∀ w',Only M w w'→TabOK w')
  (kind:Int) (hkd:kind=1∨kind=2∨kind=3) (o:GObject) (v1 v2 v3:Value) (ho:ObjIn J w v1 v2 v3 o) (hJ:∀ b,J b→b<w.heap.size∧¬M b) (hok:OkObj o) :
  Calls Tryz.prog 51 #[.pointer (some ⟨g,0,none⟩),.int .i64 kind,objW o v1 v2 v3] w fun e w'=>∃ E u1 u2 u3 M' n' f' vlog',e=.returned (objW (putO (S.rev+1) kind o) u1 u2 u3)∧ObjIn E w' u1 u2 u3 (putO (S.rev+1) kind o)∧(∀ b,E b→w.heap.size≤b∧b<w'.heap.size)∧
   StoreIn M' (fun b=>I b∨J b) w' g mb n' f' vlog' (put S kind o)∧(∀ b,M' b→M b∨(w.heap.size≤b∧¬E b))∧Only M w w':=by
 obtain⟨a1,c1,rfl,-,-⟩:=ho.labels.own.row.len
 obtain⟨a2,c2,rfl,-,-⟩:=ho.owners.own.row.len
 obtain⟨a3,c3,rfl,-,-⟩:=ho.holds.own.row.len
 obtain⟨la,lc,rfl,-,-⟩:=h.log.row.len
 obtain⟨n1,Hn1⟩:∃ n,Hid (o.labels.length=n):=⟨_,Lib.hid rfl⟩
 obtain⟨n2,Hn2⟩:∃ n,Hid (o.owners.length=n):=⟨_,Lib.hid rfl⟩
 obtain⟨n3,Hn3⟩:∃ n,Hid (o.holds.length=n):=⟨_,Lib.hid rfl⟩
 obtain⟨ln,Hln⟩:∃ n,Hid (S.log.length=n):=⟨_,Lib.hid rfl⟩
 obtain⟨n,Hn⟩:∃ n,Hid (S.rev=n):=⟨_,Lib.hid rfl⟩
 obtain⟨cp,Hcp⟩:∃ n,Hid (S.comp=n):=⟨_,Lib.hid rfl⟩
 obtain⟨lv,Hlv⟩:∃ n,Hid (live S.log=n):=⟨_,Lib.hid rfl⟩
 rw [Hn.out] at hS
 rw [Hlv.out] at hlv
 rw [Hn1.out,Hn2.out,Hn3.out] at ho ⊢
 rw [Hln.out] at h
 have hbox:=h.box
 rw [Hn.out,Hcp.out,Hlv.out] at hbox
 have HIn:=Lib.hid h
 have HO:=Lib.hid ho
 have HJ:=Lib.hid hJ
 have Hok:=Lib.hid hok
 have hgl:=h.low g (.inl h.gM)
 obtain⟨w1,hw1⟩:∃ w1,w1=(w.alloc (.cells #[.string o.okey.kind,.string o.okey.space,.string o.okey.name,.slice a1 n1 c1,.slice a2 n2 c2,.slice a3 n3 c3,.bool o.ending,.string o.uid,.int .i64 o.rev,.string o.doc] 30)).alloc (.cells noA 30):=⟨_,rfl⟩
 obtain⟨gb,hgb⟩:∃ gb,gb=w.heap.size:=⟨_,rfl⟩
 obtain⟨gr,hgr⟩:∃ gr,gr=w.heap.size+1:=⟨_,rfl⟩
 have B1:Hid (w1.heap[gb]? = some (.cells #[.string o.okey.kind,.string o.okey.space,.string o.okey.name,.slice a1 n1 c1,.slice a2 n2 c2,.slice a3 n3 c3,.bool o.ending,.string o.uid,.int .i64 o.rev,.string o.doc] 30 (0,0))):=Lib.hid (by rw [hw1,hgb];exact heap_alloc_old (heap_alloc_new w _))
 have R1:Hid (w1.heap[gr]? = some (.cells noA 30 (0,0))):=Lib.hid (by rw [hw1,hgr];exact heap_alloc_at (World.size_alloc _ _).symm)
 have hb1:Below w.heap.size w w1:=by rw [hw1];exact ((Below.refl _ w).alloc (Nat.le_refl _) _).alloc (by rw [World.size_alloc];omega) _
 have G1:Hid (w1.heap[g]? = some (.cells #[.int .i64 n,.int .i64 cp,.map (some mb),.int .i64 lv,.slice la ln lc] 110 (0,0))):=Lib.hid (below_block hb1 hbox)
 have O1:Hid (Only (fun b=>b=g) w w1):=Lib.hid (Only.of hb1)
 have hs1:w1.heap.size=w.heap.size+2:=by rw [hw1,World.size_alloc,World.size_alloc]
 have hne1:g≠gb:=by omega
 have hne2:g≠gr:=by omega
 have hne3:gb≠gr:=by omega
 have hwb:w.heap.size≤gb:=by omega
 have hgbl:gb<w.heap.size+2:=by omega
 have hgrl:gr<w.heap.size+2:=by omega
 have hlnn:ln≤4194303:=by rw [←Hln.out];have:=Hn.out;unfold St.rev at this;omega
 have hwr:w.heap.size≤gr:=by omega
 have T3:Hid (∀ w',Only (fun b=>b=g) w w'→TabOK w'):=Lib.hid fun w' hb=>ht w' (hb.mono fun b e=>e▸h.gM)
 clear h hbox ho hJ hok ht hb1
 rw [show objW o (.slice a1 n1 c1) (.slice a2 n2 c2) (.slice a3 n3 c3)=.agg #[.string o.okey.kind,.string o.okey.space,.string o.okey.name,.slice a1 n1 c1,.slice a2 n2 c2,.slice a3 n3 c3,.bool o.ending,.string o.uid,.int .i64 o.rev,.string o.doc] from rfl]
 go_enter Tryz.func51,Tryz.ntmps51
 go_upto_region 1 with fail
 have hex:((w.alloc (.cells #[.string o.okey.kind,.string o.okey.space,.string o.okey.name,.slice a1 n1 c1,.slice a2 n2 c2,.slice a3 n3 c3,.bool o.ending,.string o.uid,.int .i64 o.rev,.string o.doc] 30)).alloc (.cells #[.string {data:=#[]},.string {data:=#[]},.string {data:=#[]},.slice none 0 0,.slice none 0 0,.slice none 0 0,.bool false,.string {data:=#[]},.int .i64 0,.string {data:=#[]}] 30))=w1:=hw1.symm
 rw [hex]
 try rw [←hgr]
 rw [←hgb]
 clear hw1 hex hgb hgr
 -- s.rev++
 have cg:=fun i=>cell_block G1.out i
 have fg:=fun i=>free_block G1.out i
 obtain⟨w2,hw2⟩:∃ w2,w1.setCell ⟨g,0,none⟩ (.int .i64 ((n:Int)+1))=w2:=⟨_,rfl⟩
 have t1:=touch_setCell (i:=0) (v:=.int .i64 ((n:Int)+1)) G1.out
 rw [hw2] at t1
 have G2:Hid (w2.heap[g]? = some (.cells #[.int .i64 ((n:Int)+1),.int .i64 cp,.map (some mb),.int .i64 lv,.slice la ln lc] 110 (0,0))):=Lib.hid t1.1
 have B2:=Lib.hid (t1.2.block B1.out (Ne.symm hne1))
 have R2:=Lib.hid (t1.2.block R1.out (Ne.symm hne2))
 have O2:=Lib.hid (O1.out.trans (Only.touch (D:=fun b=>b=g) t1.2 rfl) (fun b hb _=>hb))
 have hs2:w2.heap.size=w.heap.size+2:=t1.2.size.trans hs1
 go_upto_region 2 with fail
 try rw [hw2]
 clear t1 hw2 cg fg G1 B1 R1 O1
 -- o.Rev=s.rev
 have cg:=fun i=>cell_block G2.out i
 have fb:=fun i=>free_block B2.out i
 have cb:=fun i=>cell_block B2.out i
 obtain⟨w3,hw3⟩:∃ w3,w2.setCell ⟨gb,8,none⟩ (.int .i64 ((n:Int)+1))=w3:=⟨_,rfl⟩
 have t1:=touch_setCell (i:=8) (v:=.int .i64 ((n:Int)+1)) B2.out
 rw [hw3] at t1
 have G3:=Lib.hid (t1.2.block G2.out hne1)
 have B3:Hid (w3.heap[gb]? = some (.cells #[.string o.okey.kind,.string o.okey.space,.string o.okey.name,.slice a1 n1 c1,.slice a2 n2 c2,.slice a3 n3 c3,.bool o.ending,.string o.uid,.int .i64 ((n:Int)+1),.string o.doc] 30 (0,0))):=Lib.hid t1.1
 have R3:=Lib.hid (t1.2.block R2.out (Ne.symm hne3))
 have O3:Hid (Only (fun b=>b=g) w w3):=Lib.hid ⟨t1.2.os.trans O2.out.os,t1.2.tape.trans O2.out.tape,t1.2.output.trans O2.out.output,by rw [t1.2.size];exact O2.out.size,fun q hq hn=>(t1.2.other q (by omega)).trans (O2.out.block q hq hn)⟩
 have hs3:w3.heap.size=w.heap.size+2:=t1.2.size.trans hs2
 go_upto_region 3 with fail
 try rw [hw3]
 clear t1 hw3 cg fb cb G2 B2 R2 O2
 obtain⟨U,HU⟩:∃ U,Hid (U=if kind=1 then uidOf (n+1) else o.uid):=⟨_,Lib.hid rfl⟩
 obtain⟨l1,Hl1⟩:∃ l1,Hid (l1=if kind=1 then lv+1 else lv):=⟨_,Lib.hid rfl⟩
 go_upto_if 20 with fail
 go_cut [20] (fun u20 wx=>Hid (wx.heap[g]? = some (.cells #[.int .i64 ((n:Int)+1),.int .i64 cp,.map (some mb),.int .i64 l1,.slice la ln lc] 110 (0,0)))∧Hid (wx.heap[gb]? = some (.cells #[.string o.okey.kind,.string o.okey.space,.string o.okey.name,.slice a1 n1 c1,.slice a2 n2 c2,.slice a3 n3 c3,.bool o.ending,.string U,.int .i64 ((n:Int)+1),.string o.doc] 30 (0,0)))∧Hid (wx.heap[gr]? = some (.cells noA 30 (0,0)))∧Hid (Only (fun b=>b=g) w wx)∧Hid (w.heap.size+2≤wx.heap.size))
 case first=>
  by_cases hk1:kind=1
  ·subst hk1
   have hU:U=(⟨#[117]⟩:ByteArray)++mkB (Lib.itoa ((n+1:Nat):Int)):=by rw [HU.out,if_pos rfl,uidOf_cat]
   have hl1:l1=lv+1:=by rw [Hl1.out,if_pos rfl]
   subst hl1
   have cg:=fun i=>cell_block G3.out i
   have HIt:=Lib.hid (itoaP_any (((n+1:Nat):Int)) w3 (by omega) (by omega) (T3.out w3 O3.out))
   have hit:=Lib.itoa_length_le (((n+1:Nat):Int)) (by omega) (by omega)
   have hcast:((n+1:Nat):Int)=(n:Int)+1:=by omega
   rw [hcast] at HIt hit hU
   obtain⟨IT,hIT⟩:∃ IT,Lib.itoa ((n:Int)+1)=IT:=⟨_,rfl⟩
   rw [hIT] at HIt hit hU
   have HU2:=Lib.hid hU
   have hz:¬9223372036854775807<1+(mkB IT).size:=by rw [mkB_size];omega
   clear hIT hcast hit HU Hl1 hU
   go_wp2_with fail
   refine HIt.out.mono ?_
   rintro E w4 ⟨rfl,hb4⟩
   have G4:=Lib.hid (below_block hb4 G3.out)
   have B4:=Lib.hid (below_block hb4 B3.out)
   have R4:=Lib.hid (below_block hb4 R3.out)
   have O4:=Lib.hid (O3.out.then hb4)
   have hs4:w.heap.size+2≤w4.heap.size:=by have:=hb4.size;omega
   clear cg hb4 HIt G3 B3 R3 O3
   have fb:=fun i=>free_block B4.out i
   have cb:=fun i=>cell_block B4.out i
   obtain⟨w5,hw5⟩:∃ w5,w4.setCell ⟨gb,7,none⟩ (.string ((⟨#[117]⟩:ByteArray)++mkB IT))=w5:=⟨_,rfl⟩
   have t1:=touch_setCell (i:=7) (v:=.string ((⟨#[117]⟩:ByteArray)++mkB IT)) B4.out
   rw [hw5] at t1
   have G5:=Lib.hid (t1.2.block G4.out hne1)
   have B5:Hid (w5.heap[gb]? = some (.cells #[.string o.okey.kind,.string o.okey.space,.string o.okey.name,.slice a1 n1 c1,.slice a2 n2 c2,.slice a3 n3 c3,.bool o.ending,.string ((⟨#[117]⟩:ByteArray)++mkB IT),.int .i64 ((n:Int)+1),.string o.doc] 30 (0,0))):=Lib.hid t1.1
   have R5:=Lib.hid (t1.2.block R4.out (Ne.symm hne3))
   have O5:Hid (Only (fun b=>b=g) w w5):=Lib.hid ⟨t1.2.os.trans O4.out.os,t1.2.tape.trans O4.out.tape,t1.2.output.trans O4.out.output,by rw [t1.2.size];exact O4.out.size,fun q hq hn=>(t1.2.other q (by omega)).trans (O4.out.block q hq hn)⟩
   have hs5:w.heap.size+2≤w5.heap.size:=by rw [t1.2.size];exact hs4
   go_upto_region 5 with fail
   try rw [hw5]
   clear t1 hw5 fb cb G4 B4 R4 O4 hz
   have cg:=fun i=>cell_block G5.out i
   have fg:=fun i=>free_block G5.out i
   have t1:=touch_setCell (i:=3) (v:=.int .i64 (lv+1)) G5.out
   have G6:=Lib.hid t1.1
   have B6:=Lib.hid (t1.2.block B5.out (Ne.symm hne1))
   have R6:=Lib.hid (t1.2.block R5.out (Ne.symm hne2))
   have O6:=Lib.hid (O5.out.trans (Only.touch (D:=fun b=>b=g) t1.2 rfl) (fun b hb _=>hb))
   have hs6:w.heap.size+2≤(w5.setCell ⟨g,3,none⟩ (.int .i64 (lv+1))).heap.size:=by rw [t1.2.size];exact hs5
   clear t1 G5 B5 R5 O5
   go_wp2_with fail
   go_meet
   exact⟨G6,Lib.hid (by rw [HU2.out];exact B6.out),R6,O6,Lib.hid hs6⟩
  ·have q1:(kind == 1)=false:=by rw [beq_eq_false_iff_ne];exact hk1
   have hU:U=o.uid:=by rw [HU.out,if_neg hk1]
   have hl1:l1=lv:=by rw [Hl1.out,if_neg hk1]
   subst hU hl1
   clear hk1 HU Hl1
   go_wp2_with fail
   go_meet
   exact⟨G3,B3,R3,O3,Lib.hid (by omega)⟩
 case rest=>
 obtain⟨G4,B4,R4,O4,Hs4⟩:=hcut
 obtain⟨l2,Hl2⟩:∃ l2,Hid (l2=if kind=3 then l1 - 1 else l1):=⟨_,Lib.hid rfl⟩
 have hl1r : -4194305≤l1∧l1≤4194305:=by rw [Hl1.out];split<;>omega
 clear G3 B3 R3 O3
 go_upto_if 36 with fail
 go_cut [36] (fun u36 wx=>Hid (wx.heap[g]? = some (.cells #[.int .i64 ((n:Int)+1),.int .i64 cp,.map (some mb),.int .i64 l2,.slice la ln lc] 110 (0,0)))∧Hid (wx.heap[gb]? = some (.cells #[.string o.okey.kind,.string o.okey.space,.string o.okey.name,.slice a1 n1 c1,.slice a2 n2 c2,.slice a3 n3 c3,.bool o.ending,.string U,.int .i64 ((n:Int)+1),.string o.doc] 30 (0,0)))∧Hid (wx.heap[gr]? = some (.cells noA 30 (0,0)))∧Hid (Only (fun b=>b=g) w wx)∧Hid (w.heap.size+2≤wx.heap.size))
 case first=>
  by_cases hk3:kind=3
  ·subst hk3
   have hl2:l2=l1 - 1:=by rw [Hl2.out,if_pos rfl]
   subst hl2
   have cg:=fun i=>cell_block G4.out i
   have fg:=fun i=>free_block G4.out i
   have t1:=touch_setCell (i:=3) (v:=.int .i64 (l1 - 1)) G4.out
   have G6:=Lib.hid t1.1
   have B6:=Lib.hid (t1.2.block B4.out (Ne.symm hne1))
   have R6:=Lib.hid (t1.2.block R4.out (Ne.symm hne2))
   have O6:=Lib.hid (O4.out.trans (Only.touch (D:=fun b=>b=g) t1.2 rfl) (fun b hb _=>hb))
   have hs6:w.heap.size+2≤(wc.setCell ⟨g,3,none⟩ (.int .i64 (l1 - 1))).heap.size:=by rw [t1.2.size];exact Hs4.out
   clear t1 G4 B4 R4 O4 Hl2
   go_wp2_with fail
   go_meet
   exact⟨G6,B6,R6,O6,Lib.hid hs6⟩
  ·have q1:(kind == 3)=false:=by rw [beq_eq_false_iff_ne];exact hk3
   have hl2:l2=l1:=by rw [Hl2.out,if_neg hk3]
   subst hl2
   clear hk3 Hl2
   go_wp2_with fail
   go_meet
   exact⟨G4,B4,R4,O4,Hs4⟩
 case rest=>
 clear G4 B4 R4 O4 Hs4
 obtain⟨G5,B5,R5,O5,Hs5⟩:=hcut
 go_upto_region 8 with fail
 obtain⟨i0,hi0,hz0,hz1,hz2⟩:=info_parts Tryz.infoVer
 obtain⟨kb,Hkb⟩:∃ kb,Hid ((kind == 3)=kb):=⟨_,Lib.hid rfl⟩
 have hkk:okKey o.okey:=⟨by have:=Hok.out.kind;unfold maxLen;omega,by have:=Hok.out.space;unfold maxLen;omega,by have:=Hok.out.name;unfold maxLen;omega⟩
 obtain⟨vch,hvch⟩:∃ v,(f o.okey).getD (.slice none 0 0)=v:=⟨_,rfl⟩
 have hch:OwnAt (VerX I w) 12 w 0 163 vch (hits S.log o.okey)∧∀ b,vch.ownBlock=some b→M b:=by
  rw [←hvch]
  cases hf:f o.okey with
  | none=>rw [HIn.out.no _ hf];exact⟨OwnAt.nil _,fun b hb=>by cases hb⟩
  | some v=>exact HIn.out.chain _ v hf
 obtain⟨ca,cq,rfl,-,-⟩:=hch.1.row.len
 obtain⟨cn,Hcn⟩:∃ cn,Hid ((hits S.log o.okey).length=cn):=⟨_,Lib.hid rfl⟩
 rw [Hcn.out] at hch hvch
 have Hvch:=Lib.hid hvch
 have Hhl:Hid ((hits S.log o.okey).length≤4194303):=Lib.hid (Nat.le_trans (List.length_filter_le _ _) (by have:=Hn.out;unfold St.rev at this;omega))
 have hcnl:cn≤4194303:=by rw [←Hcn.out];exact Hhl.out
 have HIJ:Hid (∀ b,M b→¬(I b∨J b)):=Lib.hid fun b hb h9=>h9.elim (HIn.out.apart b hb) fun h9=>(HJ.out b h9).2 hb
 have hmg:mb≠g:=HIn.out.map.ne HIn.out.box
 have hmlt:=HIn.out.map.lt
 have hmany:nn≤4194303:=by have:=HIn.out.many;have:=Hn.out;omega
 have hchg:∀ b,(Value.slice ca cn cq).ownBlock=some b→b≠g∧b≠mb∧b<w.heap.size:=fun b hb=>by
  obtain⟨_,hlt,cur,hc⟩:=hch.1.at hb
  refine⟨fun e=>?_,fun e=>?_,hlt⟩
  ·rw [e,HIn.out.box] at hc;cases hc
  ·obtain⟨es,ck,h9⟩:=HIn.out.map.isMap
   rw [e,h9] at hc;cases hc
 have hmc:MapK keyC wc mb nn f:=HIn.out.map.block (O5.out.block mb hmlt hmg)
 have hrc:OwnAt (VerX (fun b=>I b∨J b) w) 12 wc 0 163 (.slice ca cn cq) (hits S.log o.okey):=(hch.1.stay (famVer.flat I w) fun b hb=>O5.out.block b (hchg b hb).2.2 (hchg b hb).1).imp' fun _ _ _ hx=>famVer.mono _ _ _ _ _ _ (fun b hb=>Or.inl hb) hx
 have HX:Hid (VerX (fun b=>I b∨J b) w w (#[.int .i64 ((n:Int)+1),.string o.okey.kind,.string o.okey.space,.string o.okey.name,.slice a1 n1 c1,.slice a2 n2 c2,.slice a3 n3 c3,.bool o.ending,.string U,.int .i64 ((n:Int)+1),.string o.doc,.bool kb]:Array Value).toList (⟨kind,(n:Int)+1,putO (n+1) kind o⟩:GEvent)):=Lib.hid ⟨.slice a1 n1 c1,.slice a2 n2 c2,.slice a3 n3 c3,by
  have e1:kb=decide (kind=3):=Hkb.out.symm
  have e2:U=(putO (n+1) kind o).uid:=HU.out
  rw [e1,e2]
  rfl,(HO.out.mono fun b hb=>Or.inr hb).other rfl rfl rfl⟩
 have Hmc:=Lib.hid hmc
 have Hrc:=Lib.hid hrc
 have Hchg:=Lib.hid hchg
 have HchM:=Lib.hid hch.2
 have HchC:Hid (∀ b,(Value.slice ca cn cq).ownBlock=some b→∃ cur,w.heap[b]? = some (.cells cur 163 (0,0))):=Lib.hid fun b hb=>(hch.1.at hb).2.2
 clear hch hvch hmc hrc hchg
 refine wp_region_relZ 19 (fun w'=>w'.heap[g]? = some (.cells #[.int .i64 ((n:Int)+1),.int .i64 cp,.map (some mb),.int .i64 l2,.slice la ln lc] 110 (0,0))∧w'.heap[gb]? = some (.cells #[.string o.okey.kind,.string o.okey.space,.string o.okey.name,.slice a1 n1 c1,.slice a2 n2 c2,.slice a3 n3 c3,.bool o.ending,.string U,.int .i64 ((n:Int)+1),.string o.doc] 30 (0,0))∧Only (fun b=>b=mb∨(Value.slice ca cn cq).ownBlock=some b) wc w') (fun j w'=>match j with
  | 15=>MapK keyC w' mb nn f
  | 17=>OwnAt (VerX (fun b=>I b∨J b) w) 12 w' 0 163 (.slice ca cn cq) (hits S.log o.okey)
  | _=>True) (fun i wa wb=>(i=15→wa.mapTurned wb mb)∧(i=17→wa.grownBy wb (Value.slice ca cn cq).ownBlock)∧(i≠15→i≠17→Below wa.heap.size wa wb)) (fun j U' w'=>match j with
  | 0=>U' 0=.pointer (some ⟨g,0,none⟩)
  | 1=>U' 1=.pointer (some ⟨g,0,none⟩)
  | 2=>U' 2=.pointer (some ⟨g,2,none⟩)
  | 3=>U' 3=.map (some mb)
  | 4=>U' 4=.pointer (some ⟨gb,0,none⟩)
  | 5=>U' 5=.agg #[.string o.okey.kind,.string o.okey.space,.string o.okey.name]
  | 6=>U' 6=.pointer (some ⟨g,0,none⟩)
  | 7=>U' 7=.pointer (some ⟨g,0,none⟩)
  | 8=>U' 8=.pointer (some ⟨g,0,none⟩)
  | 9=>U' 9=.int .i64 ((n:Int)+1)
  | 10=>U' 10=.agg #[.string o.okey.kind,.string o.okey.space,.string o.okey.name,.slice a1 n1 c1,.slice a2 n2 c2,.slice a3 n3 c3,.bool o.ending,.string U,.int .i64 ((n:Int)+1),.string o.doc]
  | 11=>U' 11=.int .i64 kind
  | 12=>U' 12=.bool kb
  | 13=>U' 13=.agg #[.int .i64 ((n:Int)+1),.string o.okey.kind,.string o.okey.space,.string o.okey.name,.slice a1 n1 c1,.slice a2 n2 c2,.slice a3 n3 c3,.bool o.ending,.string U,.int .i64 ((n:Int)+1),.string o.doc,.bool kb]
  | 14=>∃ gx,U' 14=.slice (some ⟨gx,0,none⟩) 1 1∧wc.heap.size≤gx∧w'.heap[gx]? = some (.cells #[.int .i64 ((n:Int)+1),.string o.okey.kind,.string o.okey.space,.string o.okey.name,.slice a1 n1 c1,.slice a2 n2 c2,.slice a3 n3 c3,.bool o.ending,.string U,.int .i64 ((n:Int)+1),.string o.doc,.bool kb] 163 (0,0))
  | 15=>∃ st,U' 15=.tuple #[.slice ca cn cq,st]∧EntryAt keyC 108 w' mb nn f o.okey st
  | 16=>U' 16=.slice ca cn cq
  | 17=>OwnAt (VerX (fun b=>I b∨J b) w) 12 w' 0 163 (U' 17) (hits S.log o.okey++[(⟨kind,(n:Int)+1,putO (n+1) kind o⟩:GEvent)])∧NewRow wc (.slice ca cn cq) (U' 17)
  | 18=>U' 15=.tuple #[.slice ca cn cq,U' 18]
  | _=>True)
  (fun | 1=>[0] | 2=>[1] | 3=>[2] | 5=>[4] | 7=>[6] | 8=>[7] | 9=>[8] | 12=>[11] | 13=>[9,10,12] | 14=>[13] | 15=>[3,5] | 16=>[15] | 17=>[14,16] | 18=>[15] | _=>[])
  (by kernel_rfl) (by kernel_rfl) ⟨G5.out,B5.out,(Only.refl _ _).drewO⟩ ?_ ?_ ?_ ?_ ⟨?_,?_,?_,?_,?_,?_,?_,?_,?_,?_,?_,?_,?_,?_,?_,?_,?_,?_,?_,trivial⟩ ?_
 ·intro j
  match j with
  | 15=>exact Hmc.out
  | 17=>exact Hrc.out.stay (famVer.flat _ _) fun _ _=>rfl
  | 0 | 1 | 2 | 3 | 4 | 5 | 6 | 7 | 8 | 9 | 10 | 11 | 12 | 13 | 14 | 16 | _+18=>trivial
 ·intro i wa wb hk hi
  have hO:Only (fun b=>b=mb∨(Value.slice ca cn cq).ownBlock=some b) wa wb:=by
   by_cases i15:i=15
   ·exact Only.turned (hk.1 i15) (.inl rfl)
   ·by_cases i17:i=17
    ·exact Only.grown (hk.2.1 i17) fun q hq=>.inr hq
    ·exact Only.of (hk.2.2 i15 i17)
  have hsz:=hi.2.2.size
  have hg1:g<wa.heap.size∧¬(g=mb∨(Value.slice ca cn cq).ownBlock=some g):=⟨by have:=Hs5.out;omega,fun h=>h.elim (fun e=>hmg e.symm) fun e=>(Hchg.out g e).1 rfl⟩
  have hg2:gb<wa.heap.size∧¬(gb=mb∨(Value.slice ca cn cq).ownBlock=some gb):=⟨by have:=Hs5.out;have:=hgbl;omega,fun h=>h.elim (fun e=>by omega) fun e=>by have:=(Hchg.out gb e).2.2;omega⟩
  exact⟨(hO.block g hg1.1 hg1.2).trans hi.1,(hO.block gb hg2.1 hg2.2).trans hi.2.1,hi.2.2.trans hO fun b hb _=>hb⟩
 ·intro i j wa wb hji hk hi h
  match j,hji,h with
  | 15,hji,h=>
   by_cases i17:i=17
   ·exact MapK.kept h (hk.2.1 i17) fun e=>(Hchg.out mb e.symm).2.1 rfl
   ·exact MapK.belowW h (hk.2.2 (fun e=>hji e.symm) i17)
  | 17,hji,h=>
   by_cases i15:i=15
   ·exact OwnAt.stay (famVer.flat _ _) h fun q hq=>turned_other (hk.1 i15) (Hchg.out q hq).2.1
   ·exact OwnAt.below (famVer.flat _ _).stays h (hk.2.2 i15 fun e=>hji e.symm)
  | 0,_,_ | 1,_,_ | 2,_,_ | 3,_,_ | 4,_,_ | 5,_,_ | 6,_,_ | 7,_,_ | 8,_,_ | 9,_,_ | 10,_,_ | 11,_,_ | 12,_,_ | 13,_,_ | 14,_,_ | 16,_,_ | _+18,_,_=>trivial
 ·intro i j U' wa wb hji hk hi h
  have hwc:=hi.2.2.size
  have hs5:=Hs5.out
  have low:∀ q (o:Obj),q≠mb→(Value.slice ca cn cq).ownBlock≠some q→wa.heap[q]? = some o→wb.heap[q]? = some o:=fun q o h1 h2 h3=>by
   by_cases i15:i=15
   ·exact (turned_other (hk.1 i15) h1).trans h3
   ·by_cases i17:i=17
    ·exact ((hk.2.1 i17).block q (lt_of_some h3) fun e=>h2 e.symm).trans h3
    ·exact below_block (hk.2.2 i15 i17) h3
  match j,hji,h with
  | 14,hji,⟨gx,x1,x2,x3⟩=>exact⟨gx,x1,x2,low gx _ (by omega) (fun e=>by have:=(Hchg.out gx e).2.2;omega) x3⟩
  | 15,hji,⟨st,x1,x2⟩=>
   refine⟨st,x1,x2.block ?_⟩
   have hml:mb<wa.heap.size:=by omega
   by_cases i17:i=17
   ·exact (hk.2.1 i17).block mb hml fun e=>(Hchg.out mb e.symm).2.1 rfl
   ·exact (hk.2.2 (fun e=>hji e.symm) i17).block mb hml
  | 17,hji,⟨x1,x2⟩=>
   refine⟨?_,x2⟩
   by_cases i15:i=15
   ·exact OwnAt.stay (famVer.flat _ _) x1 fun q hq=>turned_other (hk.1 i15) fun e=>by
     rcases x2 q hq with h9 | h9
     ·exact (Hchg.out q h9).2.1 e
     ·omega
   ·exact OwnAt.below (famVer.flat _ _).stays x1 (hk.2.2 i15 fun e=>hji e.symm)
  | 0,_,h | 1,_,h | 2,_,h | 3,_,h | 4,_,h | 5,_,h | 6,_,h | 7,_,h | 8,_,h | 9,_,h | 10,_,h | 11,_,h | 12,_,h | 13,_,h | 16,_,h | 18,_,h=>exact h
  | _+19,_,h=>trivial
 ·intro y w' hb hS hd
  refine owesK_here (.pointer (some ⟨g,0,none⟩)) (by rfl) ?_ rfl ⟨fun h=>absurd h (by decide),fun h=>absurd h (by decide),fun _ _=>Below.refl _ _⟩
  clear hb hS hd
  simp only [putAll,List.take_succ_cons,List.take_zero]
  go_simp
 ·intro y w' hb hS hd
  have h0:y 0=.pointer (some ⟨g,0,none⟩):=hd 0 (by simp)
  refine owesK_here (.pointer (some ⟨g,0,none⟩)) (by rfl) ?_ rfl ⟨fun h=>absurd h (by decide),fun h=>absurd h (by decide),fun _ _=>Below.refl _ _⟩
  clear hb hS hd
  simp only [putAll,List.take_succ_cons,List.take_zero]
  go_simp
 ·intro y w' hb hS hd
  have h1:y 1=.pointer (some ⟨g,0,none⟩):=hd 1 (by simp)
  refine owesK_here (.pointer (some ⟨g,2,none⟩)) (by rfl) ?_ rfl ⟨fun h=>absurd h (by decide),fun h=>absurd h (by decide),fun _ _=>Below.refl _ _⟩
  clear hb hS hd
  simp only [putAll,List.take_succ_cons,List.take_zero]
  go_simp
 ·intro y w' hb hS hd
  have h2:y 2=.pointer (some ⟨g,2,none⟩):=hd 2 (by simp)
  have cc:=cell_block hb.1 2
  refine owesK_here (.map (some mb)) (by rfl) ?_ rfl ⟨fun h=>absurd h (by decide),fun h=>absurd h (by decide),fun _ _=>Below.refl _ _⟩
  clear hb hS hd
  simp only [putAll,List.take_succ_cons,List.take_zero]
  go_simp
 ·intro y w' hb hS hd
  refine owesK_here (.pointer (some ⟨gb,0,none⟩)) (by rfl) ?_ rfl ⟨fun h=>absurd h (by decide),fun h=>absurd h (by decide),fun _ _=>Below.refl _ _⟩
  clear hb hS hd
  simp only [putAll,List.take_succ_cons,List.take_zero]
  go_simp
 ·intro y w' hb hS hd
  have h4:y 4=.pointer (some ⟨gb,0,none⟩):=hd 4 (by simp)
  have cc:=fun i=>cell_block hb.2.1 i
  refine owesK_here (.agg #[.string o.okey.kind,.string o.okey.space,.string o.okey.name]) (by rfl) ?_ rfl ⟨fun h=>absurd h (by decide),fun h=>absurd h (by decide),fun _ _=>Below.refl _ _⟩
  clear hb hS hd
  simp only [putAll,List.take_succ_cons,List.take_zero]
  go_simp
 ·intro y w' hb hS hd
  refine owesK_here (.pointer (some ⟨g,0,none⟩)) (by rfl) ?_ rfl ⟨fun h=>absurd h (by decide),fun h=>absurd h (by decide),fun _ _=>Below.refl _ _⟩
  clear hb hS hd
  simp only [putAll,List.take_succ_cons,List.take_zero]
  go_simp
 ·intro y w' hb hS hd
  have h6:y 6=.pointer (some ⟨g,0,none⟩):=hd 6 (by simp)
  refine owesK_here (.pointer (some ⟨g,0,none⟩)) (by rfl) ?_ rfl ⟨fun h=>absurd h (by decide),fun h=>absurd h (by decide),fun _ _=>Below.refl _ _⟩
  clear hb hS hd
  simp only [putAll,List.take_succ_cons,List.take_zero]
  go_simp
 ·intro y w' hb hS hd
  have h7:y 7=.pointer (some ⟨g,0,none⟩):=hd 7 (by simp)
  refine owesK_here (.pointer (some ⟨g,0,none⟩)) (by rfl) ?_ rfl ⟨fun h=>absurd h (by decide),fun h=>absurd h (by decide),fun _ _=>Below.refl _ _⟩
  clear hb hS hd
  simp only [putAll,List.take_succ_cons,List.take_zero]
  go_simp
 ·intro y w' hb hS hd
  have h8:y 8=.pointer (some ⟨g,0,none⟩):=hd 8 (by simp)
  have cc:=cell_block hb.1 0
  refine owesK_here (.int .i64 ((n:Int)+1)) (by rfl) ?_ rfl ⟨fun h=>absurd h (by decide),fun h=>absurd h (by decide),fun _ _=>Below.refl _ _⟩
  clear hb hS hd
  simp only [putAll,List.take_succ_cons,List.take_zero]
  go_simp
 ·intro y w' hb hS hd
  have cc:=fun i=>cell_block hb.2.1 i
  refine owesK_here (.agg #[.string o.okey.kind,.string o.okey.space,.string o.okey.name,.slice a1 n1 c1,.slice a2 n2 c2,.slice a3 n3 c3,.bool o.ending,.string U,.int .i64 ((n:Int)+1),.string o.doc]) (by rfl) ?_ rfl ⟨fun h=>absurd h (by decide),fun h=>absurd h (by decide),fun _ _=>Below.refl _ _⟩
  clear hb hS hd
  simp only [putAll,List.take_succ_cons,List.take_zero]
  go_simp
 ·intro y w' hb hS hd
  refine owesK_here (.int .i64 kind) (by rfl) ?_ rfl ⟨fun h=>absurd h (by decide),fun h=>absurd h (by decide),fun _ _=>Below.refl _ _⟩
  clear hb hS hd
  simp only [putAll,List.take_succ_cons,List.take_zero]
  go_simp
 ·intro y w' hb hS hd
  have h11:y 11=.int .i64 kind:=hd 11 (by simp)
  have hkb:=Hkb.out
  refine owesK_here (.bool kb) (by rfl) ?_ rfl ⟨fun h=>absurd h (by decide),fun h=>absurd h (by decide),fun _ _=>Below.refl _ _⟩
  clear hb hS hd
  simp only [putAll,List.take_succ_cons,List.take_zero]
  go_simp
 ·intro y w' hb hS hd
  have h9:y 9=.int .i64 ((n:Int)+1):=hd 9 (by simp)
  have h10:y 10=.agg #[.string o.okey.kind,.string o.okey.space,.string o.okey.name,.slice a1 n1 c1,.slice a2 n2 c2,.slice a3 n3 c3,.bool o.ending,.string U,.int .i64 ((n:Int)+1),.string o.doc]:=hd 10 (by simp)
  have h12:y 12=.bool kb:=hd 12 (by simp)
  refine owesK_here (.agg #[.int .i64 ((n:Int)+1),.string o.okey.kind,.string o.okey.space,.string o.okey.name,.slice a1 n1 c1,.slice a2 n2 c2,.slice a3 n3 c3,.bool o.ending,.string U,.int .i64 ((n:Int)+1),.string o.doc,.bool kb]) (by rfl) ?_ rfl ⟨fun h=>absurd h (by decide),fun h=>absurd h (by decide),fun _ _=>Below.refl _ _⟩
  clear hb hS hd
  simp only [putAll,List.take_succ_cons,List.take_zero]
  go_simp
 ·intro y w' hb hS hd
  have h13:y 13=.agg #[.int .i64 ((n:Int)+1),.string o.okey.kind,.string o.okey.space,.string o.okey.name,.slice a1 n1 c1,.slice a2 n2 c2,.slice a3 n3 c3,.bool o.ending,.string U,.int .i64 ((n:Int)+1),.string o.doc,.bool kb]:=hd 13 (by simp)
  have hsz:=hb.2.2.size
  refine owesK_makes (w':=w'.alloc (.cells #[.int .i64 ((n:Int)+1),.string o.okey.kind,.string o.okey.space,.string o.okey.name,.slice a1 n1 c1,.slice a2 n2 c2,.slice a3 n3 c3,.bool o.ending,.string U,.int .i64 ((n:Int)+1),.string o.doc,.bool kb] 163)) (.slice (some ⟨w'.heap.size,0,none⟩) 1 1) (by rfl) ?_ ⟨_,rfl,by omega,heap_alloc_new w' _⟩ ⟨fun h=>absurd h (by decide),fun h=>absurd h (by decide),fun _ _=>(Below.refl _ w').alloc (Nat.le_refl _) _⟩
  clear hb hS hd
  simp only [putAll,List.take_succ_cons,List.take_zero]
  rw [h13]
  go_simp
 ·intro y w' hb hS hd
  have h3:y 3=.map (some mb):=hd 3 (by simp)
  have h5:y 5=.agg #[.string o.okey.kind,.string o.okey.space,.string o.okey.name]:=hd 5 (by simp)
  have hm:MapK keyC w' mb nn f:=hS
  obtain⟨st,w3,hrun,htr,hen⟩:=hm.entry (t:=108) (e:=159) keyLaw Tryz.underlying108 (by unfold maxLen;omega) Tryz.zeroVers o.okey hkk
  rw [Hvch.out] at hrun
  have hrun2:(Instr.mapEntry 108 (.map (some mb)) (.agg #[.string o.okey.kind,.string o.okey.space,.string o.okey.name])).run Tryz.prog w'=.ok (.tuple #[.slice ca cn cq,st]) w3:=hrun
  refine owesK_makes (w':=w3) (.tuple #[.slice ca cn cq,st]) (by rfl) ?_ ⟨st,rfl,hen⟩ ⟨fun _=>htr,fun h=>absurd h (by decide),fun h=>absurd rfl h⟩
  clear hb hS hd hm hrun hen htr
  simp only [putAll,List.take_succ_cons,List.take_zero]
  rw [h3,h5]
  go_simp
 ·intro y w' hb hS hd
  obtain⟨st,h15,_⟩:∃ st,y 15=.tuple #[.slice ca cn cq,st]∧EntryAt keyC 108 w' mb nn f o.okey st:=hd 15 (by simp)
  refine owesK_here (.slice ca cn cq) (by rfl) ?_ rfl ⟨fun h=>absurd h (by decide),fun h=>absurd h (by decide),fun _ _=>Below.refl _ _⟩
  clear hb hS hd
  simp only [putAll,List.take_succ_cons,List.take_zero]
  go_simp
 ·intro y w' hb hS hd
  have h16:y 16=.slice ca cn cq:=hd 16 (by simp)
  obtain⟨gx,h14,hgx,hxc⟩:∃ gx,y 14=.slice (some ⟨gx,0,none⟩) 1 1∧wc.heap.size≤gx∧w'.heap[gx]? = some (.cells #[.int .i64 ((n:Int)+1),.string o.okey.kind,.string o.okey.space,.string o.okey.name,.slice a1 n1 c1,.slice a2 n2 c2,.slice a3 n3 c3,.bool o.ending,.string U,.int .i64 ((n:Int)+1),.string o.doc,.bool kb] 163 (0,0)):=hd 14 (by simp)
  have hro:OwnAt (VerX (fun b=>I b∨J b) w) 12 w' 0 163 (.slice ca cn cq) (hits S.log o.okey):=hS
  obtain⟨v',w3,hrun,q1,q2,q3,q4⟩:=run_append_ownAt (P:=Tryz.prog) w' 159 159 i0 _ 184 Tryz.underlying159 hi0 hz0 hz1 hz2 rfl (by omega) (famVer.flat _ _) (famVer.one _ _) (.slice ca cn cq) hro (y 14) (by rw [h14];exact RowAt.one (R:=VerX (fun b=>I b∨J b) w) (k:=12) hxc rfl HX.out) (by rw [List.length_singleton];have:=Hhl.out;unfold maxLen;omega) (by rw [List.length_singleton];have:=Hhl.out;omega) (Nat.zero_le _)
  have hwcs:=hb.2.2.size
  have q5:NewRow wc (.slice ca cn cq) v':=fun q hq=>by
   rcases q4 with e | e
   ·exact .inl (by rw [←e];exact hq)
   ·rw [e] at hq
    cases hq
    exact .inr hwcs
  refine owesK_makes (w':=w3) v' (by rfl) ?_ ⟨q1,q5⟩ ⟨fun h=>absurd h (by decide),fun _=>q2,fun _ h=>absurd rfl h⟩
  rw [←h16] at hrun
  clear hb hS hd
  simp only [putAll,List.take_succ_cons,List.take_zero]
  try simp only [Act.put,List.setIfInBounds_toArray,List.set_cons_zero,List.set_cons_succ]
  exact exec_app (by rfl) (by rfl) (by rfl) hrun
 ·intro y w' hb hS hd
  obtain⟨st,h15,_⟩:∃ st,y 15=.tuple #[.slice ca cn cq,st]∧EntryAt keyC 108 w' mb nn f o.okey st:=hd 15 (by simp)
  refine owesK_here st (by rfl) ?_ h15 ⟨fun h=>absurd h (by decide),fun h=>absurd h (by decide),fun _ _=>Below.refl _ _⟩
  clear hb hS hd
  simp only [putAll,List.take_succ_cons,List.take_zero]
  go_simp
 ·intro y w' hb hR
  have h3:y 3=.map (some mb):=hR 3 (by omega)
  obtain⟨st,h15,hen⟩:∃ st,y 15=.tuple #[.slice ca cn cq,st]∧EntryAt keyC 108 w' mb nn f o.okey st:=hR 15 (by omega)
  obtain⟨hrow,hnew⟩:OwnAt (VerX (fun b=>I b∨J b) w) 12 w' 0 163 (y 17) (hits S.log o.okey++[(⟨kind,(n:Int)+1,putO (n+1) kind o⟩:GEvent)])∧NewRow wc (.slice ca cn cq) (y 17):=hR 17 (by omega)
  have h18:y 15=.tuple #[.slice ca cn cq,y 18]:=hR 18 (by omega)
  have hst:y 18=st:=by rw [h15] at h18;injection h18 with h18;simpa using h18.symm
  obtain⟨vn,hvn⟩:∃ vn,y 17=vn:=⟨_,rfl⟩
  rw [hvn] at hrow hnew
  obtain⟨b1,b2,b3⟩:=hb
  have P1:=Lib.hid b1
  have P2:=Lib.hid b2
  have P3:=Lib.hid b3
  have Hrow:=Lib.hid hrow
  have Hnew:=Lib.hid hnew
  clear hR h15 h18 hrow hnew b1 b2 b3
  simp only [putAll,List.take_succ_cons,List.take_zero,List.drop_succ_cons,List.drop_zero]
  rw [h3,hst,hvn]
  clear h3 hst hvn
  try simp only [Act.put,List.setIfInBounds_toArray,List.set_cons_zero,List.set_cons_succ]
  refine wpList_entry_mapK (C:=keyC) w' (by rfl) _ _ _ 108 (by rfl) mb nn f o.okey st (by rfl) (by rfl) hen vn (by rfl) ?_
  intro w9 hm9 ht9
  have G9:Hid (w9.heap[g]? = some (.cells #[.int .i64 ((n:Int)+1),.int .i64 cp,.map (some mb),.int .i64 l2,.slice la ln lc] 110 (0,0))):=Lib.hid ((turned_other ht9 (Ne.symm hmg)).trans P1.out)
  have B9:Hid (w9.heap[gb]? = some (.cells #[.string o.okey.kind,.string o.okey.space,.string o.okey.name,.slice a1 n1 c1,.slice a2 n2 c2,.slice a3 n3 c3,.bool o.ending,.string U,.int .i64 ((n:Int)+1),.string o.doc] 30 (0,0))):=Lib.hid ((turned_other ht9 (by omega)).trans P2.out)
  have hs5:=Hs5.out
  have Oa:Hid (Only (fun b=>b=mb∨(Value.slice ca cn cq).ownBlock=some b) wc w9):=Lib.hid (P3.out.trans (Only.turned (D:=fun b=>b=mb∨(Value.slice ca cn cq).ownBlock=some b) ht9 (.inl rfl)) fun b hb _=>hb)
  have R9:Hid (w9.heap[gr]? = some (.cells noA 30 (0,0))):=Lib.hid ((Oa.out.block gr (by omega) fun h=>h.elim (fun e=>by omega) fun e=>by have:=(Hchg.out gr e).2.2;omega).trans R5.out)
  have O9:Hid (Only (fun b=>b=g∨b=mb∨(Value.slice ca cn cq).ownBlock=some b) w w9):=Lib.hid ((O5.out.mono (D':=fun b=>b=g∨b=mb∨(Value.slice ca cn cq).ownBlock=some b) fun b hb=>.inl hb).trans Oa.out fun b hb _=>.inr hb)
  have hs9:wc.heap.size≤w9.heap.size:=Oa.out.size
  have Hrow9:Hid (OwnAt (VerX (fun b=>I b∨J b) w) 12 w9 0 163 vn (hits S.log o.okey++[(⟨kind,(n:Int)+1,putO (n+1) kind o⟩:GEvent)])):=Lib.hid (Hrow.out.stay (famVer.flat _ _) fun q hq=>turned_other ht9 fun e=>by
   rcases Hnew.out q hq with h9 | h9
   ·exact (Hchg.out q h9).2.1 e
   ·omega)
  have Hm9:=Lib.hid hm9
  have hlg:∀ b,(Value.slice la ln lc).ownBlock=some b→b≠g∧b≠mb∧(Value.slice ca cn cq).ownBlock≠some b∧b<w.heap.size:=fun b hb=>by
   obtain⟨_,hlt,cur,hc⟩:=HIn.out.log.at hb
   refine⟨fun e=>?_,fun e=>?_,fun e=>?_,hlt⟩
   ·rw [e,HIn.out.box] at hc;cases hc
   ·obtain⟨es,ck,h9⟩:=HIn.out.map.isMap
    rw [e,h9] at hc;cases hc
   ·obtain⟨cur2,hc2⟩:=HchC.out b e
    rw [hc2] at hc;cases hc
  have Hlog9:Hid (OwnAt (EvX (fun b=>I b∨J b) w) 12 w9 0 56 (.slice la ln lc) S.log):=Lib.hid ((HIn.out.log.stay (famEv.flat I w) fun b hb=>O9.out.block b (hlg b hb).2.2.2 fun h=>h.elim (hlg b hb).1 fun h=>h.elim (hlg b hb).2.1 (hlg b hb).2.2.1).imp' fun _ _ _ hx=>famEv.mono _ _ _ _ _ _ (fun b hb=>Or.inl hb) hx)
  have HXE:Hid (EvX (fun b=>I b∨J b) w w (#[.int .i64 kind,.int .i64 ((n:Int)+1),.string o.okey.kind,.string o.okey.space,.string o.okey.name,.slice a1 n1 c1,.slice a2 n2 c2,.slice a3 n3 c3,.bool o.ending,.string U,.int .i64 ((n:Int)+1),.string o.doc]:Array Value).toList (⟨kind,(n:Int)+1,putO (n+1) kind o⟩:GEvent)):=Lib.hid ⟨.slice a1 n1 c1,.slice a2 n2 c2,.slice a3 n3 c3,by
   have e2:U=(putO (n+1) kind o).uid:=HU.out
   rw [e2]
   rfl,(HO.out.mono fun b hb=>Or.inr hb).other rfl rfl rfl⟩
  have Hlg:=Lib.hid hlg
  obtain⟨j0,hj0,hy0,hy1,hy2⟩:=info_parts Tryz.infoEv
  clear hm9 ht9 hen P1 P2 P3 Hrow Oa hlg
  go_upto_region 9 with fail
  refine wp_region_relZ 16 (fun w'=>w'.heap[g]? = some (.cells #[.int .i64 ((n:Int)+1),.int .i64 cp,.map (some mb),.int .i64 l2,.slice la ln lc] 110 (0,0))∧w'.heap[gb]? = some (.cells #[.string o.okey.kind,.string o.okey.space,.string o.okey.name,.slice a1 n1 c1,.slice a2 n2 c2,.slice a3 n3 c3,.bool o.ending,.string U,.int .i64 ((n:Int)+1),.string o.doc] 30 (0,0))∧Only (fun b=>(Value.slice la ln lc).ownBlock=some b) w9 w') (fun j w'=>match j with
   | 13=>OwnAt (EvX (fun b=>I b∨J b) w) 12 w' 0 56 (.slice la ln lc) S.log
   | _=>True) (fun i wa wb=>(i=13→wa.grownBy wb (Value.slice la ln lc).ownBlock)∧(i≠13→Below wa.heap.size wa wb)) (fun j U' w'=>match j with
   | 0=>U' 0=.pointer (some ⟨g,0,none⟩)
   | 1=>U' 1=.pointer (some ⟨g,0,none⟩)
   | 2=>U' 2=.pointer (some ⟨g,0,none⟩)
   | 3=>U' 3=.pointer (some ⟨g,4,none⟩)
   | 4=>U' 4=.slice la ln lc
   | 5=>U' 5=.int .i64 kind
   | 6=>U' 6=.pointer (some ⟨g,0,none⟩)
   | 7=>U' 7=.pointer (some ⟨g,0,none⟩)
   | 8=>U' 8=.pointer (some ⟨g,0,none⟩)
   | 9=>U' 9=.int .i64 ((n:Int)+1)
   | 10=>U' 10=.agg #[.string o.okey.kind,.string o.okey.space,.string o.okey.name,.slice a1 n1 c1,.slice a2 n2 c2,.slice a3 n3 c3,.bool o.ending,.string U,.int .i64 ((n:Int)+1),.string o.doc]
   | 11=>U' 11=.agg #[.int .i64 kind,.int .i64 ((n:Int)+1),.string o.okey.kind,.string o.okey.space,.string o.okey.name,.slice a1 n1 c1,.slice a2 n2 c2,.slice a3 n3 c3,.bool o.ending,.string U,.int .i64 ((n:Int)+1),.string o.doc]
   | 12=>∃ gx,U' 12=.slice (some ⟨gx,0,none⟩) 1 1∧w9.heap.size≤gx∧w'.heap[gx]? = some (.cells #[.int .i64 kind,.int .i64 ((n:Int)+1),.string o.okey.kind,.string o.okey.space,.string o.okey.name,.slice a1 n1 c1,.slice a2 n2 c2,.slice a3 n3 c3,.bool o.ending,.string U,.int .i64 ((n:Int)+1),.string o.doc] 56 (0,0))
   | 13=>OwnAt (EvX (fun b=>I b∨J b) w) 12 w' 0 56 (U' 13) (S.log++[(⟨kind,(n:Int)+1,putO (n+1) kind o⟩:GEvent)])∧NewRow w9 (.slice la ln lc) (U' 13)
   | 14=>U' 14=.pointer (some ⟨g,0,none⟩)
   | 15=>U' 15=.pointer (some ⟨g,4,none⟩)
   | _=>True)
   (fun | 2=>[1] | 3=>[2] | 4=>[3] | 7=>[6] | 8=>[7] | 9=>[8] | 11=>[5,9,10] | 12=>[11] | 13=>[4,12] | 14=>[0] | 15=>[14] | _=>[])
   (by kernel_rfl) (by kernel_rfl) ⟨G9.out,B9.out,(Only.refl _ _).drewO⟩ ?_ ?_ ?_ ?_ ⟨?_,?_,?_,?_,?_,?_,?_,?_,?_,?_,?_,?_,?_,?_,?_,?_,trivial⟩ ?_
  ·intro j
   match j with
   | 13=>exact Hlog9.out.stay (famEv.flat _ _) fun _ _=>rfl
   | 0 | 1 | 2 | 3 | 4 | 5 | 6 | 7 | 8 | 9 | 10 | 11 | 12 | _+14=>trivial
  ·intro i wa wb hk hi
   have hO:Only (fun b=>(Value.slice la ln lc).ownBlock=some b) wa wb:=by
    by_cases i13:i=13
    ·exact Only.grown (hk.1 i13) fun q hq=>hq
    ·exact Only.of (hk.2 i13)
   have hsz:=hi.2.2.size
   exact⟨(hO.block g (by omega) fun e=>(Hlg.out g e).1 rfl).trans hi.1,(hO.block gb (by omega) fun e=>by have:=(Hlg.out gb e).2.2.2;omega).trans hi.2.1,hi.2.2.trans hO fun b hb _=>hb⟩
  ·intro i j wa wb hji hk hi h
   match j,hji,h with
   | 13,hji,h=>exact OwnAt.below (famEv.flat _ _).stays h (hk.2 fun e=>hji e.symm)
   | 0,_,_ | 1,_,_ | 2,_,_ | 3,_,_ | 4,_,_ | 5,_,_ | 6,_,_ | 7,_,_ | 8,_,_ | 9,_,_ | 10,_,_ | 11,_,_ | 12,_,_ | _+14,_,_=>trivial
  ·intro i j U' wa wb hji hk hi h
   match j,hji,h with
   | 12,hji,⟨gx,x1,x2,x3⟩=>
    refine⟨gx,x1,x2,?_⟩
    by_cases i13:i=13
    ·exact ((hk.1 i13).block gx (lt_of_some x3) fun e=>by have:=(Hlg.out gx e.symm).2.2.2;omega).trans x3
    ·exact below_block (hk.2 i13) x3
   | 13,hji,⟨x1,x2⟩=>exact⟨OwnAt.below (famEv.flat _ _).stays x1 (hk.2 fun e=>hji e.symm),x2⟩
   | 0,_,h | 1,_,h | 2,_,h | 3,_,h | 4,_,h | 5,_,h | 6,_,h | 7,_,h | 8,_,h | 9,_,h | 10,_,h | 11,_,h | 14,_,h | 15,_,h=>exact h
   | _+16,_,h=>trivial
  ·intro y w' hb hS hd
   refine owesK_here (.pointer (some ⟨g,0,none⟩)) (by rfl) ?_ rfl ⟨fun h=>absurd h (by decide),fun _=>Below.refl _ _⟩
   clear hb hS hd
   simp only [putAll,List.take_succ_cons,List.take_zero]
   go_simp
  ·intro y w' hb hS hd
   refine owesK_here (.pointer (some ⟨g,0,none⟩)) (by rfl) ?_ rfl ⟨fun h=>absurd h (by decide),fun _=>Below.refl _ _⟩
   clear hb hS hd
   simp only [putAll,List.take_succ_cons,List.take_zero]
   go_simp
  ·intro y w' hb hS hd
   have h1:y 1=.pointer (some ⟨g,0,none⟩):=hd 1 (by simp)
   refine owesK_here (.pointer (some ⟨g,0,none⟩)) (by rfl) ?_ rfl ⟨fun h=>absurd h (by decide),fun _=>Below.refl _ _⟩
   clear hb hS hd
   simp only [putAll,List.take_succ_cons,List.take_zero]
   go_simp
  ·intro y w' hb hS hd
   have h2:y 2=.pointer (some ⟨g,0,none⟩):=hd 2 (by simp)
   refine owesK_here (.pointer (some ⟨g,4,none⟩)) (by rfl) ?_ rfl ⟨fun h=>absurd h (by decide),fun _=>Below.refl _ _⟩
   clear hb hS hd
   simp only [putAll,List.take_succ_cons,List.take_zero]
   go_simp
  ·intro y w' hb hS hd
   have h3:y 3=.pointer (some ⟨g,4,none⟩):=hd 3 (by simp)
   have cc:=cell_block hb.1 4
   refine owesK_here (.slice la ln lc) (by rfl) ?_ rfl ⟨fun h=>absurd h (by decide),fun _=>Below.refl _ _⟩
   clear hb hS hd
   simp only [putAll,List.take_succ_cons,List.take_zero]
   go_simp
  ·intro y w' hb hS hd
   refine owesK_here (.int .i64 kind) (by rfl) ?_ rfl ⟨fun h=>absurd h (by decide),fun _=>Below.refl _ _⟩
   clear hb hS hd
   simp only [putAll,List.take_succ_cons,List.take_zero]
   go_simp
  ·intro y w' hb hS hd
   refine owesK_here (.pointer (some ⟨g,0,none⟩)) (by rfl) ?_ rfl ⟨fun h=>absurd h (by decide),fun _=>Below.refl _ _⟩
   clear hb hS hd
   simp only [putAll,List.take_succ_cons,List.take_zero]
   go_simp
  ·intro y w' hb hS hd
   have h6:y 6=.pointer (some ⟨g,0,none⟩):=hd 6 (by simp)
   refine owesK_here (.pointer (some ⟨g,0,none⟩)) (by rfl) ?_ rfl ⟨fun h=>absurd h (by decide),fun _=>Below.refl _ _⟩
   clear hb hS hd
   simp only [putAll,List.take_succ_cons,List.take_zero]
   go_simp
  ·intro y w' hb hS hd
   have h7:y 7=.pointer (some ⟨g,0,none⟩):=hd 7 (by simp)
   refine owesK_here (.pointer (some ⟨g,0,none⟩)) (by rfl) ?_ rfl ⟨fun h=>absurd h (by decide),fun _=>Below.refl _ _⟩
   clear hb hS hd
   simp only [putAll,List.take_succ_cons,List.take_zero]
   go_simp
  ·intro y w' hb hS hd
   have h8:y 8=.pointer (some ⟨g,0,none⟩):=hd 8 (by simp)
   have cc:=cell_block hb.1 0
   refine owesK_here (.int .i64 ((n:Int)+1)) (by rfl) ?_ rfl ⟨fun h=>absurd h (by decide),fun _=>Below.refl _ _⟩
   clear hb hS hd
   simp only [putAll,List.take_succ_cons,List.take_zero]
   go_simp
  ·intro y w' hb hS hd
   have cc:=fun i=>cell_block hb.2.1 i
   refine owesK_here (.agg #[.string o.okey.kind,.string o.okey.space,.string o.okey.name,.slice a1 n1 c1,.slice a2 n2 c2,.slice a3 n3 c3,.bool o.ending,.string U,.int .i64 ((n:Int)+1),.string o.doc]) (by rfl) ?_ rfl ⟨fun h=>absurd h (by decide),fun _=>Below.refl _ _⟩
   clear hb hS hd
   simp only [putAll,List.take_succ_cons,List.take_zero]
   go_simp
  ·intro y w' hb hS hd
   have h5:y 5=.int .i64 kind:=hd 5 (by simp)
   have h9:y 9=.int .i64 ((n:Int)+1):=hd 9 (by simp)
   have h10:y 10=.agg #[.string o.okey.kind,.string o.okey.space,.string o.okey.name,.slice a1 n1 c1,.slice a2 n2 c2,.slice a3 n3 c3,.bool o.ending,.string U,.int .i64 ((n:Int)+1),.string o.doc]:=hd 10 (by simp)
   refine owesK_here (.agg #[.int .i64 kind,.int .i64 ((n:Int)+1),.string o.okey.kind,.string o.okey.space,.string o.okey.name,.slice a1 n1 c1,.slice a2 n2 c2,.slice a3 n3 c3,.bool o.ending,.string U,.int .i64 ((n:Int)+1),.string o.doc]) (by rfl) ?_ rfl ⟨fun h=>absurd h (by decide),fun _=>Below.refl _ _⟩
   clear hb hS hd
   simp only [putAll,List.take_succ_cons,List.take_zero]
   go_simp
  ·intro y w' hb hS hd
   have h11:y 11=.agg #[.int .i64 kind,.int .i64 ((n:Int)+1),.string o.okey.kind,.string o.okey.space,.string o.okey.name,.slice a1 n1 c1,.slice a2 n2 c2,.slice a3 n3 c3,.bool o.ending,.string U,.int .i64 ((n:Int)+1),.string o.doc]:=hd 11 (by simp)
   have hsz:=hb.2.2.size
   refine owesK_makes (w':=w'.alloc (.cells #[.int .i64 kind,.int .i64 ((n:Int)+1),.string o.okey.kind,.string o.okey.space,.string o.okey.name,.slice a1 n1 c1,.slice a2 n2 c2,.slice a3 n3 c3,.bool o.ending,.string U,.int .i64 ((n:Int)+1),.string o.doc] 56)) (.slice (some ⟨w'.heap.size,0,none⟩) 1 1) (by rfl) ?_ ⟨_,rfl,by omega,heap_alloc_new w' _⟩ ⟨fun h=>absurd h (by decide),fun _=>(Below.refl _ w').alloc (Nat.le_refl _) _⟩
   clear hb hS hd
   simp only [putAll,List.take_succ_cons,List.take_zero]
   rw [h11]
   go_simp
  ·intro y w' hb hS hd
   have h4:y 4=.slice la ln lc:=hd 4 (by simp)
   obtain⟨gx,h12,hgx,hxc⟩:∃ gx,y 12=.slice (some ⟨gx,0,none⟩) 1 1∧w9.heap.size≤gx∧w'.heap[gx]? = some (.cells #[.int .i64 kind,.int .i64 ((n:Int)+1),.string o.okey.kind,.string o.okey.space,.string o.okey.name,.slice a1 n1 c1,.slice a2 n2 c2,.slice a3 n3 c3,.bool o.ending,.string U,.int .i64 ((n:Int)+1),.string o.doc] 56 (0,0)):=hd 12 (by simp)
   have hro:OwnAt (EvX (fun b=>I b∨J b) w) 12 w' 0 56 (.slice la ln lc) S.log:=hS
   obtain⟨v',w3,hrun,q1,q2,q3,q4⟩:=run_append_ownAt (P:=Tryz.prog) w' 51 51 j0 _ 184 Tryz.underlying51 hj0 hy0 hy1 hy2 rfl (by omega) (famEv.flat _ _) (famEv.one _ _) (.slice la ln lc) hro (y 12) (by rw [h12];exact RowAt.one (R:=EvX (fun b=>I b∨J b) w) (k:=12) hxc rfl HXE.out) (by rw [List.length_singleton,Hln.out];unfold maxLen;omega) (by rw [List.length_singleton,Hln.out];omega) (Nat.zero_le _)
   have hwcs:=hb.2.2.size
   have q5:NewRow w9 (.slice la ln lc) v':=fun q hq=>by
    rcases q4 with e | e
    ·exact .inl (by rw [←e];exact hq)
    ·rw [e] at hq
     cases hq
     exact .inr hwcs
   refine owesK_makes (w':=w3) v' (by rfl) ?_ ⟨q1,q5⟩ ⟨fun _=>q2,fun h=>absurd rfl h⟩
   rw [←h4] at hrun
   clear hb hS hd
   simp only [putAll,List.take_succ_cons,List.take_zero]
   try simp only [Act.put,List.setIfInBounds_toArray,List.set_cons_zero,List.set_cons_succ]
   exact exec_app (by rfl) (by rfl) (by rfl) hrun
  ·intro y w' hb hS hd
   have h0:y 0=.pointer (some ⟨g,0,none⟩):=hd 0 (by simp)
   refine owesK_here (.pointer (some ⟨g,0,none⟩)) (by rfl) ?_ rfl ⟨fun h=>absurd h (by decide),fun _=>Below.refl _ _⟩
   clear hb hS hd
   simp only [putAll,List.take_succ_cons,List.take_zero]
   go_simp
  ·intro y w' hb hS hd
   have h14:y 14=.pointer (some ⟨g,0,none⟩):=hd 14 (by simp)
   refine owesK_here (.pointer (some ⟨g,4,none⟩)) (by rfl) ?_ rfl ⟨fun h=>absurd h (by decide),fun _=>Below.refl _ _⟩
   clear hb hS hd
   simp only [putAll,List.take_succ_cons,List.take_zero]
   go_simp
  ·intro y w' hb hR
   have h15:y 15=.pointer (some ⟨g,4,none⟩):=hR 15 (by omega)
   obtain⟨hrow,hnew⟩:OwnAt (EvX (fun b=>I b∨J b) w) 12 w' 0 56 (y 13) (S.log++[(⟨kind,(n:Int)+1,putO (n+1) kind o⟩:GEvent)])∧NewRow w9 (.slice la ln lc) (y 13):=hR 13 (by omega)
   obtain⟨pa,pc,hp,-,-⟩:=hrow.row.len
   obtain⟨pn,hpn⟩:∃ pn,(S.log++[(⟨kind,(n:Int)+1,putO (n+1) kind o⟩:GEvent)]).length=pn:=⟨_,rfl⟩
   rw [hpn] at hp
   rw [hp] at hrow hnew
   have hy13:=hp
   obtain⟨b1,b2,b3⟩:=hb
   have t1:=touch_setCell (i:=4) (v:=.slice pa pn pc) b1
   have fg:=fun i=>free_block b1 i
   have cg:=fun i=>cell_block b1 i
   have hs9':=b3.size
   obtain⟨w10,hw10⟩:∃ w10,w'.setCell ⟨g,4,none⟩ (.slice pa pn pc)=w10:=⟨_,rfl⟩
   rw [hw10] at t1
   have G10:Hid (w10.heap[g]? = some (.cells #[.int .i64 ((n:Int)+1),.int .i64 cp,.map (some mb),.int .i64 l2,.slice pa pn pc] 110 (0,0))):=Lib.hid t1.1
   have B10:=Lib.hid (t1.2.block b2 (Ne.symm hne1))
   have O10:Hid (Only (fun b=>b=g∨(Value.slice la ln lc).ownBlock=some b) w9 w10):=Lib.hid ((b3.mono (D':=fun b=>b=g∨(Value.slice la ln lc).ownBlock=some b) fun b hb=>.inr hb).trans (Only.touch (D:=fun b=>b=g∨(Value.slice la ln lc).ownBlock=some b) t1.2 (.inl rfl)) fun b hb _=>hb)
   have Hlog10:Hid (OwnAt (EvX (fun b=>I b∨J b) w) 12 w10 0 56 (.slice pa pn pc) (S.log++[(⟨kind,(n:Int)+1,putO (n+1) kind o⟩:GEvent)])):=Lib.hid (hrow.stay (famEv.flat _ _) fun q hq=>t1.2.other q fun e=>by
    obtain⟨_,_,cur,hc⟩:=hrow.at hq
    rw [e,b1] at hc;cases hc)
   have Hnew10:=Lib.hid hnew
   have hs10:w9.heap.size≤w10.heap.size:=O10.out.size
   have R10:Hid (w10.heap[gr]? = some (.cells noA 30 (0,0))):=Lib.hid ((O10.out.block gr (by omega) fun h=>h.elim (fun e=>hne2 e.symm) fun e=>by have:=(Hlg.out gr e).2.2.2;omega).trans R9.out)
   clear hR hrow hnew b1 b2 b3 t1 hp hpn
   simp only [putAll,List.take_succ_cons,List.take_zero,List.drop_succ_cons,List.drop_zero]
   rw [h15]
   clear h15
   try simp only [Act.put,List.setIfInBounds_toArray,List.set_cons_zero,List.set_cons_succ]
   go_upto_region 10 with fail
   try rw [hw10]
   clear hw10 fg cg
   have hag:Agree J w w10:=fun b hb=>((O10.out.block b (by have:=(HJ.out b hb).1;have:=O9.out.size;omega) fun h=>h.elim (fun e=>(HJ.out b hb).2 (e▸HIn.out.gM)) fun e=>(HJ.out b hb).2 (HIn.out.logM b e))).trans (O9.out.block b (HJ.out b hb).1 fun h=>h.elim (fun e=>(HJ.out b hb).2 (e▸HIn.out.gM)) fun h=>h.elim (fun e=>(HJ.out b hb).2 (e▸HIn.out.mbM)) fun e=>(HJ.out b hb).2 (HchM.out b e))
   have hobj:=HO.out.agree hag
   have HCp:Hid (Calls Tryz.prog 65 #[.agg #[.string o.okey.kind,.string o.okey.space,.string o.okey.name,.slice a1 n1 c1,.slice a2 n2 c2,.slice a3 n3 c3,.bool o.ending,.string U,.int .i64 ((n:Int)+1),.string o.doc]] w10 fun E w'=>∃ vl' vo' vh',E=.returned (objV o.okey vl' vo' vh' o.ending U ((n:Int)+1) o.doc)∧
     OwnAt LabelR 2 w' w10.heap.size 66 vl' o.labels∧OwnAt RString 1 w' w10.heap.size 9 vo' o.owners∧OwnAt RString 1 w' w10.heap.size 9 vh' o.holds∧(∀ g,vh'.ownBlock=some g→vo'.ownBlock≠some g)∧Below w10.heap.size w10 w'):=
    Lib.hid (storeCopy_any o.okey (.slice a1 n1 c1) (.slice a2 n2 c2) (.slice a3 n3 c3) o.ending U ((n:Int)+1) o.doc o.labels o.owners o.holds w10 hobj.rowL hobj.rowO hobj.rowH (by have:=Hok.out.labels.1;omega) (by have:=Hok.out.owners.1;omega) (by have:=Hok.out.holds.1;omega))
   have cb:=fun i=>cell_block B10.out i
   clear hag hobj
   go_wp2_with fail
   refine HCp.out.mono ?_
   rintro E w11 ⟨u1,u2,u3,rfl,k1,k2,k3,-,hb11⟩
   obtain⟨d1,e1,rfl,-,-⟩:=k1.row.len
   obtain⟨d2,e2,rfl,-,-⟩:=k2.row.len
   obtain⟨d3,e3,rfl,-,-⟩:=k3.row.len
   have K1:=Lib.hid k1
   have K2:=Lib.hid k2
   have K3:=Lib.hid k3
   rw [Hn1.out] at K1
   rw [Hn2.out] at K2
   rw [Hn3.out] at K3
   rw [Hn1.out,Hn2.out,Hn3.out]
   have G11:=Lib.hid (below_block hb11 G10.out)
   have R11:=Lib.hid (below_block hb11 R10.out)
   have B11:=Lib.hid hb11
   have hs11:=hb11.size
   clear k1 k2 k3 hb11 cb HCp
   unfold objV
   go_wp2_with (refine wpList_store_box (by rfl) _ _ _ (by rfl) gr #[.string o.okey.kind,.string o.okey.space,.string o.okey.name,.slice d1 n1 e1,.slice d2 n2 e2,.slice d3 n3 e3,.bool o.ending,.string U,.int .i64 ((n:Int)+1),.string o.doc] (by rfl) (by rfl) _ _ (by exact R11.out) (by exact Tryz.sizeObj) (by rfl) (by simp [Value.oneCell']) ?_)
   intro w12 b12 t12
   have B12:=Lib.hid b12
   have T12:=Lib.hid t12
   clear b12 t12
   go_wp2_with fail
   have eU:U=(putO (n+1) kind o).uid:=HU.out
   refine bodyPost_ret (v:=.agg #[.string o.okey.kind,.string o.okey.space,.string o.okey.name,.slice d1 n1 e1,.slice d2 n2 e2,.slice d3 n3 e3,.bool o.ending,.string U,.int .i64 ((n:Int)+1),.string o.doc]) ?_ rfl ?_
   ·exact results_one_box Tryz.results51 _ _ gr _ _ _ _ (by rfl) B12.out Tryz.underlying30 rfl (by exact Tryz.sizeObj)
   ·have hs12:w12.heap.size=w11.heap.size:=T12.out.size
    have s9:=O9.out.size
    have hev:(⟨kind,(S.rev:Int)+1,putO (S.rev+1) kind o⟩:GEvent)=⟨kind,(n:Int)+1,putO (n+1) kind o⟩:=by rw [Hn.out]
    have hvc:((f o.okey).getD nilS)=.slice ca cn cq:=Hvch.out
    have Ot:Only (PutD f o.okey g mb (.slice la ln lc)) w w12:=by
     have x1:=O9.out.mono (D':=PutD f o.okey g mb (.slice la ln lc)) fun b hb=>hb.elim .inl fun hb=>hb.elim (fun e=>.inr (.inl e)) fun e=>.inr (.inr (.inl (by rw [hvc];exact e)))
     have x2:=x1.trans O10.out fun b hb _=>hb.elim .inl fun e=>.inr (.inr (.inr e))
     exact (x2.then B11.out).trans (Only.touch (D:=fun b=>b=gr) T12.out rfl) fun b hb hl=>by omega
    have stay:∀ q,q<w9.heap.size→q≠g→(Value.slice la ln lc).ownBlock≠some q→q≠gr→w12.heap[q]? = w9.heap[q]?:=fun q h1 h2 h3 h4=>
     (T12.out.other q h4).trans ((B11.out.block q (by omega)).trans (O10.out.block q h1 fun h=>h.elim h2 h3))
    have hrowE:OwnAt (VerX (fun b=>I b∨J b) w) 12 w12 0 163 vn (hits S.log o.okey++[(⟨kind,(S.rev:Int)+1,putO (S.rev+1) kind o⟩:GEvent)]):=by
     rw [hev]
     refine Hrow9.out.stay (famVer.flat _ _) fun q hq=>?_
     obtain⟨_,hlt,cur,hc⟩:=Hrow9.out.at hq
     refine stay q hlt (fun e=>?_) (fun e=>?_) fun e=>?_
     ·rw [e,G9.out] at hc;cases hc
     ·obtain⟨_,_,cur2,hc2⟩:=Hlog9.out.at e
      rw [hc] at hc2;cases hc2
     ·rw [e,R9.out] at hc;cases hc
    have hlogE:OwnAt (EvX (fun b=>I b∨J b) w) 12 w12 0 56 (.slice pa pn pc) (S.log++[(⟨kind,(S.rev:Int)+1,putO (S.rev+1) kind o⟩:GEvent)]):=by
     rw [hev]
     refine Hlog10.out.stay (famEv.flat _ _) fun q hq=>?_
     obtain⟨_,hlt,cur,hc⟩:=Hlog10.out.at hq
     exact (T12.out.other q fun e=>by rw [e,R10.out] at hc;cases hc).trans (B11.out.block q hlt)
    have hmapE:MapK keyC w12 mb (nn+1) (updK f o.okey vn):=Hm9.out.block (stay mb Hm9.out.lt hmg (fun e=>(Hlg.out mb e).2.1 rfl) (by omega))
    have hlive:live (put S kind o).log=l2:=by
     have h1:=Hl1.out
     have h2:=Hl2.out
     rw [show (put S kind o).log=S.log++[(⟨kind,(S.rev:Int)+1,putO (S.rev+1) kind o⟩:GEvent)] from rfl,live_snoc,Hlv.out]
     dsimp only
     rcases hkd with rfl | rfl | rfl
     ·rw [if_pos rfl] at h1 ⊢
      rw [if_neg (by decide)] at h2
      omega
     ·rw [if_neg (by decide)] at h1 h2 ⊢
      rw [if_neg (by decide)]
      omega
     ·rw [if_neg (by decide)] at h1 ⊢
      rw [if_pos rfl] at h2 ⊢
      omega
    have hrev:(((put S kind o).rev:Nat):Int)=(n:Int)+1:=by
     rw [show (put S kind o).rev=S.rev+1 from by unfold put St.rev;dsimp only;rw [List.length_append];rfl,Hn.out];omega
    have hboxE:w12.heap[g]? = some (.cells #[.int .i64 (put S kind o).rev,.int .i64 S.comp,.map (some mb),.int .i64 (live (put S kind o).log),.slice pa pn pc] 110 (0,0)):=by
     rw [hrev,hlive,Hcp.out]
     exact T12.out.block G11.out hne2
    have hend:=put_end HIn.out HJ.out Ot hboxE hmapE hrowE (fun q hq=>(Hnew.out q hq).imp (fun e=>by rw [hvc];exact e) fun e=>by omega) hlogE (fun q hq=>(Hnew10.out q hq).imp id fun e=>by omega)
    refine⟨fun b=>w10.heap.size≤b∧b<w12.heap.size,_,_,_,_,_,_,_,by rw [Hn.out,eU];rfl,?_,fun b hb=>⟨by have:=hb.1;omega,hb.2⟩,hend,fun b hb=>?_,Ot.mono fun b hb=>HIn.out.putM hb⟩
    ·rw [Hn.out]
     have t1:∀ b,w10.heap.size≤b→b<w11.heap.size→b≠gr:=fun b h1 _ e=>by omega
     refine⟨⟨(K1.out.stay flat_label fun b hb=>T12.out.other b (t1 b (K1.out.at hb).1 (K1.out.at hb).2.1)).mono (Nat.zero_le _),fun b hb=>⟨(K1.out.at hb).1,by have:=(K1.out.at hb).2.1;omega⟩⟩,⟨(K2.out.stay flat_string fun b hb=>T12.out.other b (t1 b (K2.out.at hb).1 (K2.out.at hb).2.1)).mono (Nat.zero_le _),fun b hb=>⟨(K2.out.at hb).1,by have:=(K2.out.at hb).2.1;omega⟩⟩,⟨(K3.out.stay flat_string fun b hb=>T12.out.other b (t1 b (K3.out.at hb).1 (K3.out.at hb).2.1)).mono (Nat.zero_le _),fun b hb=>⟨(K3.out.at hb).1,by have:=(K3.out.at hb).2.1;omega⟩⟩⟩
    ·rcases hb with hb | hb | hb
     ·exact .inl hb
     ·rcases Hnew.out b hb with e | e
      ·exact .inl (HchM.out b e)
      ·exact .inr ⟨by omega,fun h9=>by have:=(Hrow9.out.at hb).2.1;have:=h9.1;omega⟩
     ·rcases Hnew10.out b hb with e | e
      ·exact .inl (HIn.out.logM b e)
      ·exact .inr ⟨by omega,fun h9=>by have:=(Hlog10.out.at hb).2.1;have:=h9.1;omega⟩
end Sto
end Go.Proofs.YtnnceaapodgfbaaGreatDoor
namespace Go.Proofs.YtnnceaapodgfbaaGreatDoor
open Go.RowKit
theorem cb_self:∀ a:List UInt8,Lib.compareBytes a a=0
 | []=>rfl
 | x :: r=>by unfold Lib.compareBytes;simp [cb_self r,UInt8.lt_irrefl]
theorem cb_trans:∀ a b c:List UInt8,Lib.compareBytes a b<0→Lib.compareBytes b c<0→Lib.compareBytes a c<0
 | _,[],[],_,h2=>by simp [Lib.compareBytes] at h2
 | [],[],_ :: _,_,_=>by simp [Lib.compareBytes]
 | _ :: _,[],_ :: _,h1,_=>by simp [Lib.compareBytes] at h1
 | _,_ :: _,[],_,h2=>by simp [Lib.compareBytes] at h2
 | [],_ :: _,_ :: _,_,_=>by simp [Lib.compareBytes]
 | x :: xs,y :: ys,z :: zs,h1,h2=>by
  have ih:=cb_trans xs ys zs
  simp only [Lib.compareBytes,UInt8.lt_iff_toNat_lt] at h1 h2 ⊢
  by_cases p1:x.toNat<y.toNat<;>by_cases p2:y.toNat<x.toNat<;>by_cases p3:y.toNat<z.toNat<;>by_cases p4:z.toNat<y.toNat<;>by_cases p5:x.toNat<z.toNat<;>by_cases p6:z.toNat<x.toNat<;>first
   | (exfalso;omega)
   | (simp only [p1,p2,p3,p4,p5,p6,if_true,if_false] at h1 h2 ⊢;first | exact ih h1 h2 | omega)
theorem cb_ntrans:∀ a b c:List UInt8,¬Lib.compareBytes a b<0→¬Lib.compareBytes b c<0→¬Lib.compareBytes a c<0
 | [],[],[],_,_=>by simp [Lib.compareBytes]
 | _ :: _,[],[],_,_=>by simp [Lib.compareBytes]
 | _,[],_ :: _,_,h2=>by simp [Lib.compareBytes] at h2
 | [],_ :: _,_,h1,_=>by simp [Lib.compareBytes] at h1
 | _ :: _,_ :: _,[],_,_=>by simp [Lib.compareBytes]
 | x :: xs,y :: ys,z :: zs,h1,h2=>by
  have ih:=cb_ntrans xs ys zs
  simp only [Lib.compareBytes,UInt8.lt_iff_toNat_lt] at h1 h2 ⊢
  by_cases p1:x.toNat<y.toNat<;>by_cases p2:y.toNat<x.toNat<;>by_cases p3:y.toNat<z.toNat<;>by_cases p4:z.toNat<y.toNat<;>by_cases p5:x.toNat<z.toNat<;>by_cases p6:z.toNat<x.toNat<;>first
   | (exfalso;omega)
   | (simp only [p1,p2,p3,p4,p5,p6,if_true,if_false] at h1 h2 ⊢;first | exact ih h1 h2 | omega)
theorem cb_eq:∀ a b:List UInt8,Lib.compareBytes a b=0→a=b
 | [],[],_=>rfl
 | [],_ :: _,h=>by simp [Lib.compareBytes] at h
 | _ :: _,[],h=>by simp [Lib.compareBytes] at h
 | x :: xs,y :: ys,h=>by
  simp only [Lib.compareBytes,UInt8.lt_iff_toNat_lt] at h
  by_cases p1:x.toNat<y.toNat
  ·rw [if_pos p1] at h;cases h
  ·by_cases p2:y.toNat<x.toNat
   ·rw [if_neg p1,if_pos p2] at h;cases h
   ·rw [if_neg p1,if_neg p2] at h
    have:x=y:=UInt8.toNat_inj.1 (by omega)
    rw [this,cb_eq xs ys h]
theorem cb_swap:∀ a b:List UInt8,Lib.compareBytes b a = - Lib.compareBytes a b
 | [],[]=>rfl
 | [],_ :: _=>by simp [Lib.compareBytes]
 | _ :: _,[]=>by simp [Lib.compareBytes]
 | x :: xs,y :: ys=>by
  simp only [Lib.compareBytes,UInt8.lt_iff_toNat_lt]
  by_cases p1:x.toNat<y.toNat<;>by_cases p2:y.toNat<x.toNat<;>first
   | (exfalso;omega)
   | (simp only [p1,p2,if_true,if_false]<;>first | exact cb_swap xs ys | omega)
theorem cb_range:∀ a b:List UInt8,Lib.compareBytes a b = -1∨Lib.compareBytes a b=0∨Lib.compareBytes a b=1
 | [],[]=>.inr (.inl rfl)
 | [],_ :: _=>.inl rfl
 | _ :: _,[]=>.inr (.inr rfl)
 | x :: xs,y :: ys=>by
  simp only [Lib.compareBytes]
  by_cases p1:x<y
  ·rw [if_pos p1];exact .inl rfl
  ·rw [if_neg p1]
   by_cases p2:y<x
   ·rw [if_pos p2];exact .inr (.inr rfl)
   ·rw [if_neg p2];exact cb_range xs ys
end Go.Proofs.YtnnceaapodgfbaaGreatDoor
namespace Go.Proofs.YtnnceaapodgfbaaGreatDoor
namespace Sto
open Go.RowKit
open JP (Bs)
inductive Fit:List GEvent→Prop
 | nil:Fit []
 | snoc {l:List GEvent} {e:GEvent}:Fit l→Step l e→Fit (l++[e])
theorem Good.fit {S:St} (h:Good S):∀ n,n≤S.log.length→Fit (S.log.take n)
 | 0,_=>by rw [List.take_zero];exact .nil
 | n+1,hn=>by
  have he:S.log[n]? = some S.log[n]:=List.getElem?_eq_getElem (by omega)
  rw [take_snoc he]
  exact .snoc (h.fit n (by omega)) (h.step n _ he)
theorem Good.fitAll {S:St} (h:Good S):Fit S.log:=by have:=h.fit S.log.length (Nat.le_refl _);rwa [List.take_length] at this
theorem live_keys {l:List GEvent} (h:Fit l):∀ ks:List GKey,ks.Nodup→(∀ k∈ks,(cur l k).isSome=true)→(ks.length:Int)≤live l:=by
 induction h with
 | nil=>
  intro ks _ hk
  cases ks with
  | nil=>exact Int.le_refl _
  | cons k r=>have:=hk k (List.mem_cons_self ..);rw [cur_nil] at this;cases this
 | @snoc l e hl hs ih=>
  intro ks hn hk
  rw [live_snoc]
  obtain⟨_,_,hs⟩:=hs
  rcases hs with ⟨h1,h2,_⟩ | ⟨h1,o,h2,_⟩
  ·rw [if_pos h1]
   have h3:=ih (ks.filter fun k=>decide (k≠e.object.okey)) (hn.filter _) fun k hkm=>by
    obtain⟨h4,h5⟩:=List.mem_filter.1 hkm
    have:=hk k h4
    rw [cur_snoc,if_neg (fun e=>of_decide_eq_true h5 e.symm)] at this
    exact this
   have h4:ks.length≤(ks.filter fun k=>decide (k≠e.object.okey)).length+1:=by
    clear hk h3
    induction ks with
    | nil=>simp
    | cons a r ih2=>
     rw [List.nodup_cons] at hn
     by_cases ha:a=e.object.okey
     ·rw [List.filter_cons_of_neg (by simp [ha])]
      rw [List.filter_eq_self.2 fun b hb=>by
       rw [decide_eq_true_iff]
       exact fun e2=>hn.1 (by rw [ha,←e2];exact hb)]
      simp
     ·rw [List.filter_cons_of_pos (by simp [ha]),List.length_cons,List.length_cons]
      have:=ih2 hn.2
      omega
   omega
  ·have h9:¬e.kind=1:=by omega
   rw [if_neg h9]
   rcases h1 with h1 | h1
   ·rw [if_neg (by omega)]
    have:=ih ks hn fun k hkm=>by
     have:=hk k hkm
     rw [cur_snoc] at this
     by_cases he:e.object.okey=k
     ·rw [←he,h2];rfl
     ·rw [if_neg he] at this;exact this
    omega
   ·rw [if_pos h1]
    have hnot:e.object.okey∉ks:=fun hm=>by
     have:=hk _ hm
     rw [cur_snoc,if_pos rfl] at this
     unfold shown at this
     rw [if_pos h1] at this;cases this
    have:=ih (e.object.okey :: ks) (List.nodup_cons.2 ⟨hnot,hn⟩) fun k hkm=>by
     rcases List.mem_cons.1 hkm with rfl | hkm
     ·rw [h2];rfl
     ·have:=hk k hkm
      rw [cur_snoc,if_neg (fun e2=>hnot (by rw [e2];exact hkm))] at this
      exact this
    rw [List.length_cons] at this
    omega
theorem lessS_irrefl (a:ByteArray):¬lessS a a:=by unfold lessS;rw [cb_self _];decide
theorem lessS_trans {a b c:ByteArray} (h1:lessS a b) (h2:lessS b c):lessS a c:=cb_trans _ _ _ h1 h2
theorem ahead_irrefl (a:GObject):¬ahead a a:=fun h=>by
 rcases h with h | ⟨_,h⟩
 ·exact lessS_irrefl _ h
 ·exact lessS_irrefl _ h
theorem ahead_trans {a b c:GObject} (h1:ahead a b) (h2:ahead b c):ahead a c:=by
 unfold ahead at *
 rcases h1 with h1 | ⟨e1,h1⟩
 ·rcases h2 with h2 | ⟨e2,_⟩
  ·exact .inl (lessS_trans h1 h2)
  ·exact .inl (by rw [←e2];exact h1)
 ·rcases h2 with h2 | ⟨e2,h2⟩
  ·exact .inl (by rw [e1];exact h2)
  ·exact .inr ⟨e1.trans e2,lessS_trans h1 h2⟩
theorem ahead_asymm {a b:GObject} (h1:ahead a b):¬ahead b a:=fun h2=>ahead_irrefl a (ahead_trans h1 h2)
theorem rising_one:∀ {a b:List GObject},a.Pairwise ahead→b.Pairwise ahead→(∀ x,x∈a↔x∈b)→a=b
 | [],[],_,_,_=>rfl
 | [],y :: r,_,_,h=>by have:=(h y).2 (List.mem_cons_self ..);cases this
 | x :: r,[],_,_,h=>by have:=(h x).1 (List.mem_cons_self ..);cases this
 | x :: r,y :: s,ha,hb,h=>by
  rw [List.pairwise_cons] at ha hb
  have hxy:x=y:=by
   rcases List.mem_cons.1 ((h x).1 (List.mem_cons_self ..)) with e | h1
   ·exact e
   ·rcases List.mem_cons.1 ((h y).2 (List.mem_cons_self ..)) with e | h2
    ·exact e.symm
    ·exact absurd (ha.1 y h2) (ahead_asymm (hb.1 x h1))
  subst hxy
  congr 1
  refine rising_one ha.2 hb.2 fun z=>⟨fun hz=>?_,fun hz=>?_⟩
  ·rcases List.mem_cons.1 ((h z).1 (List.mem_cons_of_mem _ hz)) with e | h1
   ·subst e;exact absurd (ha.1 z hz) (ahead_irrefl z)
   ·exact h1
  ·rcases List.mem_cons.1 ((h z).2 (List.mem_cons_of_mem _ hz)) with e | h1
   ·subst e;exact absurd (hb.1 z hz) (ahead_irrefl z)
   ·exact h1
theorem isList_one {l:List GEvent} {kind space:ByteArray} {a b:List GObject} (ha:IsList l kind space a) (hb:IsList l kind space b):a=b:=
 rising_one ha.1 hb.1 fun x=>(ha.2 x).trans (hb.2 x).symm
end Sto
end Go.Proofs.YtnnceaapodgfbaaGreatDoor
