/- Texts of ours joined. -/
import Derived.Lib.AppendIntMem
import Derived.Below
import Derived.Deep.LoopGhost
import Derived.Deep.DeepCutAuto
import Derived.DeepKeys4
import Derived.WalkSpells
import Derived.Deep.MidRow
import Derived.BigQuiet
import Derived.Test.YtnnceaapodgfbaaGreatDoorAz5
set_option linter.unusedVariables false
set_option linter.unusedSimpArgs false
namespace Go.Proofs.YtnnceaapodgfbaaGreatDoor
open Go.RowKit
open JP (JV Bs)
theorem joinStrs_any {w:World} {v:Value} {l:List ByteArray} (h:RowAt RString 1 w v l) (hl:l.length≤1073741824) (hj:(Lib.join (l.map (·.data.toList)) [44]).length≤1073741824) :
  Calls Tryz.prog 101 #[v,.string ⟨#[44]⟩] w fun e w'=>e=.returned (.string (mkB (Lib.join (l.map (·.data.toList)) [44])))∧Below w.heap.size w w':=by
 by_cases h0:0<l.length
 ·obtain⟨b,o,c,rfl,hc,_,hbs,hcell⟩:=h.form h0 (by omega)
  refine Tryz.strings_Join b o c l ⟨#[44]⟩ w (fun j x hx=>?_) hbs (by omega) hc ?_
  ·obtain⟨cs,_,h2,h3⟩:=hcell j x hx
   rw [h3] at h2
   have:=h2 0 _ rfl
   simpa using this
  ·show (Lib.join (l.map (·.data.toList)) [44]).length≤_;omega
 ·have hn:l = []:=List.eq_nil_of_length_eq_zero (by omega)
  subst hn
  obtain⟨a,c,rfl,_,_⟩:=h.len
  refine (Tryz.strings_Join_none a c ⟨#[44]⟩ w).mono ?_
  rintro e w' ⟨rfl,rfl⟩
  exact⟨rfl,Below.refl _ _⟩
theorem textL_map (l:List JV):JP.textL l=l.map JP.text:=by
 induction l with
 | nil=>rfl
 | cons v r ih=>rw [JP.textL,ih];rfl
theorem textF_map (l:List (Bs × JV)):JP.textF l=l.map fun x=>JP.quote x.1++58 :: JP.text x.2:=by
 induction l with
 | nil=>rfl
 | cons x r ih=>obtain⟨n,v⟩:=x;rw [JP.textF,ih];rfl
theorem mk_map {α:Type} (f:α→Bs) (l:List α):(l.map fun x=>mkB (f x)).map (·.data.toList)=l.map f:=by
 rw [List.map_map]
 exact List.map_congr_left fun x _=>mkB_list (f x)
theorem lenL_mem {l:List JV} {x:JV} (h:x∈l):(JP.text x).length+1≤JP.lenL l:=by
 induction l with
 | nil=>cases h
 | cons v r ih=>
  rw [JP.lenL]
  rcases List.mem_cons.1 h with rfl | h
  ·omega
  ·have:=ih h;omega
theorem lenL_len (l:List JV):l.length≤JP.lenL l:=by
 induction l with
 | nil=>simp
 | cons v r ih=>rw [JP.lenL,List.length_cons];omega
theorem lenF_mem {l:List (Bs × JV)} {x:Bs × JV} (h:x∈l):(JP.quote x.1).length+(JP.text x.2).length+2≤JP.lenF l:=by
 induction l with
 | nil=>cases h
 | cons v r ih=>
  obtain⟨n,v⟩:=v
  rw [JP.lenF]
  rcases List.mem_cons.1 h with rfl | h
  ·dsimp only;omega
  ·have:=ih h;omega
theorem lenF_len (l:List (Bs × JV)):l.length≤JP.lenF l:=by
 induction l with
 | nil=>simp
 | cons v r ih=>obtain⟨n,v⟩:=v;rw [JP.lenF,List.length_cons];omega
theorem lenL_text (l:List JV):JP.lenL l≤(JP.text (.list l)).length:=by
 rcases JP.join_len l with h | rfl
 ·rw [JP.text];simp only [List.length_cons,List.length_append,List.length_nil];omega
 ·simp [JP.lenL]
theorem lenF_text (l:List (Bs × JV)):JP.lenF l≤(JP.text (.obj l)).length:=by
 rcases JP.join_lenF l with h | rfl
 ·rw [JP.text];simp only [List.length_cons,List.length_append,List.length_nil];omega
 ·simp [JP.lenF]
theorem quote_size (s : Bs) : s.length ≤ (JP.quote s).length := by
  rw [JP.quote_len]
  have : s.length ≤ (s.flatMap JP.escB).length := by
    induction s with
    | nil => simp
    | cons c r ih =>
      rw [List.flatMap_cons, List.length_append, List.length_cons]
      have : 1 ≤ (JP.escB c).length := by unfold JP.escB; split; · simp
                                          · split; · simp
                                            · split <;> simp
      omega
  omega
theorem ret_mk {a b:Bs} (h:a=b):Ending.returned (.string (mkB a))=.returned (.string (mkB b)):=by rw [h]
theorem wrap_mk (a z:UInt8) (j:Bs):(⟨#[a]⟩++mkB j++⟨#[z]⟩:ByteArray)=mkB (a :: (j++[z])):=by
 rw [←mkB_of (⟨#[a]⟩++mkB j++⟨#[z]⟩:ByteArray),mkB_inj]
 simp [mkB]
theorem colon_mk (a b:Bs):(mkB a++⟨#[58]⟩++mkB b:ByteArray)=mkB (a++58 :: b):=by
 rw [←mkB_of (mkB a++⟨#[58]⟩++mkB b:ByteArray),mkB_inj]
 simp [mkB]
theorem below_drew1 (w:World):Below w.heap.size w w.drew:=⟨rfl,rfl,rfl,Nat.le_refl _,fun _ _=>rfl⟩
theorem formatBool_text (b:Bool):Lib.formatBool b=JP.text (.bool b):=by cases b<;>rfl
set_option maxRecDepth 100000 in
set_option maxHeartbeats 6400000 in
theorem text_any:∀ (n:Nat) (v:Value) (x:JV) (w:World),JvAt n [] w v x→(JP.text x).length≤4194304→TabOK w→
  Calls Tryz.prog 68 #[v] w fun e w'=>e=.returned (.string (mkB (JP.text x)))∧Below w.heap.size w w':=by
 intro n
 induction n with
 | zero=>intro v x w h;cases h
 | succ n ih=>
  intro v x w h hlen htab
  have IH:=Lib.hid ih
  have Htab:=Lib.hid htab
  clear ih htab
  obtain⟨i0,hi0,hz0,hz1,hz2⟩:=info_parts Tryz.infoStr
  cases x with
  | nul=>
   obtain rfl:v=.nilIface:=h
   obtain⟨g1,g2,g3,g4,g5⟩:=as_nil
   clear hlen
   go_enter Tryz.func68,Tryz.ntmps68
   go_wp2_with fail
   go_ret
   exact⟨rfl,Below.refl _ _⟩
  | bool b=>
   obtain rfl:v=.iface 4 (.bool b):=h
   obtain⟨g1,g2,g3,g4,g5⟩:=as_bool (.bool b)
   clear hlen
   go_enter Tryz.func68,Tryz.ntmps68
   go_wp2_with fail
   refine (Tryz.strconv_FormatBool b w).mono ?_
   rintro E w1 ⟨rfl,rfl⟩
   go_wp2_with fail
   go_ret
   exact⟨ret_mk (formatBool_text b),Below.refl _ _⟩
  | num k=>
   obtain⟨rfl,k0,k1⟩:=h
   obtain⟨g1,g2,g3,g4,g5⟩:=as_int64 (.int .i64 k)
   clear hlen
   go_enter Tryz.func68,Tryz.ntmps68
   go_wp2_with fail
   refine (Tryz.strconv_FormatInt_10 k k0 k1 w Htab.out).mono ?_
   rintro E w1 ⟨rfl,q,os,hw1⟩
   have hb1:Below w.heap.size w w1:=by rw [hw1];exact Lib.below_grow _ _ (Nat.le_refl _) _ _
   have Hb1:=Lib.hid hb1
   clear hw1 hb1
   go_wp2_with fail
   go_ret
   exact⟨ret_mk (by rw [JP.text]),Hb1.out⟩
  | str s=>
   obtain rfl:v=.iface 9 (.string (mkB s)):=h
   obtain⟨g1,g2,g3,g4,g5⟩:=as_string (.string (mkB s))
   have hs:(mkB s).size≤4194304:=by
    rw [mkB_size]
    rw [JP.text] at hlen
    have:=quote_size s
    omega
   have HQ:=Lib.hid (quote_any (mkB s) w hs)
   clear hlen hs
   go_enter Tryz.func68,Tryz.ntmps68
   go_wp2_with fail
   refine HQ.out.mono ?_
   rintro E w1 ⟨rfl,hb1⟩
   have Hb1:=Lib.hid hb1
   clear hb1
   go_wp2_with fail
   go_ret
   exact⟨ret_mk (by rw [JP.text,mkB_list]),Hb1.out⟩
  | list l=>
   obtain⟨u,rfl,hrow,_⟩:=h
   obtain⟨a,c,rfl,_,_⟩:=hrow.len
   obtain⟨g1,g2,g3,g4,g5⟩:=as_list (.slice a l.length c)
   have h1:=lenL_text l
   have h2:=lenL_len l
   have hll:l.length≤4194304:=by omega
   have Hlen:Hid (JP.lenL l≤4194304):=Lib.hid (by omega)
   have Hrow:=Lib.hid hrow
   have hjl:(Lib.join (JP.textL l) [44]).length≤4194304:=by
    have:(JP.text (.list l)).length=(Lib.join (JP.textL l) [44]).length+2:=by rw [JP.text];simp
    omega
   have Hjl:=Lib.hid hjl
   have HT:Hid (JP.text (.list l)=91 :: (Lib.join (JP.textL l) [44]++[93])):=Lib.hid (by rw [JP.text])
   clear hrow hlen h1 h2 hjl
   go_enter Tryz.func68,Tryz.ntmps68
   go_wp2_with fail
   go_loopg [7,35] l.length (fun k u7 u35 wr=>∃ i:Nat,i+k=l.length∧u35=.int .i64 (i:Int)∧Hid (OwnAt RString 1 wr w.heap.size 9 u7 ((l.take i).map fun x=>mkB (JP.text x)))∧Hid (Below w.heap.size w wr))
   case atStart=>exact⟨0,by omega,rfl,Lib.hid (OwnAt.nil _),Lib.hid (Below.refl _ _)⟩
   case round=>
    obtain⟨i,hik,rfl,Hown,Hbel⟩:=hrel
    have hsr:=Hbel.out.size
    cases gk with
    | zero=>
     obtain rfl:i=l.length:=by omega
     have hown:=Hown.out
     rw [List.take_of_length_le (Nat.le_refl _)] at hown
     have HJ:=Lib.hid (joinStrs_any hown.row (by rw [List.length_map];omega) (by rw [mk_map,←textL_map];have:=Hjl.out;omega))
     obtain⟨J,HJe⟩:∃ J:Bs,Hid (Lib.join (JP.textL l) [44]=J):=⟨_,Lib.hid rfl⟩
     rw [mk_map,←textL_map,HJe.out] at HJ
     have hJs:(mkB J).size≤4194304:=by rw [mkB_size,←HJe.out];exact Hjl.out
     rw [HJe.out] at HT
     have q1:¬9223372036854775807<1+(mkB J).size:=by omega
     have q2:¬9223372036854775807<1+(mkB J).size+1:=by omega
     clear hown hik hsr
     go_wp2_with fail
     refine HJ.out.mono ?_
     rintro E w1 ⟨rfl,hb1⟩
     have Hb1:=Lib.hid (Hbel.out.trans (hb1.mono Hbel.out.size))
     clear hb1
     go_wp2_with fail
     go_ret
     exact⟨by rw [HT.out,←wrap_mk];rfl,Hb1.out⟩
    | succ k=>
     have hil:i<l.length:=by omega
     obtain⟨x,hx⟩:∃ x,l[i]? = some x:=⟨l[i]'(by omega),List.getElem?_eq_getElem _⟩
     obtain⟨b,o,c',hv,_,_,hbs,hcell⟩:=Hrow.out.form (by omega) (by omega)
     injection hv with u1 u2 u3
     subst u1
     clear u2 u3
     obtain⟨ds,_,hcc,vx,rfl,hvx⟩:=hcell i x hx
     have e0:wr.cell? ⟨b,o+i,none⟩=some vx:=(Hbel.out.cell (p:=⟨b,_,none⟩) hbs).trans (by simpa using hcc 0 _ rfl)
     have q1:(0:Int)≤(i:Int):=by omega
     have q2:(i:Int)<(l.length:Int):=by omega
     have hmem:=lenL_mem (List.mem_of_getElem? hx)
     have HC:=Lib.hid (IH.out vx x wr (hvx.below Hbel.out) (by have:=Hlen.out;omega) (Htab.out.below Hbel.out))
     have Htk:Hid ((l.take (i+1)).map (fun x=>mkB (JP.text x))=(l.take i).map (fun x=>mkB (JP.text x))++[mkB (JP.text x)]):=Lib.hid (by rw [List.take_add_one,hx,List.map_append];rfl)
     have hol:((l.take i).map fun x=>mkB (JP.text x)).length≤4194304:=by rw [List.length_map,List.length_take];omega
     obtain⟨O,HO⟩:∃ O,Hid ((l.take i).map (fun x=>mkB (JP.text x))=O):=⟨_,Lib.hid rfl⟩
     obtain⟨t,Ht⟩:∃ t,Hid (mkB (JP.text x)=t):=⟨_,Lib.hid rfl⟩
     rw [HO.out,Ht.out] at Htk
     rw [HO.out] at Hown hol
     rw [Ht.out] at HC
     clear hcell hcc hx hvx hmem
     go_wp2_with fail
     refine HC.out.mono ?_
     rintro E w1 ⟨rfl,hb1⟩
     have Ho1:=Lib.hid (Hown.out.below stays_string hb1)
     have Hb1:=Lib.hid (Hbel.out.trans (hb1.mono Hbel.out.size))
     have hs1:=Hb1.out.size
     clear hb1 e0
     go_wp2_with (at_builtin;refine wpList_append_ownAt (R:=RString) (k:=1) (e:=9) (B:=w.heap.size) (l:=O) (m:=[t]) _ (by rfl) _ _ _ (by rfl) i0 _ 16 Tryz.underlying28 hi0 hz0 hz1 hz2 rfl (by omega) flat_string one_string _ (by rfl) (Ho1.out.alloc stays_string _) (.slice (some ⟨w1.heap.size,0,none⟩) 1 1) (by rfl) (RowAt.one (R:=RString) (k:=1) (cs:=#[.string t]) (heap_alloc_new w1 _) rfl rfl) (by unfold maxLen;simp;omega) (by simp;omega) (by simp;omega) ?_)
     intro v' w2 hv' hg hr _
     have hb2:Below w.heap.size w w2:=below_of_grown (Hb1.out.alloc hs1 _) (by simp;omega) hg hr
     have Hb2:=Lib.hid hb2
     have Hv:Hid (OwnAt RString 1 w2 w.heap.size 9 v' ((l.take (i+1)).map fun x=>mkB (JP.text x))):=Lib.hid (by rw [Htk.out];exact hv')
     clear hv' hg hr hb2
     go_wp2_with fail
     go_roundg k
     case measure=>omega
     case rel=>exact⟨i+1,by omega,by go_num,Hv,Hb2⟩
  | obj l=>
   obtain⟨q,rfl,_,_,vn,vv,cn,cv,hrn,_,hrv,_⟩:=h
   obtain⟨an,c1,hu1,_,_⟩:=hrn.len
   obtain⟨av,c2,hu2,_,_⟩:=hrv.len
   rw [List.length_map] at hu1 hu2
   subst hu1
   subst hu2
   obtain⟨g1,g2,g3,g4,g5⟩:=as_obj (.pointer (some ⟨q,0,none⟩))
   have h1:=lenF_text l
   have h2:=lenF_len l
   have hll:l.length≤4194304:=by omega
   have Hlen:Hid (JP.lenF l≤4194304):=Lib.hid (by omega)
   have Hrn:=Lib.hid hrn
   have Hrv:=Lib.hid hrv
   have hjl:(Lib.join (JP.textF l) [44]).length≤4194304:=by
    have:(JP.text (.obj l)).length=(Lib.join (JP.textF l) [44]).length+2:=by rw [JP.text];simp
    omega
   have Hjl:=Lib.hid hjl
   have HT:Hid (JP.text (.obj l)=123 :: (Lib.join (JP.textF l) [44]++[125])):=Lib.hid (by rw [JP.text])
   have hqw:q<w.heap.size:=World.block_lt_of_cell? w ⟨q,0,none⟩ cn
   have Cv:=Lib.hid cv
   clear hrn hrv hlen h1 h2 hjl cv
   go_enter Tryz.func68,Tryz.ntmps68
   go_wp2_with fail
   clear cn
   go_loopg [11,57] l.length (fun k u11 u57 wr=>∃ i:Nat,i+k=l.length∧u57=.int .i64 (i:Int)∧Hid (OwnAt RString 1 wr w.heap.size 9 u11 ((l.take i).map fun x=>mkB (JP.quote x.1++58 :: JP.text x.2)))∧Hid (Below w.heap.size w wr))
   case atStart=>exact⟨0,by omega,rfl,Lib.hid (OwnAt.nil _),Lib.hid (Below.refl _ _)⟩
   case round=>
    obtain⟨i,hik,rfl,Hown,Hbel⟩:=hrel
    have hsr:=Hbel.out.size
    cases gk with
    | zero=>
     obtain rfl:i=l.length:=by omega
     have hown:=Hown.out
     rw [List.take_of_length_le (Nat.le_refl _)] at hown
     have HJ:=Lib.hid (joinStrs_any hown.row (by rw [List.length_map];omega) (by rw [mk_map,←textF_map];have:=Hjl.out;omega))
     obtain⟨J,HJe⟩:∃ J:Bs,Hid (Lib.join (JP.textF l) [44]=J):=⟨_,Lib.hid rfl⟩
     rw [mk_map,←textF_map,HJe.out] at HJ
     have hJs:(mkB J).size≤4194304:=by rw [mkB_size,←HJe.out];exact Hjl.out
     rw [HJe.out] at HT
     have q1:¬9223372036854775807<1+(mkB J).size:=by omega
     have q2:¬9223372036854775807<1+(mkB J).size+1:=by omega
     clear hown hik hsr
     go_wp2_with fail
     refine HJ.out.mono ?_
     rintro E w1 ⟨rfl,hb1⟩
     have Hb1:=Lib.hid (Hbel.out.trans (hb1.mono Hbel.out.size))
     clear hb1
     go_wp2_with fail
     go_ret
     exact⟨by rw [HT.out,←wrap_mk];rfl,Hb1.out⟩
    | succ k=>
     have hil:i<l.length:=by omega
     obtain⟨y,hx⟩:∃ y,l[i]? = some y:=⟨l[i]'(by omega),List.getElem?_eq_getElem _⟩
     have hxn:(l.map fun x=>mkB x.1)[i]? = some (mkB y.1):=by rw [List.getElem?_map,hx];rfl
     have hxv:(l.map (·.2))[i]? = some y.2:=by rw [List.getElem?_map,hx];rfl
     obtain⟨b,o,c',hv,_,_,hbs,hcell⟩:=Hrn.out.form (by rw [List.length_map];omega) (by omega)
     injection hv with u1 u2 u3
     subst u1
     clear u2 u3
     obtain⟨b2,o2,c2',hv2,_,_,hbs2,hcell2⟩:=Hrv.out.form (by rw [List.length_map];omega) (by omega)
     injection hv2 with u1 u2 u3
     subst u1
     clear u2 u3
     obtain⟨ds,_,hcc,rfl⟩:=hcell i _ hxn
     obtain⟨es,_,hdd,vx,rfl,hvx⟩:=hcell2 i _ hxv
     have e0:wr.cell? ⟨b,o+i,none⟩=some (.string (mkB y.1)):=(Hbel.out.cell (p:=⟨b,_,none⟩) hbs).trans (by simpa using hcc 0 _ rfl)
     have f0:wr.cell? ⟨b2,o2+i,none⟩=some vx:=(Hbel.out.cell (p:=⟨b2,_,none⟩) hbs2).trans (by simpa using hdd 0 _ rfl)
     have p1:wr.cell? ⟨q,1,none⟩=some (.slice (some ⟨b2,o2,none⟩) l.length c2):=(Hbel.out.cell (p:=⟨q,1,none⟩) hqw).trans Cv.out
     have hqr:q<wr.heap.size:=Nat.lt_of_lt_of_le hqw hsr
     have hbr2:b2<wr.heap.size:=Nat.lt_of_lt_of_le hbs2 hsr
     have q1:(0:Int)≤(i:Int):=by omega
     have q2:(i:Int)<(l.length:Int):=by omega
     have hmem:=lenF_mem (List.mem_of_getElem? hx)
     have hl0:=Hlen.out
     have hns:(mkB y.1).size≤4194304:=by rw [mkB_size];have:=quote_size y.1;omega
     obtain⟨Q,HQ⟩:∃ Q:Bs,Hid (JP.quote y.1=Q):=⟨_,Lib.hid rfl⟩
     obtain⟨X,HX⟩:∃ X:Bs,Hid (JP.text y.2=X):=⟨_,Lib.hid rfl⟩
     have HC1:Hid (∀ w',Below wr.heap.size wr w'→Calls Tryz.prog 100 #[.string (mkB y.1)] w' fun e w''=>e=.returned (.string (mkB Q))∧Below w'.heap.size w' w''):=Lib.hid fun w' hb'=>by
      refine (quote_any (mkB y.1) w' hns).mono ?_
      rintro E w'' ⟨rfl,hb''⟩
      exact⟨by rw [mkB_list,HQ.out],hb''⟩
     have HC2:Hid (∀ w',Below wr.heap.size wr w'→Calls Tryz.prog 68 #[vx] w' fun e w''=>e=.returned (.string (mkB X))∧Below w'.heap.size w' w''):=Lib.hid fun w' hb'=>by
      have hbw:=Hbel.out.trans (hb'.mono hsr)
      refine (IH.out vx y.2 w' (hvx.below hbw) (by omega) (Htab.out.below hbw)).mono ?_
      rintro E w'' ⟨rfl,hb''⟩
      exact⟨by rw [HX.out],hb''⟩
     have Htk:Hid ((l.take (i+1)).map (fun x=>mkB (JP.quote x.1++58 :: JP.text x.2))=(l.take i).map (fun x=>mkB (JP.quote x.1++58 :: JP.text x.2))++[mkB (Q++58 :: X)]):=Lib.hid (by rw [List.take_add_one,hx,List.map_append,←HQ.out,←HX.out];rfl)
     have hol:((l.take i).map fun x=>mkB (JP.quote x.1++58 :: JP.text x.2)).length≤4194304:=by rw [List.length_map,List.length_take];omega
     have hQs:(mkB Q).size≤4194304:=by rw [mkB_size,←HQ.out];omega
     have hXs:(mkB X).size≤4194304:=by rw [mkB_size,←HX.out];omega
     have q4:¬9223372036854775807<(mkB Q).size+1:=by omega
     have q5:¬9223372036854775807<(mkB Q).size+1+(mkB X).size:=by omega
     obtain⟨O,HO⟩:∃ O,Hid ((l.take i).map (fun x=>mkB (JP.quote x.1++58 :: JP.text x.2))=O):=⟨_,Lib.hid rfl⟩
     obtain⟨t,Ht⟩:∃ t,Hid (mkB (Q++58 :: X)=t):=⟨_,Lib.hid rfl⟩
     have Ht2:Hid ((mkB Q++⟨#[58]⟩++mkB X:ByteArray)=t):=Lib.hid (by rw [colon_mk];exact Ht.out)
     rw [HO.out,Ht.out] at Htk
     rw [HO.out] at Hown hol
     clear hcell hcc hcell2 hdd hx hxn hxv hvx hmem hl0
     go_upto_region 26 with fail
     refine wp_region_relB 14 (fun ii U w'=>match ii with
      | 0=>U 0=u11
      | 1=>U 1=.string (mkB y.1)
      | 2=>U 2=.string (mkB Q)
      | 3=>U 3=.string (mkB Q++⟨#[58]⟩)
      | 4=>U 4=.pointer (some ⟨q,0,none⟩)
      | 5=>U 5=.pointer (some ⟨q,0,none⟩)
      | 6=>U 6=.pointer (some ⟨q,1,none⟩)
      | 7=>U 7=.slice (some ⟨b2,o2,none⟩) l.length c2
      | 8=>U 8=.int .i64 (i:Int)
      | 9=>U 9=.pointer (some ⟨b2,o2+i,none⟩)
      | 10=>U 10=vx
      | 11=>U 11=.string (mkB X)
      | 12=>U 12=.string t
      | 13=>∃ g,U 13=.slice (some ⟨g,0,none⟩) 1 1∧w'.heap[g]? = some (.cells #[.string t] 9 (0,0))
      | _=>True)
      (fun | 2=>[1] | 3=>[2] | 5=>[4] | 6=>[5] | 7=>[6] | 9=>[7,8] | 10=>[9] | 11=>[10] | 12=>[3,11] | 13=>[12] | _=>[]) (by kernel_rfl) (by kernel_rfl) ?_ ⟨?_,?_,?_,?_,?_,?_,?_,?_,?_,?_,?_,?_,?_,?_,trivial⟩ ?_
     ·intro j u w1 w2 hb h
      match j,h with
      | 0,h=>exact h
      | 1,h=>exact h
      | 2,h=>exact h
      | 3,h=>exact h
      | 4,h=>exact h
      | 5,h=>exact h
      | 6,h=>exact h
      | 7,h=>exact h
      | 8,h=>exact h
      | 9,h=>exact h
      | 10,h=>exact h
      | 11,h=>exact h
      | 12,h=>exact h
      | 13,h=>exact (by obtain⟨g,h1,h2⟩:=h;exact⟨g,h1,below_block hb h2⟩)
      | _+14,h=>trivial
     ·intro x w' hb hd
      have hbr:Below wr.heap.size wr w':=(below_drew1 wr).trans hb
      refine owes_here u11 (by rfl) ?_ rfl
      simp only [putAll,List.take_succ_cons,List.take_zero]
      go_simp
     ·intro x w' hb hd
      have hbr:Below wr.heap.size wr w':=(below_drew1 wr).trans hb
      refine owes_here (.string (mkB y.1)) (by rfl) ?_ rfl
      simp only [putAll,List.take_succ_cons,List.take_zero]
      go_simp
     ·intro x w' hb hd
      have hbr:Below wr.heap.size wr w':=(below_drew1 wr).trans hb
      have k1:x 1=.string (mkB y.1):=hd 1 (by simp)
      refine owes_call 100 #[.string (mkB y.1)] (by rfl) ?_ ((HC1.out w' hbr).mono fun e w2 h=>⟨_,h.1,rfl,h.2⟩)
      simp only [putAll,List.take_succ_cons,List.take_zero]
      go_simp
     ·intro x w' hb hd
      have hbr:Below wr.heap.size wr w':=(below_drew1 wr).trans hb
      have k1:x 2=.string (mkB Q):=hd 2 (by simp)
      refine owes_here (.string (mkB Q++⟨#[58]⟩)) (by rfl) ?_ rfl
      simp only [putAll,List.take_succ_cons,List.take_zero]
      go_simp
     ·intro x w' hb hd
      have hbr:Below wr.heap.size wr w':=(below_drew1 wr).trans hb
      refine owes_here (.pointer (some ⟨q,0,none⟩)) (by rfl) ?_ rfl
      simp only [putAll,List.take_succ_cons,List.take_zero]
      go_simp
     ·intro x w' hb hd
      have hbr:Below wr.heap.size wr w':=(below_drew1 wr).trans hb
      have k1:x 4=.pointer (some ⟨q,0,none⟩):=hd 4 (by simp)
      refine owes_here (.pointer (some ⟨q,0,none⟩)) (by rfl) ?_ rfl
      simp only [putAll,List.take_succ_cons,List.take_zero]
      go_simp
     ·intro x w' hb hd
      have hbr:Below wr.heap.size wr w':=(below_drew1 wr).trans hb
      have k1:x 5=.pointer (some ⟨q,0,none⟩):=hd 5 (by simp)
      refine owes_here (.pointer (some ⟨q,1,none⟩)) (by rfl) ?_ rfl
      simp only [putAll,List.take_succ_cons,List.take_zero]
      go_simp
     ·intro x w' hb hd
      have hbr:Below wr.heap.size wr w':=(below_drew1 wr).trans hb
      have k1:x 6=.pointer (some ⟨q,1,none⟩):=hd 6 (by simp)
      have d1:=(hbr.cell (p:=⟨q,1,none⟩) hqr).trans p1
      refine owes_here (.slice (some ⟨b2,o2,none⟩) l.length c2) (by rfl) ?_ rfl
      simp only [putAll,List.take_succ_cons,List.take_zero]
      go_simp
     ·intro x w' hb hd
      have hbr:Below wr.heap.size wr w':=(below_drew1 wr).trans hb
      refine owes_here (.int .i64 (i:Int)) (by rfl) ?_ rfl
      simp only [putAll,List.take_succ_cons,List.take_zero]
      go_simp
     ·intro x w' hb hd
      have hbr:Below wr.heap.size wr w':=(below_drew1 wr).trans hb
      have k1:x 7=.slice (some ⟨b2,o2,none⟩) l.length c2:=hd 7 (by simp)
      have k2:x 8=.int .i64 (i:Int):=hd 8 (by simp)
      refine owes_here (.pointer (some ⟨b2,o2+i,none⟩)) (by rfl) ?_ rfl
      simp only [putAll,List.take_succ_cons,List.take_zero]
      go_simp
     ·intro x w' hb hd
      have hbr:Below wr.heap.size wr w':=(below_drew1 wr).trans hb
      have k1:x 9=.pointer (some ⟨b2,o2+i,none⟩):=hd 9 (by simp)
      have d1:=(hbr.cell (p:=⟨b2,o2+i,none⟩) hbr2).trans f0
      refine owes_here vx (by rfl) ?_ rfl
      simp only [putAll,List.take_succ_cons,List.take_zero]
      go_simp
     ·intro x w' hb hd
      have hbr:Below wr.heap.size wr w':=(below_drew1 wr).trans hb
      have k1:x 10=vx:=hd 10 (by simp)
      refine owes_call 68 #[vx] (by rfl) ?_ ((HC2.out w' hbr).mono fun e w2 h=>⟨_,h.1,rfl,h.2⟩)
      simp only [putAll,List.take_succ_cons,List.take_zero]
      go_simp
     ·intro x w' hb hd
      have hbr:Below wr.heap.size wr w':=(below_drew1 wr).trans hb
      have k1:x 3=.string (mkB Q++⟨#[58]⟩):=hd 3 (by simp)
      have k2:x 11=.string (mkB X):=hd 11 (by simp)
      have hS:=Ht2.out
      refine owes_here (.string t) (by rfl) ?_ rfl
      simp only [putAll,List.take_succ_cons,List.take_zero]
      go_simp
     ·intro x w' hb hd
      have hbr:Below wr.heap.size wr w':=(below_drew1 wr).trans hb
      have k1:x 12=.string t:=hd 12 (by simp)
      refine owes_makes (.slice (some ⟨w'.heap.size,0,none⟩) 1 1) (w':=w'.alloc (.cells #[.string t] 9)) (by rfl) ?_ (⟨_,rfl,heap_alloc_new w' _⟩) ((Below.refl _ _).alloc (Nat.le_refl _) _)
      simp only [putAll,List.take_succ_cons,List.take_zero]
      go_simp
     ·intro x w' hb hR
      have hbr:Below wr.heap.size wr w':=(below_drew1 wr).trans hb
      have k0:x 0=u11:=hR 0 (by omega)
      obtain⟨g,kg1,kg2⟩:∃ g,x 13=.slice (some ⟨g,0,none⟩) 1 1∧w'.heap[g]? = some (.cells #[.string t] 9 (0,0)):=hR 13 (by omega)
      have Ho1:=Lib.hid (Hown.out.below stays_string hbr)
      have Hb1:=Lib.hid (Hbel.out.trans (hbr.mono Hbel.out.size))
      have hs1:=Hb1.out.size
      have Hg:=Lib.hid kg2
      clear hR hb hbr e0 f0 p1 kg2
      simp only [putAll,List.take_succ_cons,List.take_zero,List.drop_succ_cons,List.drop_zero]
      try simp only [Act.put,List.setIfInBounds_toArray,List.set_cons_zero,List.set_cons_succ]
      go_wp2_with (at_builtin;refine wpList_append_ownAt (R:=RString) (k:=1) (e:=9) (B:=w.heap.size) (l:=O) (m:=[t]) _ (by rfl) _ _ _ (by rfl) i0 _ 16 Tryz.underlying28 hi0 hz0 hz1 hz2 rfl (by omega) flat_string one_string _ (by exact k0) Ho1.out _ (by exact kg1) (RowAt.one (R:=RString) (k:=1) (cs:=#[.string t]) Hg.out rfl rfl) (by unfold maxLen;simp;omega) (by simp;omega) (by omega) ?_)
      intro v' w2 hv' hg hr _
      have hb2:Below w.heap.size w w2:=below_of_grown Hb1.out hs1 hg hr
      have Hb2:=Lib.hid hb2
      have Hv:Hid (OwnAt RString 1 w2 w.heap.size 9 v' ((l.take (i+1)).map fun x=>mkB (JP.quote x.1++58 :: JP.text x.2))):=Lib.hid (by rw [Htk.out];exact hv')
      clear hv' hg hr hb2
      go_wp2_with fail
      go_roundg k
      case measure=>omega
      case rel=>exact⟨i+1,by omega,by go_num,Hv,Hb2⟩
end Go.Proofs.YtnnceaapodgfbaaGreatDoor
namespace Go.Proofs.YtnnceaapodgfbaaGreatDoor
open Go.RowKit
open JP (JV Bs)
end Go.Proofs.YtnnceaapodgfbaaGreatDoor
namespace Go.Proofs.YtnnceaapodgfbaaGreatDoor
open Go.RowKit
open JP (JV Bs Fr)
namespace JP
theorem readL_good {s:Bs} {v:JV} (h:readL s=(v,0)):wf v∧size v≤200∧deep v≤10∧(text v).length≤s.length∧s.length≤2000:=by
 unfold readL at h
 split at h
 ·exact absurd (Prod.mk.inj h).2 (by decide)
 ·rename_i hl
  have hi:Inv s.length (.more s 0 []):=⟨by show s.length+0≤s.length;omega,rfl,by omega,trivial⟩
  obtain⟨a,b,c,d⟩:=fin_inv _ hi v h
  exact⟨a,b,c,d,by omega⟩
def canonT (s:Bs):Bs:=if (readL s).2=0 then text (readL s).1 else []
def canonE (s:Bs):Int:=(readL s).2
theorem canonT_ok {s:Bs} {v:JV} (h:readL s=(v,0)):canonT s=text v:=by unfold canonT;rw [h];exact if_pos rfl
theorem canonT_no {s:Bs} (h:(readL s).2≠0):canonT s = []:=if_neg h
theorem canonT_le (s:Bs):(canonT s).length≤2000:=by
 unfold canonT
 split
 ·rename_i h
  obtain⟨_,_,_,h4,h5⟩:=readL_good (s:=s) (v:=(readL s).1) (Prod.ext rfl h)
  omega
 ·simp
end JP
theorem list_size (s:ByteArray):s.data.toList.length=s.size:=by rw [Array.length_toList];rfl
set_option maxRecDepth 100000 in
set_option maxHeartbeats 3200000 in
theorem canon_any (s:ByteArray) (w:World) (hs:s.size≤1048576) (ht:TabOK w) :
  Calls Tryz.prog 57 #[.string s] w fun e w'=>e=.returned (.tuple #[.string (mkB (JP.canonT s.data.toList)),.int .i64 (JP.canonE s.data.toList)])∧Below w.heap.size w w':=by
 have HR:=Lib.hid (read_any s w hs)
 obtain⟨v,hv⟩:∃ v,(JP.readL s.data.toList).1=v:=⟨_,rfl⟩
 obtain⟨er,her⟩:∃ er,(JP.readL s.data.toList).2=er:=⟨_,rfl⟩
 have hre:JP.readL s.data.toList=(v,er):=Prod.ext hv her
 have HT:=Lib.hid ht
 rw [hv,her] at HR
 have hE:JP.canonE s.data.toList=er:=her
 have Hre:=Lib.hid hre
 obtain⟨T,hT⟩:∃ T,JP.canonT s.data.toList=T:=⟨_,rfl⟩
 rw [hE,hT]
 have HTx:=Lib.hid hT
 clear ht hv her hre hE hT
 go_enter Tryz.func57,Tryz.ntmps57
 go_wp2_with fail
 refine HR.out.mono ?_
 rintro E w1 ⟨u,rfl,⟨n,hj⟩,hb⟩
 have HJ:=Lib.hid hj
 have HB:=Lib.hid hb
 clear hj hb HR
 by_cases he:er=0
 ·subst he
  obtain⟨_,_,_,h4,h5⟩:=JP.readL_good Hre.out
  have HTt:Hid (T=JP.text v):=Lib.hid (by rw [←HTx.out];exact JP.canonT_ok Hre.out)
  go_wp2_with fail
  refine (text_any n u v w1 HJ.out (by omega) (HT.out.below HB.out)).mono ?_
  rintro E w2 ⟨rfl,hb⟩
  have HB2:=Lib.hid (HB.out.trans (hb.mono HB.out.size))
  clear hb
  go_wp2_with fail
  go_ret2
  exact⟨by rw [HTt.out]<;>rfl,HB2.out⟩
 ·have n0:(er != 0)=true:=by rw [bne_iff_ne];exact he
  have HTt:Hid (T = []):=Lib.hid (by rw [←HTx.out];exact JP.canonT_no (by rw [Hre.out];exact he))
  clear he
  go_wp2_with fail
  go_ret2
  exact⟨by rw [HTt.out]<;>rfl,HB.out⟩
end Go.Proofs.YtnnceaapodgfbaaGreatDoor
namespace Go.Proofs.YtnnceaapodgfbaaGreatDoor
def says (b e:Int):Int:=if b=0 then e else b
def firstBad:List Int→Int
 | []=>0
 | e :: r=>says e (firstBad r)
theorem says_zero (b:Int):says b 0=b:=by unfold says;split<;>simp_all
theorem zero_says (b:Int):says 0 b=b:=by unfold says;simp
theorem says_assoc (a b c:Int):says (says a b) c=says a (says b c):=by unfold says;by_cases h:a=0<;>simp [h]
theorem firstBad_append (l m:List Int):firstBad (l++m)=says (firstBad l) (firstBad m):=by
 induction l with
 | nil=>simp [firstBad,zero_says]
 | cons e r ih=>simp only [List.cons_append,firstBad,ih,says_assoc]
theorem firstBad_take {l:List Int} {i:Nat} {e:Int} (h:l[i]? = some e):firstBad (l.take (i+1))=says (firstBad (l.take i)) e:=by
 rw [List.take_add_one,h,firstBad_append]
 simp [firstBad,says_zero]
end Go.Proofs.YtnnceaapodgfbaaGreatDoor
namespace Go.Proofs.YtnnceaapodgfbaaGreatDoor
open JP (Bs)
namespace AuP
def emptyOr (s:Bs):Int:=if s = [] then 0 else NameP.check s
def keyE (k s n:Bs):Int:=says (NameP.check k) (says (emptyOr s) (NameP.check n))
end AuP
end Go.Proofs.YtnnceaapodgfbaaGreatDoor
namespace Go.Proofs.YtnnceaapodgfbaaGreatDoor
namespace Sto
open Go.RowKit
def IsBad (g:Nat) (w:World) (b:Int):Prop:=w.heap[g]? = some (.cells #[.int .i64 b] 113 (0,0))
theorem IsBad.below {g:Nat} {w w':World} {b:Int} (h:IsBad g w b) (hb:Below w.heap.size w w'):IsBad g w' b:=below_block hb h
theorem IsBad.lt {g:Nat} {w:World} {b:Int} (h:IsBad g w b):g<w.heap.size:=by
 rcases Nat.lt_or_ge g w.heap.size with h1 | h1
 ·exact h1
 ·unfold IsBad at h;rw [Array.getElem?_eq_none h1] at h;cases h
def Said (g:Nat) (b:Int) (w:World) (E:Ending) (w':World):Prop:=E=.returned (.tuple #[])∧IsBad g w' b∧But g w w'
set_option maxRecDepth 100000 in
theorem says_any (g:Nat) (b e:Int) (w:World) (h:IsBad g w b):Calls Tryz.prog 53 #[.pointer (some ⟨g,0,none⟩),.int .i64 e] w (Said g (says b e) w):=by
 have h':w.heap[g]? = some (.cells #[.int .i64 b] 113 (0,0)):=h
 have c0:w.cell? ⟨g,0,none⟩=some (.int .i64 b):=cell_block h' 0
 have z0:w.frozen? ⟨g,0,none⟩=false:=free_block h' 0
 have Hh:=Lib.hid h'
 clear h h'
 by_cases hb:b=0
 ·subst hb
  go_enter Tryz.func53,Tryz.ntmps53
  go_wp2_with fail
  obtain⟨t1,t2⟩:=touch_setCell (i:=0) (v:=.int .i64 e) Hh.out
  go_end0
  exact⟨rfl,by rw [zero_says];exact t1,But.touch t2⟩
 ·have q:(b == 0)=false:=by rw [beq_eq_false_iff_ne];exact hb
  have Hs:Hid (says b e=b):=by show _=_;unfold says;rw [if_neg hb]
  clear hb
  go_enter Tryz.func53,Tryz.ntmps53
  go_wp2_with fail
  go_end0
  exact⟨rfl,by rw [Hs.out];exact Hh.out,But.refl _ _⟩
def chk (s:ByteArray):Int:=NameP.check s.data.toList
set_option maxRecDepth 100000 in
set_option maxHeartbeats 800000 in
theorem names_any (g:Nat) (b:Int) (v:Value) (l:List ByteArray) (w:World) (h:IsBad g w b) (hv:StrAt w v l) (hne:0<l.length→∀ a n c,v=.slice (some a) n c→a.block≠g) (hx:∀ x∈l,x.size≤1099511627776) (hl:l.length≤1073741824) :
  Calls Tryz.prog 55 #[.pointer (some ⟨g,0,none⟩),v] w (Said g (says b (firstBad (l.map chk))) w):=by
 have hrow:=hv.row
 obtain⟨a1,c1,rfl,_,_⟩:=hrow.len
 have H:=Lib.hid h
 have HV:=Lib.hid hrow
 have Hne:=Lib.hid hne
 have Hx:=Lib.hid hx
 clear h hv hne hx hrow
 go_enter Tryz.func55,Tryz.ntmps55
 go_wp2_with fail
 go_loopg [8] l.length (fun k u8 wr=>∃ i:Nat,i+k=l.length∧u8=.int .i64 (i:Int)∧Hid (IsBad g wr (says b (firstBad ((l.map chk).take i))))∧Hid (But g w wr))
 case atStart=>exact⟨0,by omega,rfl,Lib.hid (by rw [List.take_zero];exact (says_zero b).symm▸H.out),Lib.hid (But.refl _ _)⟩
 case round=>
  obtain⟨i,hig,rfl,Hbad,Hbut⟩:=hrel
  cases gk with
  | zero=>
   obtain rfl:i=l.length:=by omega
   have Hend:Hid (IsBad g wr (says b (firstBad (l.map chk)))):=by
    have h9:=Hbad.out
    rw [List.take_of_length_le (by simp)] at h9
    exact Lib.hid h9
   go_wp2_with fail
   go_end0
   exact⟨rfl,Hend.out,Hbut.out⟩
  | succ k=>
   have hil:i<l.length:=by omega
   obtain⟨s,hsi⟩:∃ s,l[i]? = some s:=⟨l[i]'(by omega),List.getElem?_eq_getElem _⟩
   obtain⟨bk,o,c',hv,_,_,hbs,hcell⟩:=HV.out.form (by omega) (by omega)
   have hbg:=Hne.out (by omega) _ _ _ hv
   cases hv
   obtain⟨ds,_,hcc,hR⟩:=hcell i s hsi
   obtain rfl:ds = [.string s]:=hR
   have e0:wr.cell? ⟨bk,o+i,none⟩=some (.string s):=(Hbut.out.cell (p:=⟨bk,o+i,none⟩) hbs hbg).trans (by simpa using hcc 0 _ rfl)
   have q1:(0:Int)≤(i:Int):=by omega
   have q2:(i:Int)<(l.length:Int):=by omega
   have hss:=Hx.out s (List.mem_of_getElem? hsi)
   have Hnext:Hid (says b (firstBad ((l.map chk).take (i+1)))=says (says b (firstBad ((l.map chk).take i))) (chk s)):=by
    show _=_
    rw [firstBad_take (e:=chk s) (by rw [List.getElem?_map,hsi];rfl),says_assoc]
   clear hcc hcell hsi hbg
   obtain⟨cd,Hcd⟩:∃ cd,Hid (NameP.check s.data.toList=cd):=⟨_,Lib.hid rfl⟩
   rw [show chk s=cd from Hcd.out] at Hnext
   go_wp2_with fail
   refine (check_any s wr hss).mono ?_
   rintro E w1 ⟨rfl,rfl⟩
   rw [Hcd.out]
   go_wp2_with fail
   refine (says_any g _ cd wr Hbad.out).mono ?_
   rintro E w1 ⟨rfl,h1,h2⟩
   have H1:=Lib.hid h1
   have H2:=Lib.hid (Hbut.out.trans h2)
   clear h1 h2 e0
   go_wp2_with fail
   go_roundg k
   case measure=>omega
   case rel=>exact⟨i+1,by omega,by go_num,Lib.hid (by rw [Hnext.out];exact H1.out),H2⟩
theorem one_str {w:World} {g:Nat} {t:TypeId} {a:ByteArray} (h:w.heap[g]? = some (.cells #[.string a] t (0,0))):StrAt w (.slice (some ⟨g,0,none⟩) 1 1) [a]:=by
 refine .inr ⟨_,1,rfl,Nat.le_refl _,by unfold maxLen;decide,fun j x hx=>?_⟩
 have hj:j<1:=(List.getElem?_eq_some_iff.1 hx).1
 obtain rfl:j=0:=by omega
 rw [add_plain',Nat.zero_add]
 have:w.cell? ⟨g,0,none⟩=#[Value.string a][0]?:=cell_block h 0
 rw [this]
 simp at hx;subst hx;rfl
theorem name_one (g:Nat) (b:Int) (s:ByteArray) (w:World) (h:IsBad g w b) (hs:s.size≤1099511627776) :
  Calls Tryz.prog 55 #[.pointer (some ⟨g,0,none⟩),.slice (some ⟨w.heap.size,0,none⟩) 1 1] (w.alloc (.cells #[.string s] 9)) (Said g (says b (NameP.check s.data.toList)) w):=by
 have hlt:=h.lt
 have hb:=(Below.refl w.heap.size w).alloc (Nat.le_refl _) (.cells #[.string s] 9)
 refine (names_any g b _ [s] _ (h.below hb) (one_str (heap_alloc_new w _)) (fun _ a n c e=>by cases e;show w.heap.size≠g;omega) (fun x hx=>by rw [List.mem_singleton.1 hx];exact hs) (by show 1≤1073741824;omega)).mono ?_
 rintro E w' ⟨h1,h2,h3⟩
 refine⟨h1,?_,(But.of hb).trans h3⟩
 have:firstBad ([s].map chk)=NameP.check s.data.toList:=by show says (chk s) 0=_;rw [says_zero];rfl
 rw [←this];exact h2
set_option maxRecDepth 100000 in
theorem space_any (g:Nat) (b:Int) (s:ByteArray) (w:World) (h:IsBad g w b) (hs:s.size≤1099511627776):Calls Tryz.prog 62 #[.pointer (some ⟨g,0,none⟩),.string s] w (Said g (says b (AuP.emptyOr s.data.toList)) w):=by
 have H:=Lib.hid h
 clear h
 by_cases h0:s.size=0
 ·have q:s.data.toList = []:=List.eq_nil_of_length_eq_zero (by simpa using h0)
  have q2:s.toList.isEmpty=true:=by rw [ByteArray.toList_eq,q];rfl
  have Hs:Hid (says b (AuP.emptyOr s.data.toList)=b):=by show _=_;unfold AuP.emptyOr;rw [if_pos q];exact says_zero b
  rw [Hs.out]
  clear h0 q
  go_enter Tryz.func62,Tryz.ntmps62
  go_wp2_with fail
  go_end0
  exact⟨rfl,H.out,But.refl _ _⟩
 ·have q:s.data.toList≠[]:=fun h=>by
   have hl:s.data.toList.length=s.size:=by simp
   rw [h] at hl
   exact h0 hl.symm
  have q2:s.toList.isEmpty=false:=by rw [ByteArray.toList_eq];cases hd:s.data.toList with | nil=>exact absurd hd q | cons x r=>rfl
  have Hs:Hid (says b (AuP.emptyOr s.data.toList)=says b (NameP.check s.data.toList)):=by show _=_;unfold AuP.emptyOr;rw [if_neg q]
  rw [Hs.out]
  clear h0 q
  go_enter Tryz.func62,Tryz.ntmps62
  go_wp2_with fail
  refine (name_one g b s w H.out hs).mono ?_
  rintro E w1 ⟨rfl,h1,h2⟩
  have H1:=Lib.hid h1
  have H2:=Lib.hid h2
  clear h1 h2 Hs
  go_wp2_with fail
  go_end0
  exact⟨rfl,H1.out,H2.out⟩
set_option maxRecDepth 100000 in
set_option maxHeartbeats 800000 in
theorem key_any (a b c:ByteArray) (w:World) (ha:a.size≤8388608) (hb:b.size≤8388608) (hc:c.size≤8388608) :
  Calls Tryz.prog 47 #[.agg #[.string a,.string b,.string c]] w fun e w'=>e=.returned (.int .i64 (AuP.keyE a.data.toList b.data.toList c.data.toList))∧Below w.heap.size w w':=by
 obtain⟨R,HR⟩:∃ R,Hid (AuP.keyE a.data.toList b.data.toList c.data.toList=R):=⟨_,Lib.hid rfl⟩
 rw [HR.out]
 go_enter Tryz.func47,Tryz.ntmps47
 go_upto_region 2 with fail
 obtain⟨w1,hw1⟩:∃ w1,w1=(w.alloc (.cells #[.string a,.string b,.string c] 24)).alloc (.cells #[.int .i64 0] 113):=⟨_,rfl⟩
 obtain⟨gc,hgc⟩:∃ gc,gc=w.heap.size+1:=⟨_,rfl⟩
 obtain⟨gb,hgb⟩:∃ gb,gb=w.heap.size:=⟨_,rfl⟩
 rw [←hw1]
 try rw [←hgc]
 rw [←hgb]
 have b1:w1.heap[gb]? = some (.cells #[.string a,.string b,.string c] 24 (0,0)):=by
  rw [hw1,hgb]
  exact below_block ((Below.refl _ _).alloc (Nat.le_refl _) _) (heap_alloc_new w _)
 have h1:IsBad gc w1 0:=by
  have h9:=heap_alloc_new (w.alloc (.cells #[.string a,.string b,.string c] 24)) (.cells #[.int .i64 0] 113)
  rw [hw1,hgc]
  simpa [IsBad] using h9
 have hb1:Below w.heap.size w w1:=by rw [hw1];exact ((Below.refl _ _).alloc (Nat.le_refl _) _).alloc (by simp) _
 have hlt1:=h1.lt
 have hne:gb≠gc:=by omega
 have hgw:w.heap.size≤gb:=by omega
 have hgw2:w.heap.size≤gc:=by omega
 have hs1:=hb1.size
 have Hb1:=Lib.hid hb1
 have H1:=Lib.hid h1
 have B1:=Lib.hid b1
 have cc:=fun i=>cell_block b1 i
 clear hw1 hgc hgb b1 h1 hb1
 go_wp2_with fail
 refine (name_one gc 0 a w1 H1.out (by omega)).mono ?_
 rintro E w2 ⟨rfl,h1,h2⟩
 have H2:=Lib.hid h1
 have K2:=Lib.hid h2
 clear cc h1 h2
 have cc:=fun i=>cell_block (K2.out.keep B1.out hne) i
 go_wp2_with fail
 refine (space_any gc _ b w2 H2.out (by omega)).mono ?_
 rintro E w3 ⟨rfl,h1,h2⟩
 have H3:=Lib.hid h1
 have K3:=Lib.hid (K2.out.trans h2)
 clear cc h1 h2
 have cc:=fun i=>cell_block (K3.out.keep B1.out hne) i
 go_wp2_with fail
 refine (name_one gc _ c w3 H3.out (by omega)).mono ?_
 rintro E w4 ⟨rfl,h1,h2⟩
 have hR2:says (says (says 0 (NameP.check a.data.toList)) (AuP.emptyOr b.data.toList)) (NameP.check c.data.toList)=R:=by rw [←HR.out,zero_says,says_assoc];rfl
 rw [hR2] at h1
 have K4:=Lib.hid ((But.of Hb1.out).trans (K3.out.trans h2))
 have c4:w4.cell? ⟨gc,0,none⟩=some (.int .i64 R):=cell_block h1 0
 clear cc h1 h2 hR2 H2 H3
 go_wp2_with fail
 go_ret
 exact⟨rfl,K4.out.below (Below.refl _ _) (Nat.le_refl _) (by omega)⟩
end Sto
end Go.Proofs.YtnnceaapodgfbaaGreatDoor
namespace Go.Proofs.YtnnceaapodgfbaaGreatDoor
namespace Sto
open Go.RowKit
open JP (Bs)
instance decKey:DecidableEq GKey:=fun a b=>
 if h:a.kind=b.kind∧a.space=b.space∧a.name=b.name then .isTrue (by obtain⟨a1,a2,a3⟩:=a;obtain⟨b1,b2,b3⟩:=b;obtain⟨h1,h2,h3⟩:=h;cases h1;cases h2;cases h3;rfl)
 else .isFalse fun e=>h (by subst e;exact⟨rfl,rfl,rfl⟩)
def noKey:GKey:=⟨ByteArray.empty,ByteArray.empty,ByteArray.empty⟩
def noObj:GObject:=⟨noKey,[],[],[],false,ByteArray.empty,0,ByteArray.empty⟩
def keyK (k:GKey):Int:=AuP.keyE k.kind.data.toList k.space.data.toList k.name.data.toList
def twiceE (l:List ByteArray):Int:=if l.Nodup then 0 else 5
def firstO (o:GObject):Int:=says (says (keyK o.okey) (labelsE o.labels)) (if 4<o.owners.length∨4<o.holds.length then 2 else 0)
def objE (o:GObject):Int:=if firstO o≠0 then firstO o else says (says (says (firstBad (o.owners.map chk)) (firstBad (o.holds.map chk))) (twiceE o.holds)) (JP.canonE o.doc.data.toList)
def keptO (o:GObject):GObject:={o with doc:=mkB (JP.canonT o.doc.data.toList),uid:=ByteArray.empty}
structure St where
 log:List GEvent
 comp:Int
def St.rev (S:St):Nat:=S.log.length
def hits (l:List GEvent) (k:GKey):List GEvent:=l.filter fun e=>decide (e.object.okey=k)
def cur (l:List GEvent) (k:GKey):Option GObject:=match (hits l k).getLast? with
 | some e=>if e.kind=3 then none else some e.object
 | none=>none
def live:List GEvent→Int
 | []=>0
 | e :: r=>live r+(if e.kind=1 then 1 else if e.kind=3 then -1 else 0)
def uidOf (n:Nat):ByteArray:=mkB (117 :: Lib.itoa (n:Int))
def putO (n:Nat) (kind:Int) (o:GObject):GObject:={o with rev:=(n:Int),uid:=if kind=1 then uidOf n else o.uid}
def put (S:St) (kind:Int) (o:GObject):St:={S with log:=S.log++[⟨kind,(S.rev:Int)+1,putO (S.rev+1) kind o⟩]}
abbrev Told:=St × GObject × Int
def doPut (S:St) (kind:Int) (o:GObject):Told:=(put S kind o,putO (S.rev+1) kind o,0)
def create (S:St) (o:GObject):Told:=
 if objE o≠0 then (S,noObj,objE o) else if (cur S.log o.okey).isSome=true then (S,noObj,5) else if live S.log=60 then (S,noObj,22) else doPut S 1 {keptO o with ending:=false}
def update (S:St) (o:GObject):Told:=
 if objE o≠0 then (S,noObj,objE o) else match cur S.log o.okey with
 | none=>(S,noObj,7)
 | some was=>if o.rev≠was.rev then (S,noObj,12) else if was.ending=true∧o.ending=false then (S,noObj,1) else doPut S 2 {keptO o with uid:=was.uid}
def remove (S:St) (k:GKey) (rev:Int):Told:=
 if keyK k≠0 then (S,noObj,keyK k) else match cur S.log k with
 | none=>(S,noObj,7)
 | some was=>if rev≠0∧rev≠was.rev then (S,noObj,12) else doPut S 3 was
def compactE (S:St) (rev:Int):Int:=if (S.rev:Int)<rev∨rev<S.comp then 1 else 0
def compact (S:St) (rev:Int):St:=if compactE S rev=0 then {S with comp:=rev} else S
def modI (n m:Int):Int:=n % m
def doS (S:St) (x:GStoreStep):Told:=
 if modI x.kind 4=0 then create S x.o else if modI x.kind 4=1 then update S x.o else if modI x.kind 4=2 then remove S x.o.okey x.rev else (compact S (modI x.rev 3),noObj,compactE S (modI x.rev 3))
def run (S:St):List GStoreStep→St
 | []=>S
 | x :: r=>run (doS S x).1 r
def timeE (S:St) (rev:Int):Int:=if rev<0∨(S.rev:Int)<rev then 1 else if rev=0 then 0 else if rev<S.comp then 13 else 0
def timeT (S:St) (rev:Int):Nat:=if timeE S rev≠0 then 0 else if rev=0 then S.rev else rev.toNat
def atR (S:St) (k:GKey) (n:Nat):Option GObject:=cur (S.log.take n) k
def getE (S:St) (k:GKey) (rev:Int):Int:=if keyK k≠0 then keyK k else if timeE S rev≠0 then timeE S rev else if (atR S k (timeT S rev)).isSome=true then 0 else 7
def getO (S:St) (k:GKey) (rev:Int):GObject:=if getE S k rev=0 then (atR S k (timeT S rev)).getD noObj else noObj
def spaceE (s:ByteArray):Int:=AuP.emptyOr s.data.toList
def listE (S:St) (kind space:ByteArray) (rev:Int):Int:=if says (chk kind) (spaceE space)≠0 then says (chk kind) (spaceE space) else timeE S rev
def fitsK (kind space:ByteArray) (k:GKey):Prop:=k.kind=kind∧(space=ByteArray.empty∨k.space=space)
def lessS (a b:ByteArray):Prop:=Lib.compareBytes a.data.toList b.data.toList<0
def ahead (a b:GObject):Prop:=lessS a.okey.space b.okey.space∨a.okey.space=b.okey.space∧lessS a.okey.name b.okey.name
def IsList (l:List GEvent) (kind space:ByteArray) (out:List GObject):Prop:=out.Pairwise ahead∧∀ o,o∈out↔fitsK kind space o.okey∧cur l o.okey=some o
def ListTold (S:St) (kind space:ByteArray) (rev:Int) (out:List GObject):Prop:=
 (listE S kind space rev≠0→out = [])∧(listE S kind space rev=0→IsList (S.log.take (timeT S rev)) kind space out)
def sinceE (S:St) (rev:Int):Int:=if rev<0∨(S.rev:Int)<rev then 1 else if rev<S.comp then 13 else 0
def sinceL (S:St) (rev:Int):List GEvent:=if sinceE S rev=0 then S.log.drop rev.toNat else []
end Sto
end Go.Proofs.YtnnceaapodgfbaaGreatDoor
namespace Go.Proofs.YtnnceaapodgfbaaGreatDoor
namespace Sto
open Go.RowKit Go.Maps Go.WideMaps
def keyV (k:GKey):Value:=.agg #[.string k.kind,.string k.space,.string k.name]
def keyL (k:GKey):Lit:=.string (keyBytes [.string k.kind.data.toList,.string k.space.data.toList,.string k.name.data.toList])
def okKey (k:GKey):Prop:=k.kind.size≤maxLen∧k.space.size≤maxLen∧k.name.size≤maxLen
theorem Tryz.laidOutK:laidOutB Tryz.prog=true:=by kernel_rfl
theorem keyRow:24<Tryz.prog.types.size:=of_decide_eq_true (by kernel_rfl)
theorem keyWide:(match Tryz.prog.underlying 24 with | some (.array _ _) | some (.struct _)=>true | _=>false)=true:=by kernel_rfl
set_option maxRecDepth 100000 in
theorem keyLaw:KeyLaw Tryz.prog 24:=deep_law_laid Tryz.laidOutK (m:=2) (by omega) keyRow (by kernel_rfl) keyWide
theorem keyIs:Tryz.prog.keyType 24=true:=by kernel_rfl
theorem keyCells:Tryz.prog.cellsOf 24=3:=by kernel_rfl
theorem strCells:Tryz.prog.cellsOf 9=1:=by kernel_rfl
section
variable {P : Program} {t K : TypeId}
theorem lits_str (hu:P.underlying t=some .string) (d:Nat) (c:Value):P.keyLits (d+1) t [c]=match c with
  | .string s=>if s.size≤maxLen then some [.string s.data.toList] else none
  | _=>none:=by
 simp only [Program.keyLits,hu]
 cases c<;>rfl
theorem lits_key {fs:Array Field} {f0 f1 f2:Field} (hu:P.underlying K=some (.struct fs)) (hf:fs=#[f0,f1,f2]) (h0:f0.type=t∧f0.offset=0∧(f0.name != "_")=true) (h1:f1.type=t∧f1.offset=1∧(f1.name != "_")=true) (h2:f2.type=t∧f2.offset=2∧(f2.name != "_")=true)
  (hK:P.cellsOf K=3) (ht:P.cellsOf t=1) (d:Nat) (c0 c1 c2:Value) :
  P.keyLits (d+1) K [c0,c1,c2]=((P.keyLits d t [c0]).bind fun a=>(P.keyLits d t [c1]).bind fun b=>(P.keyLits d t [c2]).map fun c=>a++b++c):=by
 subst hf
 obtain⟨a1,a2,a3⟩:=h0
 obtain⟨b1,b2,b3⟩:=h1
 obtain⟨e1,e2,e3⟩:=h2
 simp only [Program.keyLits,hu,hK]
 simp only [List.mapM_cons,List.mapM_nil,a1,a2,b1,b2,e1,e2,ht]
 have hall:(#[f0,f1,f2].all fun x=>x.name != "_")=true:=by simp [a3,b3,e3]
 rw [if_pos ⟨rfl,hall⟩]
 simp only [List.drop_zero,List.drop_succ_cons,List.take_succ_cons,List.take_zero]
 cases P.keyLits d t [c0] with
 | none=>rfl
 | some a=>
  cases P.keyLits d t [c1] with
  | none=>rfl
  | some b=>
   cases P.keyLits d t [c2] with
   | none=>rfl
   | some c=>simp
theorem formed_three {cs:Array Value} {fs:Array Field} (hu:P.underlying K=some (.struct fs)) (hK:P.cellsOf K=3):(Value.agg cs).formed P K=(cs.size == 3):=by
 unfold Value.formed
 rw [hu,hK]
theorem formed_not {v:Value} {fs:Array Field} (hu:P.underlying K=some (.struct fs)) (h:v.formed P K=true):∃ cs,v=.agg cs:=by
 cases v with
 | agg cs=>exact⟨cs,rfl⟩
 | _=>first | (unfold Value.formed at h;rw [hu] at h;cases h) | (unfold Value.formed at h;cases h)
theorem keyOf_three {v:Value} {fs:Array Field} (hu:P.underlying K=some (.struct fs)) (hk:P.keyType K=true):keyOf P K v=if v.formed P K=true then (P.keyLits (P.types.size+1) K v.cells.toList).map fun ls=>.string (keyBytes ls) else none:=by
 unfold keyOf
 rw [hu]
 dsimp only
 rw [hk,Bool.true_and]
end
theorem keyOf_is (v:Value):keyOf Tryz.prog 24 v=if v.formed Tryz.prog 24=true then (Tryz.prog.keyLits (Tryz.prog.types.size+1) 24 v.cells.toList).map fun ls=>.string (keyBytes ls) else none:=
 keyOf_three Tryz.underlying24 keyIs
theorem lits_is (d:Nat) (c0 c1 c2:Value):Tryz.prog.keyLits (d+1) 24 [c0,c1,c2]=((Tryz.prog.keyLits d 9 [c0]).bind fun a=>(Tryz.prog.keyLits d 9 [c1]).bind fun b=>(Tryz.prog.keyLits d 9 [c2]).map fun c=>a++b++c):=
 lits_key Tryz.underlying24 rfl ⟨rfl,rfl,by decide⟩ ⟨rfl,rfl,by decide⟩ ⟨rfl,rfl,by decide⟩ keyCells strCells d c0 c1 c2
theorem str_is (d:Nat) (c:Value):Tryz.prog.keyLits (d+1) 9 [c]=match c with
  | .string s=>if s.size≤maxLen then some [.string s.data.toList] else none
  | _=>none:=lits_str Tryz.underlying9 d c
theorem typesMany:∃ m,Tryz.prog.types.size=m+1:=⟨Tryz.prog.types.size - 1,by have:=keyRow;omega⟩
theorem keyOf_key {k:GKey} (h:okKey k):keyOf Tryz.prog 24 (keyV k)=some (keyL k):=by
 obtain⟨m,hm⟩:=typesMany
 rw [keyOf_is,hm]
 unfold keyV
 rw [formed_three Tryz.underlying24 keyCells,if_pos (show ((#[Value.string k.kind,Value.string k.space,Value.string k.name]:Array Value).size == 3)=true from rfl)]
 show (Tryz.prog.keyLits (m+1+1) _ [.string k.kind,.string k.space,.string k.name]).map _=_
 rw [lits_is,str_is,str_is,str_is]
 simp only [if_pos h.1,if_pos h.2.1,if_pos h.2.2]
 rfl
set_option maxRecDepth 100000 in
theorem keyOf_back {v:Value} {l:Lit} (h:keyOf Tryz.prog 24 v=some l):∃ k,okKey k∧v=keyV k∧l=keyL k:=by
 obtain⟨m,hm⟩:=typesMany
 rw [keyOf_is,hm] at h
 split at h
 ·rename_i hf
  obtain⟨cs,rfl⟩:=formed_not Tryz.underlying24 hf
  rw [formed_three Tryz.underlying24 keyCells] at hf
  obtain⟨l3⟩:=cs
  have hl:l3.length=3:=by simpa using hf
  match l3,hl with
  | [c0,c1,c2],_=>
   have h2:(Tryz.prog.keyLits (m+1+1) 24 [c0,c1,c2]).map (fun ls=>Lit.string (keyBytes ls))=some l:=h
   rw [lits_is,str_is,str_is,str_is] at h2
   cases c0 with
   | string a=>
    cases c1 with
    | string b=>
     cases c2 with
     | string c=>
      by_cases ha:a.size≤maxLen
      ·by_cases hb:b.size≤maxLen
       ·by_cases hc:c.size≤maxLen
        ·simp only [if_pos ha,if_pos hb,if_pos hc] at h2
         exact⟨⟨a,b,c⟩,⟨ha,hb,hc⟩,rfl,(Option.some.inj h2).symm⟩
        ·simp only [if_pos ha,if_pos hb,if_neg hc] at h2;cases h2
       ·simp only [if_pos ha,if_neg hb] at h2;cases h2
      ·simp only [if_neg ha] at h2;cases h2
     | _=>simp at h2
    | _=>simp at h2
   | _=>simp at h2
 ·cases h
theorem keyV_inj {a b:GKey} (h:keyV a=keyV b):a=b:=by
 unfold keyV at h
 injection h with h
 obtain⟨a1,a2,a3⟩:=a
 obtain⟨b1,b2,b3⟩:=b
 simp at h
 obtain⟨h1,h2,h3⟩:=h
 subst h1 h2 h3
 rfl
def keyC:KeyCode Tryz.prog 24 GKey:=⟨keyV,keyL,okKey,Keyed.of_law keyLaw,fun _ h=>keyOf_key h,keyOf_back,keyV_inj⟩
end Sto
end Go.Proofs.YtnnceaapodgfbaaGreatDoor
namespace Go.Proofs.YtnnceaapodgfbaaGreatDoor
namespace Sto
open Go.RowKit
open JP (Bs)
theorem hits_append (l m:List GEvent) (k:GKey):hits (l++m) k=hits l k++hits m k:=List.filter_append ..
def shown (e:GEvent):Option GObject:=if e.kind=3 then none else some e.object
theorem cur_snoc (l:List GEvent) (e:GEvent) (k:GKey):cur (l++[e]) k=if e.object.okey=k then shown e else cur l k:=by
 unfold cur shown
 rw [hits_append]
 by_cases h:e.object.okey=k
 ·have:hits [e] k = [e]:=by unfold hits;simp [h]
  rw [this,if_pos h];simp
 ·have:hits [e] k = []:=by unfold hits;simp [h]
  rw [this,if_neg h];simp
theorem cur_nil (k:GKey):cur [] k=none:=rfl
theorem live_snoc (l:List GEvent) (e:GEvent):live (l++[e])=live l+(if e.kind=1 then 1 else if e.kind=3 then -1 else 0):=by
 induction l with
 | nil=>rw [List.nil_append];unfold live;simp [live]
 | cons a r ih=>rw [List.cons_append];unfold live;rw [ih];omega
theorem take_snoc {α:Type} {l:List α} {i:Nat} {e:α} (h:l[i]? = some e):l.take (i+1)=l.take i++[e]:=by rw [List.take_add_one,h];rfl
theorem cur_key {l:List GEvent} {k:GKey} {o:GObject} (h:cur l k=some o):o.okey=k:=by
 unfold cur at h
 cases hg:(hits l k).getLast? with
 | none=>rw [hg] at h;cases h
 | some e=>
  rw [hg] at h
  dsimp only at h
  split at h
  ·cases h
  ·cases h
   have:=List.mem_of_getLast? hg
   unfold hits at this
   exact of_decide_eq_true (List.mem_filter.1 this).2
def Step (l:List GEvent) (e:GEvent):Prop:=
 e.rev=(l.length:Int)+1∧e.object.rev=(l.length:Int)+1∧
 ((e.kind=1∧cur l e.object.okey=none∧e.object.uid=uidOf (l.length+1))∨((e.kind=2∨e.kind=3)∧∃ o,cur l e.object.okey=some o∧e.object.uid=o.uid))
structure Good (S:St):Prop where
 step:∀ i e,S.log[i]? = some e→Step (S.log.take i) e
 full:live S.log≤60
 comp:0≤S.comp∧S.comp≤(S.rev:Int)
def St0:St:=⟨[],0⟩
theorem good0:Good St0:=⟨fun i e h=>by simp [St0] at h,by decide,by decide,by decide⟩
theorem good_put {S:St} (h:Good S) {kind:Int} {o:GObject} (hk:(kind=1∧cur S.log o.okey=none∧live S.log≠60)∨((kind=2∨kind=3)∧∃ p,cur S.log o.okey=some p∧o.uid=p.uid)):Good (put S kind o):=by
 obtain⟨h1,h2,h3⟩:=h
 refine⟨fun i e he=>?_,?_,?_⟩
 ·unfold put at he ⊢
  dsimp only at he ⊢
  by_cases hi:i<S.log.length
  ·rw [List.getElem?_append_left hi] at he
   rw [List.take_append_of_le_length (by omega)]
   exact h1 i e he
  ·have hl:=(List.getElem?_eq_some_iff.1 he).1
   rw [List.length_append,List.length_singleton] at hl
   have hi2:i=S.log.length:=by omega
   subst hi2
   rw [List.getElem?_append_right (Nat.le_refl _),Nat.sub_self] at he
   cases he
   rw [List.take_append_of_le_length (Nat.le_refl _),List.take_length]
   refine⟨rfl,by unfold putO St.rev;push_cast;rfl,?_⟩
   unfold putO
   rcases hk with ⟨rfl,g1,_⟩ | ⟨g1,p,g2,g3⟩
   ·exact .inl ⟨rfl,g1,by simp;rfl⟩
   ·refine .inr ⟨g1,p,g2,?_⟩
    have hne:¬kind=1:=by omega
    simp [hne,g3]
 ·unfold put
  dsimp only
  rw [live_snoc]
  dsimp only
  rcases hk with ⟨rfl,_,g⟩ | ⟨g1,_⟩
  ·rw [if_pos rfl];omega
  ·have hne:¬kind=1:=by omega
   rw [if_neg hne]
   split<;>omega
 ·refine⟨h3.1,Int.le_trans h3.2 ?_⟩
  unfold put St.rev
  dsimp only
  rw [List.length_append]
  omega
theorem create_cases (S:St) (o:GObject):((create S o).1=S∧(create S o).2.1=noObj∧(create S o).2.2≠0)∨(create S o=doPut S 1 {keptO o with ending:=false}∧objE o=0∧cur S.log o.okey=none∧live S.log≠60):=by
 unfold create
 by_cases h1:objE o≠0
 ·rw [if_pos h1];exact .inl ⟨rfl,rfl,h1⟩
 ·rw [if_neg h1]
  by_cases h2:(cur S.log o.okey).isSome=true
  ·rw [if_pos h2];exact .inl ⟨rfl,rfl,by show (5:Int)≠0;decide⟩
  ·rw [if_neg h2]
   by_cases h3:live S.log=60
   ·rw [if_pos h3];exact .inl ⟨rfl,rfl,by show (22:Int)≠0;decide⟩
   ·rw [if_neg h3]
    exact .inr ⟨rfl,Classical.not_not.1 h1,by cases hc:cur S.log o.okey with
     | none=>rfl
     | some x=>rw [hc] at h2;exact absurd rfl h2,h3⟩
theorem update_cases (S:St) (o:GObject):((update S o).1=S∧(update S o).2.1=noObj∧(update S o).2.2≠0)∨∃ was,update S o=doPut S 2 {keptO o with uid:=was.uid}∧objE o=0∧cur S.log o.okey=some was∧o.rev=was.rev∧(was.ending=true→o.ending=true):=by
 unfold update
 by_cases h1:objE o≠0
 ·rw [if_pos h1];exact .inl ⟨rfl,rfl,h1⟩
 ·rw [if_neg h1]
  cases hc:cur S.log o.okey with
  | none=>exact .inl ⟨rfl,rfl,by show (7:Int)≠0;decide⟩
  | some was=>
   dsimp only
   by_cases h2:o.rev≠was.rev
   ·rw [if_pos h2];exact .inl ⟨rfl,rfl,by show (12:Int)≠0;decide⟩
   ·rw [if_neg h2]
    by_cases h3:was.ending=true∧o.ending=false
    ·rw [if_pos h3];exact .inl ⟨rfl,rfl,by show (1:Int)≠0;decide⟩
    ·rw [if_neg h3]
     exact .inr ⟨was,rfl,Classical.not_not.1 h1,rfl,Classical.not_not.1 h2,fun h=>by
      cases he:o.ending with
      | true=>rfl
      | false=>exact absurd ⟨h,he⟩ h3⟩
theorem remove_cases (S:St) (k:GKey) (rev:Int):((remove S k rev).1=S∧(remove S k rev).2.1=noObj∧(remove S k rev).2.2≠0)∨∃ was,remove S k rev=doPut S 3 was∧cur S.log k=some was:=by
 unfold remove
 by_cases h1:keyK k≠0
 ·rw [if_pos h1];exact .inl ⟨rfl,rfl,h1⟩
 ·rw [if_neg h1]
  cases hc:cur S.log k with
  | none=>exact .inl ⟨rfl,rfl,by show (7:Int)≠0;decide⟩
  | some was=>
   dsimp only
   by_cases h2:rev≠0∧rev≠was.rev
   ·rw [if_pos h2];exact .inl ⟨rfl,rfl,by show (12:Int)≠0;decide⟩
   ·rw [if_neg h2];exact .inr ⟨was,rfl,rfl⟩
theorem good_create {S:St} (h:Good S) (o:GObject):Good (create S o).1:=by
 rcases create_cases S o with ⟨e,_⟩ | ⟨e,_,g1,g2⟩
 ·rw [e];exact h
 ·rw [e];exact good_put h (.inl ⟨rfl,g1,g2⟩)
theorem good_update {S:St} (h:Good S) (o:GObject):Good (update S o).1:=by
 rcases update_cases S o with ⟨e,_⟩ | ⟨was,e,_,g1,_⟩
 ·rw [e];exact h
 ·rw [e];exact good_put h (.inr ⟨.inl rfl,was,g1,rfl⟩)
theorem good_remove {S:St} (h:Good S) (k:GKey) (rev:Int):Good (remove S k rev).1:=by
 rcases remove_cases S k rev with ⟨e,_⟩ | ⟨was,e,g1⟩
 ·rw [e];exact h
 ·rw [e];exact good_put h (.inr ⟨.inr rfl,was,by rw [cur_key g1];exact g1,rfl⟩)
theorem good_compact {S:St} (h:Good S) (rev:Int):Good (compact S rev):=by
 unfold compact
 by_cases hc:compactE S rev=0
 ·rw [if_pos hc]
  unfold compactE at hc
  have:¬((S.rev:Int)<rev∨rev<S.comp):=fun h9=>by rw [if_pos h9] at hc;cases hc
  refine⟨h.step,h.full,?_,?_⟩
  ·show 0≤rev;have:=h.comp.1;omega
  ·show rev≤(S.rev:Int);omega
 ·rw [if_neg hc];exact h
theorem good_do {S:St} (h:Good S) (x:GStoreStep):Good (doS S x).1:=by
 unfold doS
 split
 ·exact good_create h _
 ·split
  ·exact good_update h _
  ·split
   ·exact good_remove h _ _
   ·exact good_compact h _
theorem grow_compact (S:St) (rev:Int):(compact S rev).log=S.log:=by unfold compact;split<;>rfl
theorem rev_do (S:St) (x:GStoreStep):S.rev≤(doS S x).1.rev∧(doS S x).1.rev≤S.rev+1:=by
 have hp:∀ kind o,(put S kind o).rev=S.rev+1:=fun kind o=>by unfold put St.rev;dsimp only;rw [List.length_append];rfl
 unfold doS
 split
 ·rcases create_cases S x.o with ⟨e,_⟩ | ⟨e,_⟩
  ·rw [e];omega
  ·rw [e];unfold doPut;rw [hp];omega
 ·split
  ·rcases update_cases S x.o with ⟨e,_⟩ | ⟨was,e,_⟩
   ·rw [e];omega
   ·rw [e];unfold doPut;rw [hp];omega
  ·split
   ·rcases remove_cases S x.o.okey x.rev with ⟨e,_⟩ | ⟨was,e,_⟩
    ·rw [e];omega
    ·rw [e];unfold doPut;rw [hp];omega
   ·dsimp only
    unfold St.rev
    rw [grow_compact];omega
theorem rev_run (S:St) (l:List GStoreStep):(run S l).rev≤S.rev+l.length:=by
 induction l generalizing S with
 | nil=>exact Nat.le_refl _
 | cons x r ih=>
  have h1:=rev_do S x
  have h2:=ih (doS S x).1
  show (run (doS S x).1 r).rev≤_
  rw [List.length_cons];omega
end Sto
end Go.Proofs.YtnnceaapodgfbaaGreatDoor
namespace Go.Proofs.YtnnceaapodgfbaaGreatDoor
open Go.RowKit
theorem flat_label:Flat LabelR:=fun _ _ _ _ h=>h
theorem one_label:OneR LabelR:=fun _ _ _ h u hu=>by rw [h] at hu;simp at hu;rcases hu with rfl | rfl<;>rfl
theorem Tryz.infoLabel:(Tryz.prog.info? 66).map (fun i=>(i.zero,i.size,i.bytes))=some (some (.agg #[.string ByteArray.empty,.string ByteArray.empty]),2,32):=by kernel_rfl
set_option maxRecDepth 100000 in
theorem cloneStrs_any (v:Value) (l:List ByteArray) (w:World) (h:StrAt w v l) (hl:l.length≤1073741824) :
  Calls Tryz.prog 78 #[v] w fun e w'=>∃ v',e=.returned v'∧OwnAt RString 1 w' w.heap.size 9 v' l∧Below w.heap.size w w':=by
 obtain⟨i0,hi0,hz0,hz1,hz2⟩:=info_parts Tryz.infoStr
 have hrow:=h.row
 have hn:=fun (w:World) (a:Option Addr) (n c:Nat)=>Lib.run_eql_slice_nil (P:=Tryz.prog) w 28 9 a n c 0 0 Tryz.underlying28
 rcases h with ⟨rfl,rfl⟩ | ⟨a,c,rfl,_,_,_⟩
 ·go_enter Tryz.func78,Tryz.ntmps78
  go_wp2_with fail
  go_ret
  exact⟨_,rfl,OwnAt.nil _,Below.refl _ _⟩
 ·have Hrow:=Lib.hid hrow
  clear hrow
  go_enter Tryz.func78,Tryz.ntmps78
  go_wp2_with (at_builtin;refine wpList_append_ownAt (R:=RString) (k:=1) (e:=9) (B:=w.heap.size) (l:=[]) (m:=l) _ (by rfl) _ _ _ (by rfl) i0 _ 16 Tryz.underlying28 hi0 hz0 hz1 hz2 rfl (by omega) flat_string one_string _ (by rfl) (own_empty w 1 _ (Nat.le_refl _)) _ (by rfl) (Hrow.out.below stays_string ((Below.refl _ _).alloc (Nat.le_refl _) _)) (by unfold maxLen;simp;omega) (by simp;omega) (by simp) ?_)
  intro v' w' hv' hg hr _
  have hb:Below w.heap.size w w':=below_of_grown ((Below.refl _ _).alloc (Nat.le_refl _) _) (by simp) hg hr
  go_wp2_with fail
  go_ret
  exact⟨_,rfl,by simpa using hv',hb⟩
set_option maxRecDepth 100000 in
theorem cloneLabels_any (v:Value) (l:List GLabel) (w:World) (h:RowAt LabelR 2 w v l) (hl:l.length≤1073741824) :
  Calls Tryz.prog 93 #[v] w fun e w'=>∃ v',e=.returned v'∧OwnAt LabelR 2 w' w.heap.size 66 v' l∧Below w.heap.size w w':=by
 obtain⟨i0,hi0,hz0,hz1,hz2⟩:=info_parts Tryz.infoLabel
 have hrow:=h
 have hn:=fun (w:World) (a:Option Addr) (n c:Nat)=>Lib.run_eql_slice_nil (P:=Tryz.prog) w 27 66 a n c 0 0 Tryz.underlying27
 rcases h with ⟨rfl,rfl⟩ | ⟨a,c,rfl,_,_,_⟩
 ·go_enter Tryz.func93,Tryz.ntmps93
  go_wp2_with fail
  go_ret
  exact⟨_,rfl,OwnAt.nil _,Below.refl _ _⟩
 ·have Hrow:=Lib.hid hrow
  clear hrow
  go_enter Tryz.func93,Tryz.ntmps93
  go_wp2_with (at_builtin;refine wpList_append_ownAt (R:=LabelR) (k:=2) (e:=66) (B:=w.heap.size) (l:=[]) (m:=l) _ (by rfl) _ _ _ (by rfl) i0 _ 32 Tryz.underlying27 hi0 hz0 hz1 hz2 rfl (by omega) flat_label one_label _ (by rfl) (own_empty w 2 _ (Nat.le_refl _)) _ (by rfl) (Hrow.out.below stays_label ((Below.refl _ _).alloc (Nat.le_refl _) _)) (by unfold maxLen;simp;omega) (by simp;omega) (by simp) ?_)
  intro v' w' hv' hg hr _
  have hb:Below w.heap.size w w':=below_of_grown ((Below.refl _ _).alloc (Nat.le_refl _) _) (by simp) hg hr
  go_wp2_with fail
  go_ret
  exact⟨_,rfl,by simpa using hv',hb⟩
end Go.Proofs.YtnnceaapodgfbaaGreatDoor
namespace Go.Proofs.YtnnceaapodgfbaaGreatDoor
open Go.RowKit
def objV (k:GKey) (vl vo vh:Value) (e:Bool) (u:ByteArray) (r:Int) (d:ByteArray):Value:=
 .agg #[.string k.kind,.string k.space,.string k.name,vl,vo,vh,.bool e,.string u,.int .i64 r,.string d]
set_option maxRecDepth 100000 in
set_option maxHeartbeats 800000 in
theorem storeCopy_any (k:GKey) (vl vo vh:Value) (e:Bool) (u:ByteArray) (r:Int) (d:ByteArray) (labels:List GLabel) (owners holds:List ByteArray) (w:World)
  (hl:RowAt LabelR 2 w vl labels) (ho:StrAt w vo owners) (hh:StrAt w vh holds) (bl:labels.length≤1073741824) (bo:owners.length≤1073741824) (bh:holds.length≤1073741824) :
  Calls Tryz.prog 65 #[objV k vl vo vh e u r d] w fun E w'=>∃ vl' vo' vh',E=.returned (objV k vl' vo' vh' e u r d)∧
   OwnAt LabelR 2 w' w.heap.size 66 vl' labels∧OwnAt RString 1 w' w.heap.size 9 vo' owners∧OwnAt RString 1 w' w.heap.size 9 vh' holds∧(∀ g,vh'.ownBlock=some g→vo'.ownBlock≠some g)∧Below w.heap.size w w':=by
 unfold objV
 have Hl:=Lib.hid hl
 have Ho:=Lib.hid ho
 have Hh:=Lib.hid hh
 clear hl ho hh
 go_enter Tryz.func65,Tryz.ntmps65
 go_wp2_with fail
 have hWb:Below w.heap.size w ((w.alloc (.cells #[.string k.kind,.string k.space,.string k.name,vl,vo,vh,.bool e,.string u,.int .i64 r,.string d] 30)).alloc (.cells #[.string {data:=#[]},.string {data:=#[]},.string {data:=#[]},.slice none 0 0,.slice none 0 0,.slice none 0 0,.bool false,.string {data:=#[]},.int .i64 0,.string {data:=#[]}] 30)):=
  ((Below.refl _ _).alloc (Nat.le_refl _) _).alloc (by simp) _
 generalize hW:World.alloc (World.alloc _ _) _=W at hWb
 have hWs:W.heap.size=w.heap.size+2:=by rw [←hW];simp
 have c0:W.heap[w.heap.size]? = some (.cells #[.string k.kind,.string k.space,.string k.name,vl,vo,vh,.bool e,.string u,.int .i64 r,.string d] 30 (0,0)):=by rw [←hW];exact heap_alloc_old (heap_alloc_at rfl)
 have c1:W.heap[w.heap.size+1]? = some (.cells #[.string {data:=#[]},.string {data:=#[]},.string {data:=#[]},.slice none 0 0,.slice none 0 0,.slice none 0 0,.bool false,.string {data:=#[]},.int .i64 0,.string {data:=#[]}] 30 (0,0)):=by rw [←hW];exact heap_alloc_at (by simp)
 clear hW
 refine wp_region_relB 10 (fun i u w'=>match i with
  | 0=>u 0=.pointer (some ⟨w.heap.size,3,none⟩) | 1=>u 1=vl | 2=>OwnAt LabelR 2 w' (w.heap.size+2) 66 (u 2) labels
  | 3=>u 3=.pointer (some ⟨w.heap.size,4,none⟩) | 4=>u 4=vo | 5=>OwnAt RString 1 w' (w.heap.size+2) 9 (u 5) owners
  | 6=>u 6=.pointer (some ⟨w.heap.size,5,none⟩) | 7=>u 7=vh | 8=>OwnAt RString 1 w' (w.heap.size+2) 9 (u 8) holds∧∀ g,(u 8).ownBlock=some g→(u 5).ownBlock≠some g
  | 9=>u 9=.pointer (some ⟨w.heap.size,3,none⟩) | _=>True)
  (fun | 1=>[0] | 2=>[1] | 4=>[3] | 5=>[4] | 7=>[6] | 8=>[7,5] | _=>[]) (by kernel_rfl) (by kernel_rfl) ?_ ⟨?_,?_,?_,?_,?_,?_,?_,?_,?_,?_,trivial⟩ ?_
 ·intro j v w1 w2 hb h
  match j,h with
  | 0,h=>exact h
  | 1,h=>exact h
  | 2,h=>exact OwnAt.below stays_label h hb
  | 3,h=>exact h
  | 4,h=>exact h
  | 5,h=>exact OwnAt.below stays_string h hb
  | 6,h=>exact h
  | 7,h=>exact h
  | 8,h=>exact⟨OwnAt.below stays_string h.1 hb,h.2⟩
  | 9,h=>exact h
  | _+10,h=>trivial
 ·intro x w' hb hd
  refine owes_here (.pointer (some ⟨w.heap.size,3,none⟩)) (by rfl) ?_ rfl
  simp only [putAll,List.take_succ_cons,List.take_zero]
  go_simp
 ·intro x w' hb hd
  have h0:x 0=.pointer (some ⟨w.heap.size,3,none⟩):=hd 0 (by simp)
  have d0:=(hb.block w.heap.size (by show w.heap.size<W.heap.size;omega)).trans c0
  refine owes_here vl (by rfl) ?_ rfl
  simp only [putAll,List.take_succ_cons,List.take_zero]
  have e3:=cell_block d0 3
  go_simp
 ·intro x w' hb hd
  have h0:x 1=vl:=hd 1 (by simp)
  have hb2:Below w.heap.size w w':=hWb.drew.trans (hb.mono (by show w.heap.size≤W.heap.size;omega))
  refine owes_call 93 #[vl] (by rfl) ?_ ((cloneLabels_any _ _ w' (Hl.out.below stays_label hb2) (by omega)).mono ?_)
  ·simp only [putAll,List.take_succ_cons,List.take_zero]
   go_simp
  ·rintro _ w2 ⟨v2,rfl,ho,hb3⟩
   exact⟨v2,rfl,ho.mono (by have h9:W.heap.size≤w'.heap.size:=hb.size;omega),hb3⟩
 ·intro x w' hb hd
  refine owes_here (.pointer (some ⟨w.heap.size,4,none⟩)) (by rfl) ?_ rfl
  simp only [putAll,List.take_succ_cons,List.take_zero]
  go_simp
 ·intro x w' hb hd
  have h0:x 3=.pointer (some ⟨w.heap.size,4,none⟩):=hd 3 (by simp)
  have d0:=(hb.block w.heap.size (by show w.heap.size<W.heap.size;omega)).trans c0
  refine owes_here vo (by rfl) ?_ rfl
  simp only [putAll,List.take_succ_cons,List.take_zero]
  have e3:=cell_block d0 4
  go_simp
 ·intro x w' hb hd
  have h0:x 4=vo:=hd 4 (by simp)
  have hb2:Below w.heap.size w w':=hWb.drew.trans (hb.mono (by show w.heap.size≤W.heap.size;omega))
  refine owes_call 78 #[vo] (by rfl) ?_ ((cloneStrs_any _ _ w' (Ho.out.below hb2) (by omega)).mono ?_)
  ·simp only [putAll,List.take_succ_cons,List.take_zero]
   go_simp
  ·rintro _ w2 ⟨v2,rfl,ho,hb3⟩
   exact⟨v2,rfl,ho.mono (by have h9:W.heap.size≤w'.heap.size:=hb.size;omega),hb3⟩
 ·intro x w' hb hd
  refine owes_here (.pointer (some ⟨w.heap.size,5,none⟩)) (by rfl) ?_ rfl
  simp only [putAll,List.take_succ_cons,List.take_zero]
  go_simp
 ·intro x w' hb hd
  have h0:x 6=.pointer (some ⟨w.heap.size,5,none⟩):=hd 6 (by simp)
  have d0:=(hb.block w.heap.size (by show w.heap.size<W.heap.size;omega)).trans c0
  refine owes_here vh (by rfl) ?_ rfl
  simp only [putAll,List.take_succ_cons,List.take_zero]
  have e3:=cell_block d0 5
  go_simp
 ·intro x w' hb hd
  have h0:x 7=vh:=hd 7 (by simp)
  have h5:OwnAt RString 1 w' (w.heap.size+2) 9 (x 5) owners:=hd 5 (by simp)
  have hb2:Below w.heap.size w w':=hWb.drew.trans (hb.mono (by show w.heap.size≤W.heap.size;omega))
  refine owes_call 78 #[vh] (by rfl) ?_ ((cloneStrs_any _ _ w' (Hh.out.below hb2) (by omega)).mono ?_)
  ·simp only [putAll,List.take_succ_cons,List.take_zero]
   go_simp
  ·rintro _ w2 ⟨v2,rfl,ho,hb3⟩
   exact⟨v2,rfl,⟨ho.mono (by have h9:W.heap.size≤w'.heap.size:=hb.size;omega),fun g hg h5g=>absurd (h5.at h5g).2.1 (by have:=(ho.at hg).1;omega)⟩,hb3⟩
 ·intro x w' hb hd
  refine owes_here (.pointer (some ⟨w.heap.size,3,none⟩)) (by rfl) ?_ rfl
  simp only [putAll,List.take_succ_cons,List.take_zero]
  go_simp
 ·intro x w' hb hR
  have h2:OwnAt LabelR 2 w' (w.heap.size+2) 66 (x 2) labels:=hR 2 (by omega)
  have h5:OwnAt RString 1 w' (w.heap.size+2) 9 (x 5) owners:=hR 5 (by omega)
  obtain⟨h8,h85⟩:OwnAt RString 1 w' (w.heap.size+2) 9 (x 8) holds∧∀ g,(x 8).ownBlock=some g→(x 5).ownBlock≠some g:=hR 8 (by omega)
  have h9:x 9=.pointer (some ⟨w.heap.size,3,none⟩):=hR 9 (by omega)
  have d0:=(hb.block w.heap.size (by show w.heap.size<W.heap.size;omega)).trans c0
  have d1:=(hb.block (w.heap.size+1) (by show w.heap.size+1<W.heap.size;omega)).trans c1
  have hb2:Below w.heap.size w w':=hWb.drew.trans (hb.mono (by show w.heap.size≤W.heap.size;omega))
  obtain⟨a2,q2,e2,_,_⟩:=h2.row.len
  obtain⟨a5,q5,e5,_,_⟩:=h5.row.len
  obtain⟨a8,q8,e8,_,_⟩:=h8.row.len
  rw [e2] at h2
  rw [e5] at h5
  rw [e8] at h8
  rw [e8,e5] at h85
  have H85:=Lib.hid h85
  have H2:=Lib.hid h2
  have H5:=Lib.hid h5
  have H8:=Lib.hid h8
  have Hd0:=Lib.hid d0
  have Hd1:=Lib.hid d1
  clear hR h2 h5 h8 h85 hb d0 d1 c0 c1
  have f0:w'.cell? ⟨w.heap.size,0,none⟩=some (.string k.kind):=cell_block Hd0.out 0
  have f1:w'.cell? ⟨w.heap.size,1,none⟩=some (.string k.space):=cell_block Hd0.out 1
  have f2:w'.cell? ⟨w.heap.size,2,none⟩=some (.string k.name):=cell_block Hd0.out 2
  have f3:w'.cell? ⟨w.heap.size,3,none⟩=some (vl):=cell_block Hd0.out 3
  have f4:w'.cell? ⟨w.heap.size,4,none⟩=some (vo):=cell_block Hd0.out 4
  have f5:w'.cell? ⟨w.heap.size,5,none⟩=some (vh):=cell_block Hd0.out 5
  have f6:w'.cell? ⟨w.heap.size,6,none⟩=some (.bool e):=cell_block Hd0.out 6
  have f7:w'.cell? ⟨w.heap.size,7,none⟩=some (.string u):=cell_block Hd0.out 7
  have f8:w'.cell? ⟨w.heap.size,8,none⟩=some (.int .i64 r):=cell_block Hd0.out 8
  have f9:w'.cell? ⟨w.heap.size,9,none⟩=some (.string d):=cell_block Hd0.out 9
  have g3:w'.frozen? ⟨w.heap.size,3,none⟩=false:=free_block Hd0.out 3
  have g4:w'.frozen? ⟨w.heap.size,4,none⟩=false:=free_block Hd0.out 4
  have g5:w'.frozen? ⟨w.heap.size,5,none⟩=false:=free_block Hd0.out 5
  have pc0:w'.cell? ⟨w.heap.size+1,0,none⟩=some (.string {data:=#[]}):=cell_block Hd1.out 0
  have pf0:w'.frozen? ⟨w.heap.size+1,0,none⟩=false:=free_block Hd1.out 0
  have pc1:w'.cell? ⟨w.heap.size+1,1,none⟩=some (.string {data:=#[]}):=cell_block Hd1.out 1
  have pf1:w'.frozen? ⟨w.heap.size+1,1,none⟩=false:=free_block Hd1.out 1
  have pc2:w'.cell? ⟨w.heap.size+1,2,none⟩=some (.string {data:=#[]}):=cell_block Hd1.out 2
  have pf2:w'.frozen? ⟨w.heap.size+1,2,none⟩=false:=free_block Hd1.out 2
  have pc3:w'.cell? ⟨w.heap.size+1,3,none⟩=some (.slice none 0 0):=cell_block Hd1.out 3
  have pf3:w'.frozen? ⟨w.heap.size+1,3,none⟩=false:=free_block Hd1.out 3
  have pc4:w'.cell? ⟨w.heap.size+1,4,none⟩=some (.slice none 0 0):=cell_block Hd1.out 4
  have pf4:w'.frozen? ⟨w.heap.size+1,4,none⟩=false:=free_block Hd1.out 4
  have pc5:w'.cell? ⟨w.heap.size+1,5,none⟩=some (.slice none 0 0):=cell_block Hd1.out 5
  have pf5:w'.frozen? ⟨w.heap.size+1,5,none⟩=false:=free_block Hd1.out 5
  have pc6:w'.cell? ⟨w.heap.size+1,6,none⟩=some (.bool false):=cell_block Hd1.out 6
  have pf6:w'.frozen? ⟨w.heap.size+1,6,none⟩=false:=free_block Hd1.out 6
  have pc7:w'.cell? ⟨w.heap.size+1,7,none⟩=some (.string {data:=#[]}):=cell_block Hd1.out 7
  have pf7:w'.frozen? ⟨w.heap.size+1,7,none⟩=false:=free_block Hd1.out 7
  have pc8:w'.cell? ⟨w.heap.size+1,8,none⟩=some (.int .i64 0):=cell_block Hd1.out 8
  have pf8:w'.frozen? ⟨w.heap.size+1,8,none⟩=false:=free_block Hd1.out 8
  have pc9:w'.cell? ⟨w.heap.size+1,9,none⟩=some (.string {data:=#[]}):=cell_block Hd1.out 9
  have pf9:w'.frozen? ⟨w.heap.size+1,9,none⟩=false:=free_block Hd1.out 9
  simp only [putAll,List.take_succ_cons,List.take_zero,List.drop_succ_cons,List.drop_zero]
  go_wp2_with fail
  refine bodyPost_ret (v:=.agg #[.string k.kind,.string k.space,.string k.name,.slice a2 labels.length q2,.slice a5 owners.length q5,.slice a8 holds.length q8,.bool e,.string u,.int .i64 r,.string d]) ?_ rfl ⟨_,_,_,rfl,?_,?_,?_,H85.out,?_⟩
  ·simp [results,Tryz.results65,go_sem,pc0,pc1,pc2,pc3,pc4,pc5,pc6,pc7,pc8,pc9]
  ·have h:=H2.out
   iterate 13 refine OwnAt.mono (OwnAt.setLow flat_label (B:=w.heap.size+2) ?_ (by simp) _) (by omega)
   exact h
  ·have h:=H5.out
   iterate 13 refine OwnAt.mono (OwnAt.setLow flat_string (B:=w.heap.size+2) ?_ (by simp) _) (by omega)
   exact h
  ·have h:=H8.out
   iterate 13 refine OwnAt.mono (OwnAt.setLow flat_string (B:=w.heap.size+2) ?_ (by simp) _) (by omega)
   exact h
  ·iterate 13 refine Below.setCell ?_ (by simp) _
   exact hb2
end Go.Proofs.YtnnceaapodgfbaaGreatDoor
namespace Go.Proofs.YtnnceaapodgfbaaGreatDoor
open Go.RowKit
abbrev Dom:=Nat→Prop
def Agree (D:Dom) (w w':World):Prop:=∀ b,D b→w'.heap[b]? = w.heap[b]?
theorem Agree.mono {D D':Dom} {w w':World} (h:Agree D w w') (hd:∀ b,D' b→D b):Agree D' w w':=fun b hb=>h b (hd b hb)
structure Only (D:Dom) (w w':World):Prop where
 os:w'.os=w.os
 tape:w'.tape=w.tape
 output:w'.output=w.output
 size:w.heap.size≤w'.heap.size
 block:∀ k,k<w.heap.size→¬D k→w'.heap[k]? = w.heap[k]?
section
variable {D D' E : Dom} {a w w' w'' : World}
theorem Only.refl (D:Dom) (w:World):Only D w w:=⟨rfl,rfl,rfl,Nat.le_refl _,fun _ _ _=>rfl⟩
theorem Only.trans (h:Only D w w') (k:Only D' w' w'') (hd:∀ b,D' b→b<w.heap.size→D b):Only D w w'':=
 ⟨k.os.trans h.os,k.tape.trans h.tape,k.output.trans h.output,Nat.le_trans h.size k.size,fun q hq hn=>(k.block q (Nat.lt_of_lt_of_le hq h.size) fun h9=>hn (hd q h9 hq)).trans (h.block q hq hn)⟩
theorem Only.of (h:Below w.heap.size w w'):Only D w w':=⟨h.os,h.tape,h.output,h.size,fun k hk _=>h.block k hk⟩
theorem Only.mono (h:Only D w w') (hd:∀ b,D b→D' b):Only D' w w':=⟨h.os,h.tape,h.output,h.size,fun k hk hn=>h.block k hk fun h9=>hn (hd k h9)⟩
theorem Only.then (h:Only D w w') (hb:Below w'.heap.size w' w''):Only D w w'':=
 ⟨hb.os.trans h.os,hb.tape.trans h.tape,hb.output.trans h.output,Nat.le_trans h.size hb.size,fun k hk hn=>(hb.block k (Nat.lt_of_lt_of_le hk h.size)).trans (h.block k hk hn)⟩
theorem Only.after (hb:Below w.heap.size w w') (h:Only D w' w''):Only D w w'':=
 ⟨h.os.trans hb.os,h.tape.trans hb.tape,h.output.trans hb.output,Nat.le_trans hb.size h.size,fun k hk hn=>(h.block k (Nat.lt_of_lt_of_le hk hb.size) hn).trans (hb.block k hk)⟩
theorem Only.touch {g:Nat} (h:Touch g w w') (hg:D g):Only D w w':=⟨h.os,h.tape,h.output,by rw [h.size];exact Nat.le_refl _,fun k _ hn=>h.other k fun e=>hn (e▸hg)⟩
theorem Only.but {g:Nat} (h:But g w w') (hg:D g):Only D w w':=⟨h.os,h.tape,h.output,h.size,fun k hk hn=>h.block k hk fun e=>hn (e▸hg)⟩
theorem Only.grown {r:Option Nat} (h:w.grownBy w' r) (hg:∀ g,r=some g→D g):Only D w w':=⟨h.os,h.tape,h.output,h.size,fun k hk hn=>h.block k hk fun e=>hn (hg k e.symm)⟩
theorem turned_size {b:Nat} (h:w.mapTurned w' b):w'.heap.size=w.heap.size:=by
 obtain⟨es,clock,es',clock',hb,rfl⟩:=h
 simp [ChangeMaps.setBlock]
theorem Only.turned {b:Nat} (h:w.mapTurned w' b) (hg:D b):Only D w w':=by
 have hs:=turned_size h
 obtain⟨es,clock,es',clock',hb,rfl⟩:=h
 exact⟨rfl,rfl,rfl,by rw [hs];exact Nat.le_refl _,fun k _ hn=>ChangeMaps.heap_setBlock_other hb _ fun e=>hn (e▸hg)⟩
theorem Only.agree (h:Only D w w') (hE:∀ b,E b→b<w.heap.size∧¬D b):Agree E w w':=fun b hb=>h.block b (hE b hb).1 (hE b hb).2
theorem Only.below {B:Nat} (h:Only D w w') (hd:∀ b,D b→B≤b) (hB:B≤w.heap.size):Below B w w':=
 ⟨h.os,h.tape,h.output,h.size,fun k hk=>h.block k (by omega) fun h9=>by have:=hd k h9;omega⟩
end
structure Fam {α:Type} (X:Dom→World→Rd α):Prop where
 flat:∀ D w,Flat (X D w)
 one:∀ D w,OneR (X D w)
 agree:∀ (D:Dom) (w w' u:World) (cs:List Value) (x:α),Agree D w w'→X D w u cs x→X D w' u cs x
 mono:∀ (D D':Dom) (w u:World) (cs:List Value) (x:α),(∀ b,D b→D' b)→X D w u cs x→X D' w u cs x
theorem fam_flat {α:Type} {R:Rd α} (h:Flat R) (h1:OneR R):Fam (fun _ _=>R):=⟨fun _ _=>h,fun _ _=>h1,fun _ _ _ _ _ _ _ h=>h,fun _ _ _ _ _ _ _ h=>h⟩
def OwnX {α:Type} (X:Dom→World→Rd α) (k:Nat) (D:Dom) (w:World) (e:TypeId) (v:Value) (l:List α):Prop:=
 OwnAt (X D w) k w 0 e v l∧∀ b,v.ownBlock=some b→D b
section
variable {α β : Type} {X : Dom → World → Rd α} {k : Nat} {D D' : Dom} {w w' : World} {e : TypeId} {v : Value} {l : List α}
theorem OwnAt.imp' {R R':Rd α} {B:Nat} (h:OwnAt R k w B e v l) (hi:∀ cs x,x∈l→R w cs x→R' w cs x):OwnAt R' k w B e v l:=by
 obtain⟨css,h1,h2,h3,h4⟩:=h
 exact⟨css,h1,h2,h3,fun j cs x hcs hx=>hi cs x (List.mem_of_getElem? hx) (h4 j cs x hcs hx)⟩
theorem OwnAt.stay {R:Rd α} {B:Nat} (hf:Flat R) (h:OwnAt R k w B e v l) (hb:∀ b,v.ownBlock=some b→w'.heap[b]? = w.heap[b]?):OwnAt R k w' B e v l:=by
 obtain⟨css,h1,h2,h3,h4⟩:=h
 refine⟨css,h1,h2,⟨h3.1,?_⟩,fun j cs y hcs hy=>hf _ _ _ _ (h4 j cs y hcs hy)⟩
 rcases h3.2 with h5 | ⟨q,cap,cur,rfl,hB,hh,hr⟩
 ·exact .inl h5
 ·exact .inr ⟨q,cap,cur,rfl,hB,(hb q rfl).trans hh,hr⟩
theorem OwnX.own (h:OwnX X k D w e v l):OwnAt (X D w) k w 0 e v l:=h.1
theorem OwnX.lt (h:OwnX X k D w e v l) {b:Nat} (hb:v.ownBlock=some b):b<w.heap.size:=(h.1.at hb).2.1
theorem OwnX.agree (hX:Fam X) (h:OwnX X k D w e v l) (ha:Agree D w w'):OwnX X k D w' e v l:=
 ⟨(h.1.stay (hX.flat D w) fun b hb=>ha b (h.2 b hb)).imp' fun _ _ _ hx=>hX.agree _ _ _ _ _ _ ha hx,h.2⟩
theorem OwnX.mono (hX:Fam X) (h:OwnX X k D w e v l) (hd:∀ b,D b→D' b):OwnX X k D' w e v l:=
 ⟨h.1.imp' fun _ _ _ hx=>hX.mono _ _ _ _ _ _ hd hx,fun b hb=>hd b (h.2 b hb)⟩
theorem OwnX.nil:OwnX X k D w e (.slice none 0 0) []:=⟨OwnAt.nil _,fun b h=>by cases h⟩
theorem OwnX.ofFlat {R:Rd α} {B:Nat} (h:OwnAt R k w B e v l) (hd:∀ b,v.ownBlock=some b→D b):OwnX (fun _ _=>R) k D w e v l:=⟨h.mono (Nat.zero_le _),hd⟩
end
end Go.Proofs.YtnnceaapodgfbaaGreatDoor
namespace Go.Proofs.YtnnceaapodgfbaaGreatDoor
namespace Sto
open Go.RowKit
def objCs (x:GObject) (v1 v2 v3:Value):List Value:=[.string x.okey.kind,.string x.okey.space,.string x.okey.name,v1,v2,v3,.bool x.ending,.string x.uid,.int .i64 x.rev,.string x.doc]
def objW (x:GObject) (v1 v2 v3:Value):Value:=objV x.okey v1 v2 v3 x.ending x.uid x.rev x.doc
abbrev LabF:Dom→World→Rd GLabel:=fun _ _=>LabelR
abbrev StrF:Dom→World→Rd ByteArray:=fun _ _=>RString
theorem flat_label:Flat LabelR:=fun _ _ _ _ h=>h
theorem one_label:OneR LabelR:=fun _ _ _ h u hu=>by
 rw [h] at hu
 simp only [List.mem_cons,List.not_mem_nil,or_false] at hu
 rcases hu with rfl | rfl<;>rfl
theorem famLab:Fam LabF:=fam_flat flat_label one_label
theorem famStr:Fam StrF:=fam_flat flat_string one_string
structure ObjIn (D:Dom) (w:World) (v1 v2 v3:Value) (x:GObject):Prop where
 labels:OwnX LabF 2 D w 66 v1 x.labels
 owners:OwnX StrF 1 D w 9 v2 x.owners
 holds:OwnX StrF 1 D w 9 v3 x.holds
section
variable {D D' : Dom} {w w' : World} {v1 v2 v3 : Value} {x : GObject}
theorem ObjIn.agree (h:ObjIn D w v1 v2 v3 x) (ha:Agree D w w'):ObjIn D w' v1 v2 v3 x:=⟨h.labels.agree famLab ha,h.owners.agree famStr ha,h.holds.agree famStr ha⟩
theorem ObjIn.mono (h:ObjIn D w v1 v2 v3 x) (hd:∀ b,D b→D' b):ObjIn D' w v1 v2 v3 x:=⟨h.labels.mono famLab hd,h.owners.mono famStr hd,h.holds.mono famStr hd⟩
theorem ObjIn.rowL (h:ObjIn D w v1 v2 v3 x):RowAt LabelR 2 w v1 x.labels:=h.labels.own.row
theorem ObjIn.rowO (h:ObjIn D w v1 v2 v3 x):StrAt w v2 x.owners:=h.owners.own.row.strs
theorem ObjIn.rowH (h:ObjIn D w v1 v2 v3 x):StrAt w v3 x.holds:=h.holds.own.row.strs
theorem own_one {α:Type} {R:Rd α} {k B:Nat} {e:TypeId} {v:Value} {l:List α} (h:OwnAt R k w B e v l):v.oneCell'=true:=by
 rcases h.form with ⟨e,_⟩ | ⟨g,c,e,_⟩<;>rw [e]<;>rfl
theorem ObjIn.ones (h:ObjIn D w v1 v2 v3 x):∀ u∈objCs x v1 v2 v3,u.oneCell'=true:=fun u hu=>by
 unfold objCs at hu
 simp only [List.mem_cons,List.not_mem_nil,or_false] at hu
 rcases hu with rfl | rfl | rfl | rfl | rfl | rfl | rfl | rfl | rfl | rfl
 ·rfl
 ·rfl
 ·rfl
 ·exact own_one h.labels.own
 ·exact own_one h.owners.own
 ·exact own_one h.holds.own
 ·rfl
 ·rfl
 ·rfl
 ·rfl
theorem ObjIn.other {y:GObject} (h:ObjIn D w v1 v2 v3 x) (h1:y.labels=x.labels) (h2:y.owners=x.owners) (h3:y.holds=x.holds):ObjIn D w v1 v2 v3 y:=⟨h1▸h.labels,h2▸h.owners,h3▸h.holds⟩
end
def i64 (n:Int):Prop:=(Lit.int .i64 n).wf=true
def VerX (D:Dom) (w:World):Rd GEvent:=fun _ cs x=>∃ v1 v2 v3,cs=.int .i64 x.rev :: (objCs x.object v1 v2 v3++[.bool (decide (x.kind=3))])∧ObjIn D w v1 v2 v3 x.object
def EvX (D:Dom) (w:World):Rd GEvent:=fun _ cs x=>∃ v1 v2 v3,cs=.int .i64 x.kind :: .int .i64 x.rev :: objCs x.object v1 v2 v3∧ObjIn D w v1 v2 v3 x.object
def ObjX (D:Dom) (w:World):Rd GObject:=fun _ cs x=>∃ v1 v2 v3,cs=objCs x v1 v2 v3∧ObjIn D w v1 v2 v3 x
theorem famVer : Fam VerX :=
  ⟨fun _ _ _ _ _ _ h => h, fun _ _ _ cs x ⟨v1, v2, v3, h1, h2⟩ u hu => by
    rw [h1] at hu
    rcases List.mem_cons.1 hu with rfl | hu
    · rfl
    · rcases List.mem_append.1 hu with hu | hu
      · exact h2.ones u hu
      · rw [List.mem_singleton] at hu; rw [hu]; rfl,
   fun _ _ _ _ _ _ ha ⟨v1, v2, v3, h1, h2⟩ => ⟨v1, v2, v3, h1, h2.agree ha⟩, fun _ _ _ _ _ _ hd ⟨v1, v2, v3, h1, h2⟩ => ⟨v1, v2, v3, h1, h2.mono hd⟩⟩
theorem famEv : Fam EvX :=
  ⟨fun _ _ _ _ _ _ h => h, fun _ _ _ cs x ⟨v1, v2, v3, h1, h2⟩ u hu => by
    rw [h1] at hu
    rcases List.mem_cons.1 hu with rfl | hu
    · rfl
    · rcases List.mem_cons.1 hu with rfl | hu
      · rfl
      · exact h2.ones u hu,
   fun _ _ _ _ _ _ ha ⟨v1, v2, v3, h1, h2⟩ => ⟨v1, v2, v3, h1, h2.agree ha⟩, fun _ _ _ _ _ _ hd ⟨v1, v2, v3, h1, h2⟩ => ⟨v1, v2, v3, h1, h2.mono hd⟩⟩
theorem famObj : Fam ObjX :=
  ⟨fun _ _ _ _ _ _ h => h, fun _ _ _ cs x ⟨v1, v2, v3, h1, h2⟩ u hu => by rw [h1] at hu; exact h2.ones u hu,
   fun _ _ _ _ _ _ ha ⟨v1, v2, v3, h1, h2⟩ => ⟨v1, v2, v3, h1, h2.agree ha⟩, fun _ _ _ _ _ _ hd ⟨v1, v2, v3, h1, h2⟩ => ⟨v1, v2, v3, h1, h2.mono hd⟩⟩
structure StoreIn (M I:Dom) (w:World) (g mb n:Nat) (f:GKey→Option Value) (vlog:Value) (S:St):Prop where
 gM:M g
 mbM:M mb
 apart:∀ b,M b→¬I b
 low:∀ b,M b∨I b→b<w.heap.size
 box:w.heap[g]? = some (.cells #[.int .i64 S.rev,.int .i64 S.comp,.map (some mb),.int .i64 (live S.log),vlog] 110 (0,0))
 map:MapK keyC w mb n f
 many:n≤S.rev
 chain:∀ k v,f k=some v→OwnAt (VerX I w) 12 w 0 163 v (hits S.log k)∧∀ b,v.ownBlock=some b→M b
 no:∀ k,f k=none→hits S.log k = []
 own:∀ k k' v v',f k=some v→f k'=some v'→k≠k'→∀ b,v.ownBlock=some b→v'.ownBlock≠some b
 log:OwnAt (EvX I w) 12 w 0 56 vlog S.log
 logM:∀ b,vlog.ownBlock=some b→M b
def StoreAt (D:Dom) (w:World) (g:Nat) (S:St):Prop:=∃ M I mb n f vlog,StoreIn M I w g mb n f vlog S∧∀ b,D b↔M b∨I b
section
variable {M I D D' : Dom} {w w' : World} {g mb n : Nat} {f : GKey → Option Value} {vlog : Value} {S : St}
theorem StoreIn.agree (h:StoreIn M I w g mb n f vlog S) (ha:Agree (fun b=>M b∨I b) w w') (hs:w.heap.size≤w'.heap.size):StoreIn M I w' g mb n f vlog S:=by
 have hI:Agree I w w':=ha.mono fun b hb=>.inr hb
 have hM:∀ b,M b→w'.heap[b]? = w.heap[b]?:=fun b hb=>ha b (.inl hb)
 refine⟨h.gM,h.mbM,h.apart,fun b hb=>Nat.lt_of_lt_of_le (h.low b hb) hs,(hM g h.gM).trans h.box,h.map.block (hM mb h.mbM),h.many,fun k v hk=>?_,h.no,h.own,?_,h.logM⟩
 ·obtain⟨h1,h2⟩:=h.chain k v hk
  exact⟨((h1.stay (famVer.flat I w) fun b hb=>hM b (h2 b hb)).imp' fun _ _ _ hx=>famVer.agree _ _ _ _ _ _ hI hx),h2⟩
 ·exact (h.log.stay (famEv.flat I w) fun b hb=>hM b (h.logM b hb)).imp' fun _ _ _ hx=>famEv.agree _ _ _ _ _ _ hI hx
theorem StoreAt.agree (h:StoreAt D w g S) (ha:Agree D w w') (hs:w.heap.size≤w'.heap.size):StoreAt D w' g S:=
 let ⟨M,I,mb,n,f,vlog,h1,h2⟩:=h
 ⟨M,I,mb,n,f,vlog,h1.agree (ha.mono fun b hb=>(h2 b).2 hb) hs,h2⟩
theorem StoreIn.belowW (h:StoreIn M I w g mb n f vlog S) (hb:Below w.heap.size w w'):StoreIn M I w' g mb n f vlog S:=h.agree (fun b hM=>hb.block b (h.low b hM)) hb.size
theorem StoreAt.belowW (h:StoreAt D w g S) (hb:Below w.heap.size w w'):StoreAt D w' g S:=
 let ⟨M,I,mb,n,f,vlog,h1,h2⟩:=h
 ⟨M,I,mb,n,f,vlog,h1.belowW hb,h2⟩
theorem StoreAt.box (h:StoreAt D w g S):∃ mb vlog,w.heap[g]? = some (.cells #[.int .i64 S.rev,.int .i64 S.comp,.map (some mb),.int .i64 (live S.log),vlog] 110 (0,0)):=
 let ⟨_,_,mb,_,_,vlog,h1,_⟩:=h
 ⟨mb,vlog,h1.box⟩
theorem StoreAt.low (h:StoreAt D w g S) {b:Nat} (hb:D b):b<w.heap.size:=let ⟨_,_,_,_,_,_,h1,h2⟩:=h;h1.low b ((h2 b).1 hb)
theorem StoreAt.lt (h:StoreAt D w g S):g<w.heap.size:=let ⟨_,_,_,_,_,_,h1,_⟩:=h;h1.low g (.inl h1.gM)
end
structure OkObj (x:GObject):Prop where
 kind:x.okey.kind.size≤1048576
 space:x.okey.space.size≤1048576
 name:x.okey.name.size≤1048576
 labels:x.labels.length≤1048576∧∀ r∈x.labels,okLab r
 owners:x.owners.length≤1048576∧∀ s∈x.owners,s.size≤1048576
 holds:x.holds.length≤1048576∧∀ s∈x.holds,s.size≤1048576
 uid:x.uid.size≤1048576
 rev:i64 x.rev
 doc:x.doc.size≤1048576
structure OkSt (S:St):Prop where
 obj:∀ e∈S.log,OkObj e.object
 rev:S.rev≤4194304
 good:Good S
end Sto
end Go.Proofs.YtnnceaapodgfbaaGreatDoor
namespace Go.Proofs.YtnnceaapodgfbaaGreatDoor
namespace Sto
open Go.RowKit
def showsV (v:GView) (o:GObject):Bool:=decide (o.okey.kind=v.kind) && ((decide (v.space=ByteArray.empty) || decide (o.okey.space=v.space)) && matchB v.reqs o.labels)
def nowHas (v:GView) (e:GEvent):Bool:=decide (e.kind≠3) && showsV v e.object
def seenK (v:GView) (H:GKey→Bool) (e:GEvent):Option Int:=if nowHas v e=true then some (if H e.object.okey=true then 2 else 1) else if H e.object.okey=true then some 3 else none
def seenH (v:GView) (H:GKey→Bool) (e:GEvent):GKey→Bool:=fun k=>if k=e.object.okey then nowHas v e else H k
def seenE (v:GView) (H:GKey→Bool) (e:GEvent):List GEvent:=match seenK v H e with
 | some k=>[{e with kind:=k}]
 | none=>[]
theorem kind_eq (a b:ByteArray):decide (a=b)=(a.toList == b.toList):=by
 rw [Bool.eq_iff_iff,decide_eq_true_iff,beq_iff_eq]
 exact⟨fun h=>by rw [h],fun h=>toList_inj h⟩
theorem emp_eq (a:ByteArray):decide (a=ByteArray.empty)=a.toList.isEmpty:=by
 rw [Bool.eq_iff_iff,decide_eq_true_iff,List.isEmpty_iff]
 exact⟨fun h=>by rw [h,Lib.toList_data];rfl,fun h=>toList_inj (h.trans (by rw [Lib.toList_data];rfl))⟩
set_option maxRecDepth 100000 in
set_option maxHeartbeats 3200000 in
theorem shows_any (v:GView) (vr:Value) (o:GObject) (v1 v2 v3:Value) (w:World) (hr:RowAt ReqR 3 w vr v.reqs) (hrl:v.reqs.length≤1048576) (hrok:∀ r∈v.reqs,okReq r) (hl:RowAt LabelR 2 w v1 o.labels) (ho:StrAt w v2 o.owners) (hh:StrAt w v3 o.holds) (hok:OkObj o) (hm:∃ m,MaxOK m w) :
  Calls Tryz.prog 79 #[.agg #[.string v.kind,.string v.space,vr],objW o v1 v2 v3] w fun e w'=>e=.returned (.bool (showsV v o))∧Below w.heap.size w w':=by
 obtain⟨ar,cr,rfl,-,-⟩:=hr.len
 obtain⟨a1,c1,rfl,-,-⟩:=hl.len
 obtain⟨a2,c2,rfl,-,-⟩:=ho.row.len
 obtain⟨a3,c3,rfl,-,-⟩:=hh.row.len
 obtain⟨nr,Hnr⟩:∃ n,Hid (v.reqs.length=n):=⟨_,Lib.hid rfl⟩
 obtain⟨n1,Hn1⟩:∃ n,Hid (o.labels.length=n):=⟨_,Lib.hid rfl⟩
 obtain⟨n2,Hn2⟩:∃ n,Hid (o.owners.length=n):=⟨_,Lib.hid rfl⟩
 obtain⟨n3,Hn3⟩:∃ n,Hid (o.holds.length=n):=⟨_,Lib.hid rfl⟩
 rw [Hnr.out] at hr ⊢
 rw [Hn1.out] at hl ⊢
 rw [Hn2.out,Hn3.out]
 obtain⟨mx,hmx⟩:=hm
 obtain⟨sv,Hsv⟩:∃ b,Hid (showsV v o=b):=⟨_,Lib.hid rfl⟩
 have hsv:sv=((o.okey.kind.toList == v.kind.toList) && ((v.space.toList.isEmpty || (o.okey.space.toList == v.space.toList)) && matchB v.reqs o.labels)):=by rw [←Hsv.out];unfold showsV;rw [kind_eq o.okey.kind,kind_eq o.okey.space,emp_eq]
 obtain⟨mb,Hmb⟩:∃ b,Hid (matchB v.reqs o.labels=b):=⟨_,Lib.hid rfl⟩
 rw [Hmb.out] at hsv
 rw [Hsv.out]
 have Hs:=Lib.hid hsv
 obtain⟨W,hW⟩:∃ W,W=(w.alloc (.cells #[.string v.kind,.string v.space,.slice ar nr cr] 80)).alloc (.cells #[.string o.okey.kind,.string o.okey.space,.string o.okey.name,.slice a1 n1 c1,.slice a2 n2 c2,.slice a3 n3 c3,.bool o.ending,.string o.uid,.int .i64 o.rev,.string o.doc] 30):=⟨_,rfl⟩
 obtain⟨gv,hgv⟩:∃ g,g=w.heap.size:=⟨_,rfl⟩
 obtain⟨go,hgo⟩:∃ g,g=w.heap.size+1:=⟨_,rfl⟩
 have BV:=Lib.hid (show W.heap[gv]? = some (.cells #[.string v.kind,.string v.space,.slice ar nr cr] 80 (0,0)) by rw [hW,hgv];exact heap_alloc_old (heap_alloc_new w _))
 have BO:=Lib.hid (show W.heap[go]? = some (.cells #[.string o.okey.kind,.string o.okey.space,.string o.okey.name,.slice a1 n1 c1,.slice a2 n2 c2,.slice a3 n3 c3,.bool o.ending,.string o.uid,.int .i64 o.rev,.string o.doc] 30 (0,0)) by rw [hW,hgo];exact heap_alloc_at (World.size_alloc _ _).symm)
 have hb1:Below w.heap.size w W:=by rw [hW];exact ((Below.refl _ w).alloc (Nat.le_refl _) _).alloc (by rw [World.size_alloc];omega) _
 have HB1:=Lib.hid hb1
 have HM:=Lib.hid (match_any (.slice ar nr cr) (.slice a1 n1 c1) v.reqs o.labels mx W (hr.below stays_req hb1) hrl hrok (hl.below stays_label hb1) hok.labels.1 hok.labels.2 (hmx.below hb1))
 rw [Hmb.out] at HM
 have cv:=fun i=>cell_block BV.out i
 have co:=fun i=>cell_block BO.out i
 rw [show objW o (.slice a1 n1 c1) (.slice a2 n2 c2) (.slice a3 n3 c3)=.agg #[.string o.okey.kind,.string o.okey.space,.string o.okey.name,.slice a1 n1 c1,.slice a2 n2 c2,.slice a3 n3 c3,.bool o.ending,.string o.uid,.int .i64 o.rev,.string o.doc] from rfl]
 clear hr hl ho hh hrok hok hmx hsv hb1 hrl
 go_enter Tryz.func79,Tryz.ntmps79
 go_upto_region 1 with fail
 have hex:((w.alloc (.cells #[.string v.kind,.string v.space,.slice ar nr cr] 80)).alloc (.cells #[.string o.okey.kind,.string o.okey.space,.string o.okey.name,.slice a1 n1 c1,.slice a2 n2 c2,.slice a3 n3 c3,.bool o.ending,.string o.uid,.int .i64 o.rev,.string o.doc] 30))=W:=hW.symm
 rw [hex]
 try rw [←hgo]
 rw [←hgv]
 clear hW hex hgv hgo
 cases kb:(o.okey.kind.toList == v.kind.toList) with
 | false=>
  have hs:sv=false:=by rw [Hs.out,kb];rfl
  subst hs
  clear Hs
  go_wp2_with fail
  go_ret
  exact⟨by first | rfl | simp,HB1.out⟩
 | true=>
  cases eb:v.space.toList.isEmpty with
  | true=>
   have hs:sv=mb:=by rw [Hs.out,kb,eb];rfl
   subst hs
   clear Hs
   go_wp2_with fail
   refine HM.out.mono ?_
   rintro E w2 ⟨rfl,hb2⟩
   have HB2:=Lib.hid (HB1.out.trans (hb2.mono HB1.out.size))
   clear hb2 HM
   go_wp2_with fail
   go_ret
   exact⟨by first | rfl | simp,HB2.out⟩
  | false=>
   cases sb:(o.okey.space.toList == v.space.toList) with
   | false=>
    have hs:sv=false:=by rw [Hs.out,kb,eb,sb];rfl
    subst hs
    clear Hs
    go_wp2_with fail
    go_ret
    exact⟨by first | rfl | simp,HB1.out⟩
   | true=>
    have hs:sv=mb:=by rw [Hs.out,kb,eb,sb];rfl
    subst hs
    clear Hs
    go_wp2_with fail
    refine HM.out.mono ?_
    rintro E w2 ⟨rfl,hb2⟩
    have HB2:=Lib.hid (HB1.out.trans (hb2.mono HB1.out.size))
    clear hb2 HM
    go_wp2_with fail
    go_ret
    exact⟨by first | rfl | simp,HB2.out⟩
end Sto
end Go.Proofs.YtnnceaapodgfbaaGreatDoor
namespace Go.Proofs.YtnnceaapodgfbaaGreatDoor
open Go.RowKit
theorem setCells_all (g:Nat) (t:TypeId):∀ (vs:List Value) (i:Nat) (cur:Array Value) (w:World),w.heap[g]? = some (.cells cur t (0,0))→i+vs.length≤cur.size→
  ∃ cur',(w.setCells g i vs).heap[g]? = some (.cells cur' t (0,0))∧cur'.size=cur.size∧(∀ j,j<i∨i+vs.length≤j→cur'[j]? = cur[j]?)∧(∀ j u,vs[j]? = some u→cur'[i+j]? = some u)∧Touch g w (w.setCells g i vs)
 | [],i,cur,w,hg,_=>⟨cur,hg,rfl,fun _ _=>rfl,fun j u h=>by simp at h,⟨rfl,rfl,rfl,rfl,fun _ _=>rfl⟩⟩
 | v :: r,i,cur,w,hg,hl=>by
  simp only [List.length_cons] at hl
  obtain⟨h1,h2⟩:=touch_setCell (w:=w) (i:=i) (v:=v) hg
  obtain⟨cur',g1,g2,g3,g4,g5⟩:=setCells_all g t r (i+1) _ _ h1 (by simp;omega)
  refine⟨cur',g1,by simpa using g2,fun j hj=>?_,fun j u hu=>?_,?_⟩
  ·simp only [List.length_cons] at hj
   rw [g3 j (by omega),Array.getElem?_setIfInBounds,if_neg (by omega)]
  ·cases j with
   | zero=>
    simp only [List.getElem?_cons_zero,Option.some.injEq] at hu
    subst hu
    rw [Nat.add_zero,g3 i (by omega),Array.getElem?_setIfInBounds,if_pos rfl,if_pos (by omega)]
   | succ j=>
    have:=g4 j u (by simpa using hu)
    rwa [show i+1+j=i+(j+1) by omega] at this
  ·show Touch g w ((w.setCell ⟨g,i,none⟩ v).setCells g (i+1) r)
   exact⟨g5.os.trans h2.os,g5.tape.trans h2.tape,g5.output.trans h2.output,g5.size.trans h2.size,fun b hb=>(g5.other b hb).trans (h2.other b hb)⟩
section
variable {α : Type} {R : Rd α} {k B : Nat} {e : TypeId} {w : World} {g n c : Nat} {l : List α}
end
end Go.Proofs.YtnnceaapodgfbaaGreatDoor
namespace Go.Proofs.YtnnceaapodgfbaaGreatDoor
open Go.RowKit
section
variable {P : Program} {ops : Array Oper} {rest : List Oper} {o : Oper} {a : Act} {w : World} {Q : Exit → Act → World → Prop}
def partPut (old cells:Array Value) (i:Nat):Array Value:=(old.toList.take i++(cells.toList++old.toList.drop (i+cells.size))).toArray
theorem wpList_store_part (hgd:o.guard=none) (ty:TypeId) (x y:Operand) (ho:o.op=.store ty x y) (g i:Nat) (cells:Array Value) (hx:a.eval x=.pointer (some ⟨g,i,none⟩)) (hy:a.eval y=.agg cells)
  (t:TypeId) (old:Array Value) (hg:w.heap[g]? = some (.cells old t (0,0))) (hi:(P.info? ty).map (·.size)=some cells.size) (hsz:i+cells.size≤old.size) (h1:cells.all (·.oneCell')=true)
  (h:∀ W,W.heap[g]? = some (.cells (partPut old cells i) t (0,0))→Touch g w W→wpList P ops Q rest (a.put o.dst undef) W):wpList P ops Q (o :: rest) a w:=by
 have ht:w.there g i cells.size:=fun j hj=>by
  refine⟨?_,free_block hg _⟩
  rw [cell_block hg,Array.getElem?_eq_getElem (by omega)]
  rfl
 refine wpList_store_mid hgd ty x y ho g i cells hx hy ht hi h1 ?_
 obtain⟨cur,g1,g2,g3,g4,g5⟩:=setCells_all g t cells.toList i old w hg (by simpa using hsz)
 refine h _ ?_ g5
 rw [g1]
 have:cur=partPut old cells i:=by
  apply Array.ext_getElem?
  intro j
  have hlt:(old.toList.take i).length=i:=by rw [List.length_take,Array.length_toList];omega
  have e:(partPut old cells i)[j]? = (old.toList.take i++(cells.toList++old.toList.drop (i+cells.size)))[j]?:=by unfold partPut;simp
  rw [e]
  rcases Nat.lt_or_ge j i with hj | hj
  ·rw [g3 j (.inl hj),List.getElem?_append_left (by omega),List.getElem?_take_of_lt hj,Array.getElem?_toList]
  ·rw [List.getElem?_append_right (by omega),hlt]
   rcases Nat.lt_or_ge j (i+cells.size) with hk | hk
   ·have hk2:j - i<cells.toList.length:=by rw [Array.length_toList];omega
    rw [List.getElem?_append_left hk2]
    have:=g4 (j - i) _ (List.getElem?_eq_getElem hk2)
    rw [show i+(j - i)=j by omega] at this
    rw [this,List.getElem?_eq_getElem hk2]
   ·rw [g3 j (.inr (by rw [Array.length_toList];exact hk)),List.getElem?_append_right (by rw [Array.length_toList];omega),List.getElem?_drop,Array.length_toList,Array.getElem?_toList]
    congr 1
    omega
 rw [this]
end
theorem row_from {α:Type} {R:Rd α} {k:Nat} {w:World} {a:Option Addr} {c n:Nat} {l:List α} (hk:0<k) (h:RowAt R k w (.slice a n c) l) {m:Nat} (hm:m≤n):∀ ta,(if c=m then a else a.map (·.add (m*k)))=ta→RowAt R k w (.slice ta (n - m) (c - m)) (l.drop m):=by
 rintro ta rfl
 obtain⟨a',c',e1,h1,h2⟩:=h.len
 injection e1 with _ e1 e2
 subst e1;subst e2
 have hnil:l.length≤m→l.drop m = []:=fun h=>List.drop_eq_nil_of_le h
 cases a with
 | none=>
  have h0:l = []:=by
   rcases h with ⟨_,h0⟩ | ⟨_,_,h0,_⟩
   ·exact h0
   ·cases h0
  subst h0
  have hm0:m=0:=by simpa using hm
  subst hm0
  have hc0:c=0:=by
   rcases h with ⟨h0,_⟩ | ⟨_,_,h0,_⟩
   ·injection h0
   ·cases h0
  subst hc0
  exact .inl ⟨rfl,rfl⟩
 | some b=>
  by_cases hc:c=m
  ·rw [if_pos hc,hnil (by omega)]
   exact .inr ⟨b,c - m,by rw [show l.length - m=0 by omega];rfl,Nat.zero_le _,by omega,fun j x hx=>by rw [List.getElem?_nil] at hx;cases hx⟩
  ·rw [if_neg hc]
   by_cases h0:l.length=0
   ·have hm0:m=0:=by omega
    subst hm0
    rw [hnil (by omega)]
    exact .inr ⟨_,c - 0,by rw [show l.length - 0=0 by omega];rfl,Nat.zero_le _,by omega,fun j x hx=>by rw [List.getElem?_nil] at hx;cases hx⟩
   ·obtain⟨b',o,c',hv,_⟩:=h.form (by omega) hk
    injection hv with e1 e2 e3
    injection e1 with e1
    subst e1
    have h9:=h.cut rfl (i:=m) (j:=l.length) hm (Nat.le_refl _)
    rw [List.take_length] at h9
    have e:(Addr.add ⟨b',o,none⟩ (m*k))=⟨b',o+m*k,none⟩:=by simp [Addr.add]
    show RowAt R k w (.slice (some (Addr.add ⟨b',o,none⟩ (m*k))) (l.length - m) (c - m)) (l.drop m)
    rw [e]
    exact h9
end Go.Proofs.YtnnceaapodgfbaaGreatDoor
namespace Go.Proofs.YtnnceaapodgfbaaGreatDoor
open Go.RowKit
def OutD (B:Nat) (w:World) (v:Value):Dom:=fun b=>B≤b∧b<w.heap.size∧v.ownBlock≠some b
def OutX {α:Type} (X:Dom→World→Rd α) (k B:Nat) (w:World) (e:TypeId) (v:Value) (l:List α):Prop:=OwnAt (X (OutD B w v) w) k w B e v l
section
variable {α : Type} {X : Dom → World → Rd α} {k B : Nat} {w w' : World} {e : TypeId} {v v' : Value} {l : List α}
theorem OutX.nil:OutX X k B w e (.slice none 0 0) []:=OwnAt.nil _
theorem OutX.belowX (hX:Fam X) (h:OutX X k B w e v l) (hb:Below w.heap.size w w'):OutX X k B w' e v l:=
 (OwnAt.stay (hX.flat _ _) h fun b hb9=>hb.block b (OwnAt.at h hb9).2.1).imp' fun _ _ _ hx=>hX.mono _ _ _ _ _ _ (fun _ h9=>⟨h9.1,Nat.lt_of_lt_of_le h9.2.1 hb.size,h9.2.2⟩) (hX.agree _ _ _ _ _ _ (fun b h9=>hb.block b h9.2.1) hx)
theorem OutX.agreeX (hX:Fam X) (h:OutX X k B w e v l) (hs:w.heap.size≤w'.heap.size) (ha:∀ b,B≤b→b<w.heap.size→w'.heap[b]? = w.heap[b]?):OutX X k B w' e v l:=
 (OwnAt.stay (hX.flat _ _) h fun b hb9=>ha b (OwnAt.at h hb9).1 (OwnAt.at h hb9).2.1).imp' fun _ _ _ hx=>hX.mono _ _ _ _ _ _ (fun _ h9=>⟨h9.1,Nat.lt_of_lt_of_le h9.2.1 hs,h9.2.2⟩) (hX.agree _ _ _ _ _ _ (fun b h9=>ha b h9.1 h9.2.1) hx)
theorem OutX.appended (hX:Fam X) (h:OwnAt (X (OutD B w v) w) k w' B e v' l) (hg:w.grownBy w' v.ownBlock) (hv:v'.ownBlock=v.ownBlock∨v'.ownBlock=some w.heap.size):OutX X k B w' e v' l:=
 OwnAt.imp' h fun _ _ _ hx=>hX.mono _ _ _ _ _ _ (fun b h9=>⟨h9.1,Nat.lt_of_lt_of_le h9.2.1 hg.size,fun e9=>by
  rcases hv with h8 | h8
  ·exact h9.2.2 (h8▸e9)
  ·rw [h8] at e9;injection e9 with e9;have:=h9.2.1;omega⟩) (hX.agree _ _ _ _ _ _ (fun b h9=>hg.block b h9.2.1 fun e9=>h9.2.2 e9.symm) hx)
theorem OutX.own (hX:Fam X) (h:OutX X k B w e v l):OwnX X k (fun b=>B≤b∧b<w.heap.size) w e v l:=
 ⟨(OwnAt.imp' h fun _ _ _ hx=>hX.mono _ _ _ _ _ _ (fun _ h9=>⟨h9.1,h9.2.1⟩) hx).mono (Nat.zero_le _),fun _ hb=>⟨(OwnAt.at h hb).1,(OwnAt.at h hb).2.1⟩⟩
theorem OutX.at (h:OutX X k B w e v l) {b:Nat} (hb:v.ownBlock=some b):B≤b∧b<w.heap.size:=⟨(OwnAt.at h hb).1,(OwnAt.at h hb).2.1⟩
end
end Go.Proofs.YtnnceaapodgfbaaGreatDoor
namespace Go.Proofs.YtnnceaapodgfbaaGreatDoor
namespace Sto
open Go.RowKit
theorem drewB {B:Nat} {a w:World} (h:Below B a w) (n:Nat):Below B a (w.drewN n):=⟨h.os,h.tape,h.output,h.size,h.block⟩
theorem Tryz.sizeObj:(Tryz.prog.info? 30).map (·.size)=some 10:=by kernel_rfl
theorem Tryz.zeroVers (w:World):(zeroValue 159).run Tryz.prog w=.ok (.slice none 0 0) w:=by kernel_rfl
set_option maxRecDepth 100000 in
theorem new_any (w:World):Calls Tryz.prog 46 #[] w fun e w'=>∃ g D,e=.returned (.pointer (some ⟨g,0,none⟩))∧StoreAt D w' g St0∧(∀ b,D b→w.heap.size≤b)∧Below w.heap.size w w':=by
 have hmm:=@run_makeMap Tryz.prog
 go_enter Tryz.func46,Tryz.ntmps46
 go_wp2_with fail
 go_ret
 have h1:=mapK_made keyC w
 have hb1:Below w.heap.size w (w.alloc (.map #[] 0)):=(Below.refl _ _).alloc (Nat.le_refl _) _
 have hs1:(w.alloc (.map #[] 0)).heap.size=w.heap.size+1:=World.size_alloc _ _
 have h2:=heap_alloc_new (w.alloc (.map #[] 0)) (.cells #[.int .i64 0,.int .i64 0,.map (some w.heap.size),.int .i64 0,.slice none 0 0] 110)
 refine⟨_,fun b=>b=w.heap.size∨b=w.heap.size+1,rfl,⟨fun b=>b=w.heap.size∨b=w.heap.size+1,fun _=>False,w.heap.size,0,fun _=>none,.slice none 0 0,⟨.inr (by simp),.inl rfl,fun _ _ h=>h,fun b hb=>?_,?_,?_,Nat.le_refl _,fun k v h=>(by cases h),fun k _=>rfl,fun k k' v v' h=>(by cases h),OwnAt.nil _,fun b h=>(by cases h)⟩,fun b=>⟨.inl,fun h=>h.elim id False.elim⟩⟩,fun b hb=>?_,?_⟩
 ·rw [World.size_alloc,World.size_alloc]
  rcases hb with (rfl | rfl) | h
  ·omega
  ·omega
  ·exact h.elim
 ·rw [hs1] at h2;exact h2
 ·exact h1.alloc _
 ·rcases hb with rfl | rfl
  ·exact Nat.le_refl _
  ·exact Nat.le_succ _
 ·exact hb1.alloc (by rw [hs1];omega) _
set_option maxRecDepth 100000 in
theorem rev_any {D:Dom} {g:Nat} {S:St} {w:World} (h:StoreAt D w g S):Calls Tryz.prog 16 #[.pointer (some ⟨g,0,none⟩)] w fun e w'=>e=.returned (.int .i64 S.rev)∧w=w':=by
 obtain⟨mb,vlog,hb⟩:=h.box
 have cc:=fun i=>cell_block hb i
 clear h hb
 go_enter Tryz.func16,Tryz.ntmps16
 go_wp2_with fail
 go_ret
 exact⟨rfl,rfl⟩
set_option maxRecDepth 100000 in
theorem time_any {D:Dom} {g:Nat} {S:St} {w:World} (h:StoreAt D w g S) (rev:Int):Calls Tryz.prog 48 #[.pointer (some ⟨g,0,none⟩),.int .i64 rev] w fun e w'=>e=.returned (.tuple #[.int .i64 (timeT S rev),.int .i64 (timeE S rev)])∧w=w':=by
 obtain⟨mb,vlog,hb⟩:=h.box
 have cc:=fun i=>cell_block hb i
 obtain⟨T,HT⟩:∃ T,Hid (timeT S rev=T):=⟨_,Lib.hid rfl⟩
 obtain⟨E,HE⟩:∃ E,Hid (timeE S rev=E):=⟨_,Lib.hid rfl⟩
 rw [HT.out,HE.out]
 obtain⟨n,hn⟩:∃ n,S.rev=n:=⟨_,rfl⟩
 obtain⟨c,hc⟩:∃ c,S.comp=c:=⟨_,rfl⟩
 rw [hn,hc] at cc
 have HTE:Hid (E=if rev<0∨(n:Int)<rev then 1 else if rev=0 then 0 else if rev<c then 13 else 0):=Lib.hid (by rw [←HE.out,←hn,←hc];rfl)
 have HTT:Hid (T=if E≠0 then 0 else if rev=0 then n else rev.toNat):=Lib.hid (by rw [←HT.out,←HE.out,←hn];rfl)
 clear h hb HT HE hn hc
 by_cases h1:rev<0
 ·have e1:E=1:=by rw [HTE.out,if_pos (.inl h1)]
  have e2:T=0:=by rw [HTT.out,e1];rfl
  subst e1 e2
  clear HTE HTT
  go_enter Tryz.func48,Tryz.ntmps48
  go_wp2_with fail
  go_ret2
  exact⟨rfl,rfl⟩
 ·by_cases h2:(n:Int)<rev
  ·have e1:E=1:=by rw [HTE.out,if_pos (.inr h2)]
   have e2:T=0:=by rw [HTT.out,e1];rfl
   subst e1 e2
   clear HTE HTT
   go_enter Tryz.func48,Tryz.ntmps48
   go_wp2_with fail
   go_ret2
   exact⟨rfl,rfl⟩
  ·have hno:¬(rev<0∨(n:Int)<rev):=by omega
   by_cases h3:rev=0
   ·subst h3
    have e1:E=0:=by rw [HTE.out,if_neg hno,if_pos rfl]
    have e2:T=n:=by rw [HTT.out,e1];rfl
    subst e1 e2
    clear HTE HTT hno h1
    go_enter Tryz.func48,Tryz.ntmps48
    go_wp2_with fail
    go_ret2
    exact⟨rfl,rfl⟩
   ·have q3:(rev == 0)=false:=by rw [beq_eq_false_iff_ne];exact h3
    by_cases h4:rev<c
    ·have e1:E=13:=by rw [HTE.out,if_neg hno,if_neg h3,if_pos h4]
     have e2:T=0:=by rw [HTT.out,e1];rfl
     subst e1 e2
     clear HTE HTT hno h3
     go_enter Tryz.func48,Tryz.ntmps48
     go_wp2_with fail
     go_ret2
     exact⟨rfl,rfl⟩
    ·have e1:E=0:=by rw [HTE.out,if_neg hno,if_neg h3,if_neg h4]
     have e2:(T:Int)=rev:=by rw [HTT.out,e1,if_neg (fun h=>h rfl),if_neg h3];omega
     subst e1
     rw [e2]
     clear HTE HTT hno h3 e2
     go_enter Tryz.func48,Tryz.ntmps48
     go_wp2_with fail
     go_ret2
     exact⟨rfl,rfl⟩
theorem StoreIn.turn {M I:Dom} {w w':World} {g mb n:Nat} {f:GKey→Option Value} {vlog:Value} {S S':St} (h:StoreIn M I w g mb n f vlog S) (ht:Touch g w w') (hl:S'.log=S.log)
  (hb:w'.heap[g]? = some (.cells #[.int .i64 S'.rev,.int .i64 S'.comp,.map (some mb),.int .i64 (live S'.log),vlog] 110 (0,0))):StoreIn M I w' g mb n f vlog S':=by
 have hI:Agree I w w':=fun b hb=>ht.other b fun e=>h.apart g h.gM (e▸hb)
 refine⟨h.gM,h.mbM,h.apart,fun b hb=>by rw [ht.size];exact h.low b hb,hb,h.map.block (ht.other mb (h.map.ne h.box)),by unfold St.rev;rw [hl];exact h.many,fun k v hk=>?_,fun k hk=>by rw [hl];exact h.no k hk,h.own,?_,h.logM⟩
 ·obtain⟨h1,h2⟩:=h.chain k v hk
  rw [hl]
  refine⟨(h1.stay (famVer.flat I w) fun b hq=>ht.other b fun e=>?_).imp' fun _ _ _ hx=>famVer.agree _ _ _ _ _ _ hI hx,h2⟩
  obtain⟨_,_,cur,hc⟩:=h1.at hq
  rw [e,h.box] at hc;cases hc
 ·rw [hl]
  refine (h.log.stay (famEv.flat I w) fun b hq=>ht.other b fun e=>?_).imp' fun _ _ _ hx=>famEv.agree _ _ _ _ _ _ hI hx
  obtain⟨_,_,cur,hc⟩:=h.log.at hq
  rw [e,h.box] at hc;cases hc
set_option maxRecDepth 100000 in
theorem compact_any {D:Dom} {g:Nat} {S:St} {w:World} (h:StoreAt D w g S) (rev:Int):Calls Tryz.prog 61 #[.pointer (some ⟨g,0,none⟩),.int .i64 rev] w fun e w'=>e=.returned (.int .i64 (compactE S rev))∧StoreAt D w' g (compact S rev)∧Only D w w':=by
 obtain⟨M,I,mb,nn,f,vlog,hin,hD⟩:=h
 have cc:=fun i=>cell_block hin.box i
 have fz:=fun i=>free_block hin.box i
 obtain⟨n,hn⟩:∃ n,S.rev=n:=⟨_,rfl⟩
 obtain⟨c,hc⟩:∃ c,S.comp=c:=⟨_,rfl⟩
 obtain⟨E,HE⟩:∃ E,Hid (compactE S rev=E):=⟨_,Lib.hid rfl⟩
 rw [HE.out]
 have HTE:Hid (E=if (n:Int)<rev∨rev<c then 1 else 0):=Lib.hid (by rw [←HE.out,←hn,←hc];rfl)
 have HIn:=Lib.hid hin
 have HD:=Lib.hid hD
 have HB:=Lib.hid hin.box
 have hdd:=cc
 rw [hn,hc] at cc
 clear hin hD hdd hn hc
 by_cases h1:(n:Int)<rev
 ·have e1:E=1:=by rw [HTE.out,if_pos (.inl h1)]
  subst e1
  have Hc:Hid (compact S rev=S):=Lib.hid (by unfold compact;rw [HE.out];rfl)
  clear HTE HE
  go_enter Tryz.func61,Tryz.ntmps61
  go_wp2_with fail
  go_ret
  exact⟨rfl,by rw [Hc.out];exact⟨M,I,mb,nn,f,vlog,HIn.out,HD.out⟩,Only.refl _ _⟩
 ·by_cases h2:rev<c
  ·have e1:E=1:=by rw [HTE.out,if_pos (.inr h2)]
   subst e1
   have Hc:Hid (compact S rev=S):=Lib.hid (by unfold compact;rw [HE.out];rfl)
   clear HTE HE
   go_enter Tryz.func61,Tryz.ntmps61
   go_wp2_with fail
   go_ret
   exact⟨rfl,by rw [Hc.out];exact⟨M,I,mb,nn,f,vlog,HIn.out,HD.out⟩,Only.refl _ _⟩
  ·have e1:E=0:=by rw [HTE.out,if_neg (by omega)]
   subst e1
   have Hc:Hid (compact S rev = {S with comp:=rev}):=Lib.hid (by unfold compact;rw [HE.out];rfl)
   clear HTE HE
   obtain⟨t1,t2⟩:=touch_setCell (i:=1) (v:=.int .i64 rev) HB.out
   have HT1:=Lib.hid t1
   have HT2:=Lib.hid t2
   clear t1 t2
   go_enter Tryz.func61,Tryz.ntmps61
   go_wp2_with fail
   go_ret
   refine⟨rfl,?_,Only.touch HT2.out ((HD.out g).2 (.inl HIn.out.gM))⟩
   rw [Hc.out]
   exact⟨M,I,mb,nn,f,vlog,HIn.out.turn (S':={S with comp:=rev}) HT2.out rfl HT1.out,HD.out⟩
end Sto
end Go.Proofs.YtnnceaapodgfbaaGreatDoor
namespace Go.Proofs.YtnnceaapodgfbaaGreatDoor
namespace Sto
open Go.RowKit
def nilS:Value:=.slice none 0 0
def noW:Value:=objW noObj nilS nilS nilS
def noA:Array Value:=#[.string {data:=#[]},.string {data:=#[]},.string {data:=#[]},.slice none 0 0,.slice none 0 0,.slice none 0 0,.bool false,.string {data:=#[]},.int .i64 0,.string {data:=#[]}]
theorem objA_ones {D:Dom} {w:World} {v1 v2 v3:Value} {x:GObject} (h:ObjIn D w v1 v2 v3 x):(objCs x v1 v2 v3).toArray.all (·.oneCell')=true:=by
 rw [List.all_toArray]
 exact List.all_eq_true.2 h.ones
theorem StoreIn.look {M I:Dom} {w:World} {g mb n:Nat} {f:GKey→Option Value} {vlog:Value} {S:St} (h:StoreIn M I w g mb n f vlog S) (k:GKey) (hk:okKey k) :
  ∃ va vn vc,(∀ w',Below w.heap.size w w'→(Instr.lookup 108 (.map (some mb)) (keyV k) false).run Tryz.prog w'=.ok (.slice va vn vc) w')∧vn=(hits S.log k).length∧OwnAt (VerX I w) 12 w 0 163 (.slice va vn vc) (hits S.log k):=by
 have hl:=fun w' (hb:Below w.heap.size w w')=>((h.map.belowW hb).look (t:=108) (e:=159) Tryz.underlying108 (Tryz.zeroVers w') k hk).2
 cases hf:f k with
 | none=>
  rw [hf] at hl
  have h1:=h.no k hf
  exact⟨none,0,0,hl,by rw [h1];rfl,by rw [h1];exact OwnAt.nil _⟩
 | some v=>
  rw [hf] at hl
  have h1:=(h.chain k v hf).1
  obtain⟨va,vc,rfl,-,-⟩:=h1.row.len
  exact⟨va,_,vc,hl,rfl,h1⟩
theorem curL_last {l:List GEvent} {k:GKey} {e:GEvent} (h:(hits l k).getLast? = some e):cur l k=shown e:=by unfold cur shown;rw [h]
set_option maxRecDepth 100000 in
set_option maxHeartbeats 1600000 in
theorem last_any {M I:Dom} {w:World} {g mb n:Nat} {f:GKey→Option Value} {vlog:Value} {S:St} (h:StoreIn M I w g mb n f vlog S) (k:GKey) (hk:okKey k) (hS:S.rev≤4194304) :
  Calls Tryz.prog 50 #[.pointer (some ⟨g,0,none⟩),.agg #[.string k.kind,.string k.space,.string k.name]] w fun e w'=>Below w.heap.size w w'∧((cur S.log k=none∧e=.returned (.tuple #[noW,.bool false]))∨∃ o v1 v2 v3,cur S.log k=some o∧e=.returned (.tuple #[objW o v1 v2 v3,.bool true])∧ObjIn I w v1 v2 v3 o):=by
 obtain⟨va,vn,vc,hlook,hvn,hrow⟩:=h.look k hk
 have hvl:vn≤4194304:=by rw [hvn];exact Nat.le_trans (List.length_filter_le _ _) hS
 obtain⟨w1,hw1⟩:∃ w1,w1=(w.alloc (.cells #[.string k.kind,.string k.space,.string k.name] 24)).alloc (.cells noA 30):=⟨_,rfl⟩
 obtain⟨gk,hgk⟩:∃ gk,gk=w.heap.size:=⟨_,rfl⟩
 obtain⟨go,hgo⟩:∃ go,go=w.heap.size+1:=⟨_,rfl⟩
 have bk:w1.heap[gk]? = some (.cells #[.string k.kind,.string k.space,.string k.name] 24 (0,0)):=by rw [hw1,hgk];exact heap_alloc_old (heap_alloc_new w _)
 have bo:w1.heap[go]? = some (.cells noA 30 (0,0)):=by rw [hw1,hgo];exact heap_alloc_at (World.size_alloc _ _).symm
 have hb1:Below w.heap.size w w1:=by rw [hw1];exact ((Below.refl _ w).alloc (Nat.le_refl _) _).alloc (by rw [World.size_alloc];omega) _
 have bg:=below_block hb1 h.box
 have cg:=fun i=>cell_block bg i
 have ck:=fun i=>cell_block bk i
 have hgw:w.heap.size≤go:=by omega
 have Hlook:=Lib.hid hlook
 have HR:=Lib.hid hrow
 have Hvn:=Lib.hid hvn
 have BO:=Lib.hid bo
 have HB1:=Lib.hid hb1
 clear h hk hlook hrow hvn bo hb1 bk bg hS
 go_enter Tryz.func50,Tryz.ntmps50
 go_upto_region 1 with fail
 have hex:((w.alloc (.cells #[.string k.kind,.string k.space,.string k.name] 24)).alloc (.cells #[.string {data:=#[]},.string {data:=#[]},.string {data:=#[]},.slice none 0 0,.slice none 0 0,.slice none 0 0,.bool false,.string {data:=#[]},.int .i64 0,.string {data:=#[]}] 30))=w1:=hw1.symm
 rw [hex]
 try rw [←hgo]
 rw [←hgk]
 have hlk:∀ n,(Instr.lookup 108 (.map (some mb)) (.agg #[.string k.kind,.string k.space,.string k.name]) false).run Tryz.prog (w1.drewN n)=.ok (.slice va vn vc) (w1.drewN n):=fun n=>Hlook.out (w1.drewN n) (drewB HB1.out n)
 clear hw1 hex hgk hgo Hlook
 go_quiet (fail)
 have HB2:=Lib.hid (drewB HB1.out nq)
 have BO2:Hid ((w1.drewN nq).heap[go]? = some (.cells noA 30 (0,0))):=BO
 obtain⟨w2,hw2⟩:∃ w2,w1.drewN nq=w2:=⟨_,rfl⟩
 rw [hw2] at HB2 BO2 ⊢
 clear hw2 hlk cg ck HB1 BO
 by_cases h0:vn=0
 ·subst h0
  have Hc:Hid (cur S.log k=none):=Lib.hid (by unfold cur;rw [List.eq_nil_of_length_eq_zero Hvn.out.symm];rfl)
  clear HR Hvn
  go_wp2_with (refine wpList_store_box (by rfl) _ _ _ (by rfl) go noA (by rfl) (by rfl) _ _ (by exact BO2.out) (by exact Tryz.sizeObj) (by rfl) (by simp [Value.oneCell',noA]) ?_)
  intro WF bF tF
  have HF:=Lib.hid (tF.below HB2.out hgw)
  go_wp2_with fail
  refine bodyPost_ret (v:=.tuple #[.agg noA,.bool false]) ?_ rfl ?_
  ·exact results_two_box Tryz.results50 _ _ go _ _ _ _ (by rfl) bF Tryz.underlying30 rfl (by exact Tryz.sizeObj)
  ·exact⟨HF.out,.inl ⟨Hc.out,rfl⟩⟩
 ·obtain⟨m,rfl⟩:∃ m,vn=m+1:=⟨vn - 1,by omega⟩
  obtain⟨e,he⟩:∃ e,(hits S.log k)[m]? = some e:=⟨(hits S.log k)[m]'(by rw [←Hvn.out];omega),List.getElem?_eq_getElem _⟩
  have hlast:(hits S.log k).getLast? = some e:=by rw [List.getLast?_eq_getElem?,←Hvn.out];exact he
  have Hcur:=Lib.hid (curL_last hlast)
  obtain⟨b,o,c',hv,_,_,hbs,hcell⟩:=HR.out.row.form (by rw [←Hvn.out];omega) (by omega)
  injection hv with u1 u2 u3
  subst u1
  clear u2 u3
  obtain⟨ds,_,hcc,v1,v2,v3,rfl,hobj⟩:=hcell m e he
  have e11:w2.cell? ⟨b,o+m*12+11,none⟩=some (.bool (decide (e.kind=3))):=(HB2.out.cell (p:=⟨b,_,none⟩) hbs).trans (hcc 11 _ rfl)
  have ec:∀ i u,(objCs e.object v1 v2 v3)[i]? = some u→w2.cell? ⟨b,o+m*12+1+i,none⟩=some u:=fun i u hu=>(HB2.out.cell (p:=⟨b,_,none⟩) hbs).trans (by
   have h9:=hcc (1+i) u (by rw [Nat.add_comm 1 i,List.getElem?_cons_succ,List.getElem?_append_left (List.getElem?_eq_some_iff.1 hu).1];exact hu)
   rw [←Nat.add_assoc] at h9;exact h9)
  have q1:(0:Int)≤((m+1:Nat):Int) - 1:=by omega
  have q2:((m+1:Nat):Int) - 1<((m+1:Nat):Int):=by omega
  have q3:((((m+1:Nat):Int) - 1)).toNat=m:=by omega
  have Hobj:=Lib.hid hobj
  clear hcc hcell hobj HR hlast he Hvn
  cases hk3:decide (e.kind=3) with
  | true=>
   rw [hk3] at e11
   have Hc:Hid (cur S.log k=none):=Lib.hid (by rw [Hcur.out];unfold shown;rw [if_pos (of_decide_eq_true hk3)])
   clear hk3 ec Hcur
   go_wp2_with (refine wpList_store_box (by rfl) _ _ _ (by rfl) go noA (by rfl) (by rfl) _ _ (by exact BO2.out) (by exact Tryz.sizeObj) (by rfl) (by simp [Value.oneCell',noA]) ?_)
   intro WF bF tF
   have HF:=Lib.hid (tF.below HB2.out hgw)
   go_wp2_with fail
   refine bodyPost_ret (v:=.tuple #[.agg noA,.bool false]) ?_ rfl ?_
   ·exact results_two_box Tryz.results50 _ _ go _ _ _ _ (by rfl) bF Tryz.underlying30 rfl (by exact Tryz.sizeObj)
   ·exact⟨HF.out,.inl ⟨Hc.out,rfl⟩⟩
  | false=>
   rw [hk3] at e11
   have Hc:Hid (cur S.log k=some e.object):=Lib.hid (by rw [Hcur.out];unfold shown;rw [if_neg (of_decide_eq_false hk3)])
   clear hk3 Hcur
   have f0:=ec 0 _ rfl
   have f1:=ec 1 _ rfl
   have f2:=ec 2 _ rfl
   have f3:=ec 3 _ rfl
   have f4:=ec 4 _ rfl
   have f5:=ec 5 _ rfl
   have f6:=ec 6 _ rfl
   have f7:=ec 7 _ rfl
   have f8:=ec 8 _ rfl
   have f9:=ec 9 _ rfl
   rw [Nat.add_zero] at f0
   clear ec
   go_wp2_with (refine wpList_store_box (by rfl) _ _ _ (by rfl) go (objCs e.object v1 v2 v3).toArray (by rfl) (by rfl) _ _ (by exact BO2.out) (by exact Tryz.sizeObj) (by rfl) (objA_ones Hobj.out) ?_)
   intro WF bF tF
   have HF:=Lib.hid (tF.below HB2.out hgw)
   go_wp2_with fail
   refine bodyPost_ret (v:=.tuple #[objW e.object v1 v2 v3,.bool true]) ?_ rfl ?_
   ·exact results_two_box Tryz.results50 _ _ go _ _ _ _ (by rfl) bF Tryz.underlying30 rfl (by exact Tryz.sizeObj)
   ·exact⟨HF.out,.inr ⟨_,_,_,_,Hc.out,rfl,Hobj.out⟩⟩
end Sto
end Go.Proofs.YtnnceaapodgfbaaGreatDoor
namespace Go.Proofs.YtnnceaapodgfbaaGreatDoor
namespace Sto
open Go.RowKit
def cmpI (a b:Int):Int:=if a<b then -1 else if b<a then 1 else 0
theorem nan_any (x:Int) (w:World):Calls Tryz.prog 111 #[.int .i64 x] w fun e w'=>e=.returned (.bool false)∧w=w':=by
 go_enter Tryz.func111,Tryz.ntmps111
 go_wp2_with fail
 go_ret
 exact⟨by simp,rfl⟩
theorem cmpI_any (a b:Int) (w:World):Calls Tryz.prog 85 #[.int .i64 a,.int .i64 b] w fun e w'=>e=.returned (.int .i64 (cmpI a b))∧w=w':=by
 have H:=fun x (w:World)=>Lib.hid (nan_any x w)
 go_enter Tryz.func85,Tryz.ntmps85
 go_wp2_with fail
 refine (H a w).out.mono ?_
 rintro E w1 ⟨rfl,rfl⟩
 go_wp2_with fail
 refine (H b w).out.mono ?_
 rintro E w1 ⟨rfl,rfl⟩
 by_cases h1:a<b
 ·have hc:Hid (cmpI a b = -1):=Lib.hid (by unfold cmpI;rw [if_pos h1])
  go_wp2_with fail
  go_ret
  exact⟨by rw [hc.out];rfl,rfl⟩
 ·by_cases h2:b<a
  ·have hc:Hid (cmpI a b=1):=Lib.hid (by unfold cmpI;rw [if_neg h1,if_pos h2])
   go_wp2_with fail
   go_ret
   exact⟨by rw [hc.out];rfl,rfl⟩
  ·have hc:Hid (cmpI a b=0):=Lib.hid (by unfold cmpI;rw [if_neg h1,if_neg h2])
   go_wp2_with fail
   go_ret
   exact⟨by rw [hc.out];rfl,rfl⟩
theorem at1_any (a rev:Int) (v0 v1 v2 v3 v4 v5 v6 v7 v8 v9 v10:Value) (w:World):Calls Tryz.prog 84 #[.agg #[.int .i64 a,v0,v1,v2,v3,v4,v5,v6,v7,v8,v9,v10],.int .i64 rev] w fun e w'=>e=.returned (.int .i64 (cmpI a rev))∧Below w.heap.size w w':=by
 have H:=fun (w:World)=>Lib.hid (cmpI_any a rev w)
 go_enter Tryz.func84,Tryz.ntmps84
 go_wp2_with fail
 refine (H _).out.mono ?_
 rintro E w1 ⟨rfl,rfl⟩
 go_wp2_with fail
 go_ret
 refine⟨rfl,?_⟩
 exact (Below.refl _ w).alloc (Nat.le_refl _) _
theorem cmpI_neg {a b:Int}:cmpI a b<0↔a<b:=by unfold cmpI;(repeat' split)<;>omega
theorem cmpI_nil {a b:Int}:cmpI a b=0↔a=b:=by unfold cmpI;(repeat' split)<;>omega
theorem ver_cells {I:Dom} {w w':World} {va:Option Addr} {vn vc:Nat} {T:TypeId} {vs:List GEvent} (h:OwnAt (VerX I w) 12 w 0 T (.slice va vn vc) vs) (hn:vn=vs.length) (hb:Below w.heap.size w w') {m:Nat} {e:GEvent} (he:vs[m]? = some e) :
  ∃ b o v1 v2 v3,va=some ⟨b,o,none⟩∧ObjIn I w v1 v2 v3 e.object∧∀ i u,(Value.int .i64 e.rev :: (objCs e.object v1 v2 v3++[.bool (decide (e.kind=3))]))[i]? = some u→w'.cell? ⟨b,o+m*12+i,none⟩=some u:=by
 have hm:=(List.getElem?_eq_some_iff.1 he).1
 obtain⟨b,o,c',hv,_,_,hbs,hcell⟩:=h.row.form (by omega) (by omega)
 injection hv with u1 u2 u3
 obtain⟨ds,_,hcc,v1,v2,v3,rfl,hobj⟩:=hcell m e he
 exact⟨b,o,v1,v2,v3,u1,hobj,fun i u hu=>(hb.cell (p:=⟨b,_,none⟩) hbs).trans (hcc i u hu)⟩
set_option maxRecDepth 100000 in
set_option maxHeartbeats 1600000 in
theorem bsearch_any {I:Dom} {w:World} {va:Option Addr} {vn vc:Nat} {T:TypeId} {vs:List GEvent} (h:OwnAt (VerX I w) 12 w 0 T (.slice va vn vc) vs) (hn:vn=vs.length) (hsz:vn≤4194304) (hrise:∀ (a b:Nat) (x y:GEvent),a<b→vs[a]? = some x→vs[b]? = some y→x.rev<y.rev) (rev:Int) :
  Calls Tryz.prog 83 #[.slice va vn vc,.int .i64 rev,.func (.func 84) #[] #[]] w fun e w'=>Below w.heap.size w w'∧∃ i is,e=.returned (.tuple #[.int .i64 (i:Nat),.bool is])∧i≤vn∧(∀ t x,t<i→vs[t]? = some x→x.rev<rev)∧(∀ t x,i≤t→vs[t]? = some x→rev≤x.rev)∧(is=true↔∃ x,vs[i]? = some x∧x.rev=rev):=by
 have HR:=Lib.hid h
 have HM:=Lib.hid hrise
 have HN:=Lib.hid hn
 clear h hrise
 clear hn
 go_enter Tryz.func83,Tryz.ntmps83
 go_wp2_with fail
 go_loopg [9,10] vn (fun kx s9 s10 wr=>∃ lo hi:Nat,s9=.int .i64 lo∧s10=.int .i64 hi∧lo≤hi∧hi≤vn∧hi - lo≤kx∧Hid (Below w.heap.size w wr)∧Hid ((∀ t x,t<lo→vs[t]? = some x→x.rev<rev)∧(∀ t x,hi≤t→vs[t]? = some x→rev≤x.rev)))
 case atStart=>exact⟨0,vn,rfl,rfl,Nat.zero_le _,Nat.le_refl _,by omega,Lib.hid (Below.refl _ w),Lib.hid ⟨fun t x ht=>absurd ht (Nat.not_lt_zero _),fun t x h1 h2=>by have:=(List.getElem?_eq_some_iff.1 h2).1;have:=HN.out;omega⟩⟩
 case round=>
  obtain⟨lo,hi,rfl,rfl,hlh,hin,hg,HB,HF⟩:=hrel
  by_cases hlt:lo<hi
  ·obtain⟨md,Hmd⟩:∃ md:Nat,Hid (md=(lo+hi) / 2):=⟨_,Lib.hid rfl⟩
   have m1:lo≤md∧md<hi:=by have:=Hmd.out;omega
   obtain⟨e,he⟩:∃ e,vs[md]? = some e:=⟨vs[md]'(by have:=HN.out;omega),List.getElem?_eq_getElem _⟩
   obtain⟨b,o,v1,v2,v3,hva,hobj,ec⟩:=ver_cells HR.out HN.out HB.out he
   have HE:=Lib.hid he
   have hmd:((lo:Int)+(hi:Int)) / 2=(md:Int):=by rw [Hmd.out];omega
   obtain⟨rv,Hrv⟩:∃ rv,Hid (e.rev=rv):=⟨_,Lib.hid rfl⟩
   rw [Hrv.out] at ec
   have f0:=ec 0 _ rfl
   have f1:=ec 1 _ rfl
   have f2:=ec 2 _ rfl
   have f3:=ec 3 _ rfl
   have f4:=ec 4 _ rfl
   have f5:=ec 5 _ rfl
   have f6:=ec 6 _ rfl
   have f7:=ec 7 _ rfl
   have f8:=ec 8 _ rfl
   have f9:=ec 9 _ rfl
   have f10:=ec 10 _ rfl
   have f11:=ec 11 _ rfl
   rw [Nat.add_zero] at f0
   subst hva
   clear ec hobj he
   have HA:=fun wr=>Lib.hid (at1_any rv rev (.string e.object.okey.kind) (.string e.object.okey.space) (.string e.object.okey.name) v1 v2 v3 (.bool e.object.ending) (.string e.object.uid) (.int .i64 e.object.rev) (.string e.object.doc) (.bool (decide (e.kind=3))) wr)
   by_cases hc:cmpI rv rev<0
   ·have Hc:=Lib.hid (cmpI_neg.1 hc)
    go_wp2_with fail
    refine (HA _).out.mono ?_
    rintro E w' ⟨rfl,hb⟩
    have HB':=Lib.hid (HB.out.trans (hb.mono HB.out.size))
    clear hb
    go_wp2_with fail
    go_roundg (hi - (md+1))
    case measure=>omega
    case rel=>
     exact⟨md+1,hi,by simp,rfl,by omega,hin,Nat.le_refl _,HB',Lib.hid ⟨fun t x ht hx=>by
      rcases Nat.lt_or_ge t md with h1 | h1
      ·have:=HM.out t md x e h1 hx HE.out;have:=Hrv.out;have:=Hc.out;omega
      ·have h2:t=md:=by omega
       rw [h2,HE.out] at hx
       cases hx
       rw [Hrv.out]
       exact Hc.out,HF.out.2⟩⟩
   ·have Hc:Hid (rev≤rv):=Lib.hid (Int.not_lt.1 fun h=>hc (cmpI_neg.2 h))
    go_wp2_with fail
    refine (HA _).out.mono ?_
    rintro E w' ⟨rfl,hb⟩
    have HB':=Lib.hid (HB.out.trans (hb.mono HB.out.size))
    clear hb
    go_wp2_with fail
    go_roundg (md - lo)
    case measure=>omega
    case rel=>
     exact⟨lo,md,rfl,rfl,by omega,by omega,Nat.le_refl _,HB',Lib.hid ⟨HF.out.1,fun t x ht hx=>by
      rcases Nat.lt_or_ge md t with h1 | h1
      ·have:=HM.out md t e x h1 HE.out hx;have:=Hrv.out;have:=Hc.out;omega
      ·have h2:t=md:=by omega
       rw [h2,HE.out] at hx
       cases hx
       rw [Hrv.out]
       exact Hc.out⟩⟩
  ·obtain rfl:hi=lo:=by omega
   by_cases hn:hi<vn
   ·obtain⟨e,he⟩:∃ e,vs[hi]? = some e:=⟨vs[hi]'(by have:=HN.out;omega),List.getElem?_eq_getElem _⟩
    obtain⟨b,o,v1,v2,v3,hva,hobj,ec⟩:=ver_cells HR.out HN.out HB.out he
    have HE:=Lib.hid he
    obtain⟨rv,Hrv⟩:∃ rv,Hid (e.rev=rv):=⟨_,Lib.hid rfl⟩
    rw [Hrv.out] at ec
    have f0:=ec 0 _ rfl
    have f1:=ec 1 _ rfl
    have f2:=ec 2 _ rfl
    have f3:=ec 3 _ rfl
    have f4:=ec 4 _ rfl
    have f5:=ec 5 _ rfl
    have f6:=ec 6 _ rfl
    have f7:=ec 7 _ rfl
    have f8:=ec 8 _ rfl
    have f9:=ec 9 _ rfl
    have f10:=ec 10 _ rfl
    have f11:=ec 11 _ rfl
    rw [Nat.add_zero] at f0
    subst hva
    clear ec hobj he
    have HA:=fun wr=>Lib.hid (at1_any rv rev (.string e.object.okey.kind) (.string e.object.okey.space) (.string e.object.okey.name) v1 v2 v3 (.bool e.object.ending) (.string e.object.uid) (.int .i64 e.object.rev) (.string e.object.doc) (.bool (decide (e.kind=3))) wr)
    go_wp2_with fail
    refine (HA _).out.mono ?_
    rintro E w' ⟨rfl,hb⟩
    have HB':=Lib.hid (HB.out.trans (hb.mono HB.out.size))
    clear hb
    go_wp2_with fail
    go_ret2
    exact⟨HB'.out,hi,cmpI rv rev == 0,rfl,hin,HF.out.1,HF.out.2,⟨fun h=>⟨e,HE.out,by rw [Hrv.out];exact cmpI_nil.1 (eq_of_beq h)⟩,fun ⟨x,h1,h2⟩=>by rw [HE.out] at h1;cases h1;rw [←h2,Hrv.out];exact beq_iff_eq.2 (cmpI_nil.2 rfl)⟩⟩
   ·go_wp2_with fail
    go_ret2
    exact⟨HB.out,hi,false,rfl,hin,HF.out.1,HF.out.2,⟨fun h=>(by cases h),fun ⟨x,h1,h2⟩=>by have:=(List.getElem?_eq_some_iff.1 h1).1;have:=HN.out;omega⟩⟩
end Sto
end Go.Proofs.YtnnceaapodgfbaaGreatDoor
