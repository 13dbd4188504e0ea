/- Texts of ours joined. -/
import Derived.Test.YtnnceaapodgfbaaGreatDoorShelf
import Derived.Lib.ParseIntBCases
import Derived.Lib.AtoiErrMem
import Derived.Shelf.Spec.SearchS
import Derived.WalkSpells
import Derived.Shelf.Spec.SlicesInsertGrow
import Derived.Test.YtnnceaapodgfbaaGreatDoorAz2
set_option linter.unusedVariables false
set_option linter.unusedSimpArgs false
namespace Go.Proofs.YtnnceaapodgfbaaGreatDoor
open Go
namespace JP
theorem joinB_one (x sep:Bs):Lib.join [x] sep=x:=by simp [Lib.join,List.intercalate]
theorem joinB_more (x y:Bs) (r:List Bs) (sep:Bs):Lib.join (x :: y :: r) sep=x++(sep++Lib.join (y :: r) sep):=by simp [Lib.join,List.intercalate]
theorem skip_of {c:UInt8} (t:Bs) (h:blank c=false):skip (c :: t)=c :: t:=by
 unfold skip
 rw [List.dropWhile_cons_of_neg (by simp [h])]
theorem digit_of {k:Nat} (h:k<10):digit (UInt8.ofNat (48+k))=true:=by
 have:∀ i:Fin 10,digit (UInt8.ofNat (48+i.val))=true:=by decide
 exact this ⟨k,h⟩
theorem digit_val {k:Nat} (h:k<10):Lib.digitVal (UInt8.ofNat (48+k))=some k:=by
 have:∀ i:Fin 10,Lib.digitVal (UInt8.ofNat (48+i.val))=some i.val:=by decide
 exact this ⟨k,h⟩
theorem digit_nought {k:Nat} (h:k<10) (h0:k≠0):UInt8.ofNat (48+k)≠48:=by
 have:∀ i:Fin 10,i.val≠0→UInt8.ofNat (48+i.val)≠48:=by decide
 exact this ⟨k,h⟩ h0
theorem dec_digits (u:Nat):∀ c∈Lib.decDigits u,digit c=true:=by
 induction u using Nat.strongRecOn with
 | _ u ih=>
  intro c hc
  by_cases h:u<10
  ·rw [Lib.decDigits,dif_pos h,List.mem_singleton] at hc
   rw [hc];exact digit_of h
  ·rw [Lib.decDigits,dif_neg h,List.mem_append,List.mem_singleton] at hc
   rcases hc with hc | rfl
   ·exact ih _ (by omega) c hc
   ·exact digit_of (by omega)
theorem dec_head (u:Nat):∃ c t,Lib.decDigits u=c :: t∧(c=48→u=0∧t = []):=by
 induction u using Nat.strongRecOn with
 | _ u ih=>
  by_cases h:u<10
  ·refine⟨_,[],by rw [Lib.decDigits,dif_pos h],fun h0=>⟨?_,rfl⟩⟩
   by_cases hu:u=0
   ·exact hu
   ·exact absurd h0 (digit_nought h hu)
  ·obtain⟨c,t,hd,hc⟩:=ih (u / 10) (by omega)
   exact⟨c,t++[UInt8.ofNat (48+u % 10)],by rw [Lib.decDigits,dif_neg h,hd];rfl,fun h0=>by have:=(hc h0).1;omega⟩
theorem decFrom_append (acc:Nat) (l:Bs) (b:UInt8):Lib.decFrom acc (l++[b])=(Lib.decFrom acc l).bind fun m=>(Lib.digitVal b).map fun d=>m*10+d:=by
 induction l generalizing acc with
 | nil=>
  simp only [List.nil_append,Lib.decFrom,Option.bind_some]
  cases Lib.digitVal b<;>rfl
 | cons c r ih=>
  simp only [List.cons_append,Lib.decFrom]
  cases Lib.digitVal c with
  | none=>rfl
  | some d=>exact ih _
theorem dec_value (u:Nat):Lib.decFrom 0 (Lib.decDigits u)=some u:=by
 induction u using Nat.strongRecOn with
 | _ u ih=>
  by_cases h:u<10
  ·rw [Lib.decDigits,dif_pos h]
   unfold Lib.decFrom
   rw [digit_val h]
   show Lib.decFrom (0*10+u) []=some u
   rw [Nat.zero_mul,Nat.zero_add]
   rfl
  ·rw [Lib.decDigits,dif_neg h,decFrom_append,ih _ (by omega),digit_val (by omega)]
   simp
   omega
theorem nDigits_le:∀ (k u:Nat),0<k→u<10 ^ k→Lib.nDigits u≤k
 | 0,_,h,_=>by omega
 | k+1,u,_,h=>by
  by_cases hu:u<10
  ·rw [Lib.nDigits_small hu];omega
  ·rw [Lib.nDigits_big hu]
   have hk:0<k:=by
    rcases Nat.eq_zero_or_pos k with rfl | hk
    ·simp at h;omega
    ·exact hk
   have:=nDigits_le k (u / 10) hk (by rw [Nat.pow_succ] at h;omega)
   omega
theorem dec_length {u:Nat} (h:u<1000000000000000000):(Lib.decDigits u).length≤18:=by
 rw [Lib.decDigits_length]
 exact nDigits_le 18 u (by decide) (by simpa using h)
def NoDigit (r:Bs):Prop:=∀ c t,r=c :: t→digit c=false
theorem span_digits {ds rest:Bs} (h:∀ c∈ds,digit c=true) (hr:NoDigit rest):(ds++rest).takeWhile digit=ds∧(ds++rest).dropWhile digit=rest:=by
 rw [List.takeWhile_append_of_pos h,List.dropWhile_append_of_pos h]
 cases rest with
 | nil=>simp
 | cons c t=>
  have:=hr c t rfl
  rw [List.takeWhile_cons_of_neg (by simp [this]),List.dropWhile_cons_of_neg (by simp [this])]
  simp
theorem digit_ne45 {c:UInt8} (h:digit c=true):c≠45:=fun e=>by rw [e] at h;revert h;decide
theorem sgn_of {c:UInt8} (t:Bs) (h:c≠45):sgn (c :: t)=c :: t∧negB (c :: t)=false:=by
 constructor
 ·unfold sgn;split
  ·rename_i he;cases he;exact absurd rfl h
  ·rfl
 ·unfold negB;split
  ·rename_i he;cases he;exact absurd rfl h
  ·rfl
theorem num_reads {n:Int} {rest:Bs} (h:numOK n) (hr:NoDigit rest):numE (Lib.itoa n++rest)=0∧numV (Lib.itoa n++rest)=n∧numR (Lib.itoa n++rest)=rest:=by
 obtain⟨h1,h2⟩:=h
 by_cases hn:n<0
 ·obtain⟨c,t,hd,hc⟩:=dec_head n.natAbs
  have hl:=dec_length (u:=n.natAbs) (by omega)
  have hs:=span_digits (dec_digits n.natAbs) hr
  have e0:Lib.itoa n++rest=45 :: (Lib.decDigits n.natAbs++rest):=by unfold Lib.itoa;rw [if_pos hn];rfl
  have e1:sgn (Lib.itoa n++rest)=Lib.decDigits n.natAbs++rest:=by rw [e0];rfl
  have e2:negB (Lib.itoa n++rest)=true:=by rw [e0];rfl
  have e3:digs (Lib.itoa n++rest)=Lib.decDigits n.natAbs:=by unfold digs;rw [e1,hs.1]
  refine⟨?_,?_,?_⟩
  ·unfold numE
   rw [e3,hd]
   rw [hd] at hl
   have:c≠48:=fun h0=>by have:=(hc h0).1;omega
   simp only [this,false_and,if_false]
   rw [if_neg (by omega)]
  ·unfold numV decV
   rw [e2,e3,dec_value]
   simp
   omega
  ·unfold numR;rw [e1,hs.2]
 ·obtain⟨c,t,hd,hc⟩:=dec_head n.toNat
  have hl:=dec_length (u:=n.toNat) (by omega)
  have hs:=span_digits (dec_digits n.toNat) hr
  have hdc:=dec_digits n.toNat c (by rw [hd];exact List.mem_cons_self ..)
  have e0:Lib.itoa n++rest=c :: (t++rest):=by unfold Lib.itoa;rw [if_neg hn,hd];rfl
  have e1:sgn (Lib.itoa n++rest)=Lib.decDigits n.toNat++rest:=by rw [e0,(sgn_of _ (digit_ne45 hdc)).1,hd];rfl
  have e2:negB (Lib.itoa n++rest)=false:=by rw [e0,(sgn_of _ (digit_ne45 hdc)).2]
  have e3:digs (Lib.itoa n++rest)=Lib.decDigits n.toNat:=by unfold digs;rw [e1,hs.1]
  refine⟨?_,?_,?_⟩
  ·unfold numE
   rw [e3,hd]
   rw [hd] at hl
   dsimp only
   rw [if_neg,if_neg (by omega)]
   rintro ⟨h0,h9⟩
   rw [e2] at h9
   rcases h9 with h9 | h9
   ·exact h9 (hc h0).2
   ·cases h9
  ·unfold numV decV
   rw [e2,e3,dec_value]
   simp
   omega
  ·unfold numR;rw [e1,hs.2]
theorem textP_other {c:UInt8} (r:Bs) (h1:c≠34) (h2:c≠92):textP (c :: r)=if c<32∨126<c then none else (textP r).map fun x=>(c :: x.1,x.2):=by
 rw [textP]
 ·intro h;exact h1 h
 ·intro h;exact absurd h h2
 ·intro d r' h;exact absurd h h2
theorem stand_cases {c:UInt8} (h:stand c=true):c=10∨c=9∨(¬(c<32∨126<c)):=by
 unfold stand at h
 simp only [Bool.or_eq_true,Bool.and_eq_true,decide_eq_true_eq,beq_iff_eq] at h
 rcases h with (h | h) | h
 ·refine .inr (.inr fun h9=>?_)
  rcases h9 with h9 | h9
  ·exact absurd h9 (UInt8.not_lt.2 h.1)
  ·exact absurd h9 (UInt8.not_lt.2 h.2)
 ·exact .inl h
 ·exact .inr (.inl h)
theorem quote_reads:∀ (s rest:Bs),s.all stand=true→textP (s.flatMap escB++34 :: rest)=some (s,rest)
 | [],rest,_=>rfl
 | c :: s,rest,h=>by
  rw [List.all_cons,Bool.and_eq_true] at h
  have ih:=quote_reads s rest h.2
  rw [List.flatMap_cons,List.append_assoc]
  by_cases h1:c=34∨c=92
  ·have:escB c = [92,c]:=by unfold escB;rw [if_pos h1]
   rw [this]
   show textP (92 :: c :: (s.flatMap escB++34 :: rest))=_
   rw [textP]
   have:escV c=some c:=by unfold escV;rw [if_pos h1]
   rw [this]
   simp only [ih,Option.map_some]
  ·by_cases h2:c=10
   ·subst h2
    show textP (92 :: 110 :: (s.flatMap escB++34 :: rest))=_
    rw [textP]
    show (textP _).map _=_
    rw [ih];rfl
   ·by_cases h3:c=9
    ·subst h3
     show textP (92 :: 116 :: (s.flatMap escB++34 :: rest))=_
     rw [textP]
     show (textP _).map _=_
     rw [ih];rfl
    ·have:escB c = [c]:=by unfold escB;rw [if_neg h1,if_neg h2,if_neg h3]
     rw [this]
     show textP (c :: (s.flatMap escB++34 :: rest))=_
     have h4:¬(c<32∨126<c):=by
      rcases stand_cases h.1 with h5 | h5 | h5
      ·exact absurd h5 h2
      ·exact absurd h5 h3
      ·exact h5
     rw [textP_other _ (fun h=>h1 (.inl h)) (fun h=>h1 (.inr h)),if_neg h4,ih]
     rfl
def EndOK (v:JV) (rest:Bs):Prop:=match v with
 | .num _=>NoDigit rest
 | _=>True
theorem endOK_of {c:UInt8} (v:JV) (t:Bs) (h:digit c=false):EndOK v (c :: t):=by
 unfold EndOK
 split
 ·intro c' t' h';cases h';exact h
 ·trivial
theorem digit_starts {c:UInt8} (h:digit c=true):starts c=true∧blank c=false∧c≠93∧c≠91∧c≠123∧c≠34∧c≠116∧c≠102∧c≠110:=by
 have:∀ c:UInt8,digit c=true→starts c=true∧blank c=false∧c≠93∧c≠91∧c≠123∧c≠34∧c≠116∧c≠102∧c≠110:=by
  intro c h
  refine⟨by simp [starts,h],?_,?_,?_,?_,?_,?_,?_,?_⟩
  ·unfold digit at h
   simp only [Bool.and_eq_true,decide_eq_true_eq] at h
   unfold blank
   simp only [Bool.or_eq_false_iff,beq_eq_false_iff_ne]
   refine⟨⟨?_,?_⟩,?_⟩<;>(intro e;subst e;revert h;decide)
  all_goals (intro e;subst e;revert h;decide)
 exact this c h
theorem num_head (n:Int):∃ c t,Lib.itoa n=c :: t∧(c=45∨digit c=true):=by
 unfold Lib.itoa
 split
 ·exact⟨45,_,rfl,.inl rfl⟩
 ·obtain⟨c,t,hd,_⟩:=dec_head n.toNat
  exact⟨c,t,hd,.inr (dec_digits n.toNat c (by rw [hd];exact List.mem_cons_self ..))⟩
theorem text_head (v:JV):∃ c t,text v=c :: t∧starts c=true∧blank c=false∧c≠93:=by
 cases v with
 | nul=>exact⟨110,_,rfl,by decide,by decide,by decide⟩
 | bool b=>cases b with
  | true=>exact⟨116,_,rfl,by decide,by decide,by decide⟩
  | false=>exact⟨102,_,rfl,by decide,by decide,by decide⟩
 | num n=>
  obtain⟨c,t,h,hc⟩:=num_head n
  refine⟨c,t,h,?_⟩
  rcases hc with rfl | hc
  ·exact⟨by decide,by decide,by decide⟩
  ·have:=digit_starts hc;exact⟨this.1,this.2.1,this.2.2.1⟩
 | str s=>exact⟨34,_,rfl,by decide,by decide,by decide⟩
 | list l=>exact⟨91,_,by rw [text],by decide,by decide,by decide⟩
 | obj l=>exact⟨123,_,by rw [text],by decide,by decide,by decide⟩
theorem begin_at {c:UInt8} (t:Bs) (m:Nat) (st:List Fr) (h:blank c=false):beginP (c :: t) m st=beginC c t m st:=by
 unfold beginP
 rw [skip_of t h]
theorem begin_plain {c:UInt8} {t:Bs} {m:Nat} {st:List Fr} (h:starts c=true) (hm:m+1≤200) (h1:c≠91) (h2:c≠123):beginC c t m st=plainP c (c :: t) (m+1) st:=by
 unfold beginC
 rw [if_neg (by simp [h]),if_neg (by omega),if_neg (by simp [h1,h2]),if_neg h1,if_neg h2]
theorem word_reads (v:JV) (p rest:Bs) (m:Nat) (st:List Fr):wordP v p (p++rest) m st=.whole v rest m st:=by
 unfold wordP
 rw [if_pos (List.isPrefixOf_iff_prefix.2 (List.prefix_append _ _)),List.drop_left]
theorem put_end {n:Bs} {v:JV}:∀ {d:List (Bs × JV)},(∀ x∈d,x.1<n)→put n v d=d++[(n,v)]
 | [],_=>rfl
 | (m,x) :: r,h=>by
  have:=h (m,x) (List.mem_cons_self ..)
  unfold put
  rw [if_pos this,put_end fun y hy=>h y (List.mem_cons_of_mem _ hy)]
  rfl
theorem bs_irrefl (n:Bs):¬n<n:=List.lt_irrefl n
theorem get_none {n:Bs}:∀ {d:List (Bs × JV)},(∀ x∈d,x.1≠n)→get n d=none
 | [],_=>rfl
 | (m,x) :: r,h=>by
  unfold get
  rw [if_neg (h (m,x) (List.mem_cons_self ..)),get_none fun y hy=>h y (List.mem_cons_of_mem _ hy)]
theorem reads:(∀ v,wf v→∀ (rest:Bs) (m:Nat) (st:List Fr),m+size v≤200→deep v+st.length≤10→EndOK v rest→fin (.more (text v++rest) m st)=fin (.whole v rest (m+size v) st))∧
  (∀ l,wfL l→l≠[]→∀ (d:List JV) (rest:Bs) (m:Nat) (st:List Fr),m+sizeL l≤200→deepL l+st.length+1≤10→fin (.more (Lib.join (textL l) [44]++93 :: rest) m (.lst d :: st))=fin (.whole (.list (d++l)) rest (m+sizeL l) st))∧
  (∀ l,wfF l→l≠[]→∀ (d:List (Bs × JV)) (rest:Bs) (m:Nat) (st:List Fr),Srt (d++l)→m+sizeF l≤200→deepF l+st.length+1≤10→fin (fieldP (Lib.join (textF l) [44]++125 :: rest) m d st)=fin (.whole (.obj (d++l)) rest (m+sizeF l) st)):=by
 refine JV.both ?_ ?_ ?_ ?_ ?_ ?_ ?_ ?_ ?_ ?_
 ·intro _ rest m st hm _ _
  rw [fin_more]
  show fin (beginP (110 :: ([117,108,108]++rest)) m st)=_
  simp only [size] at hm ⊢
  rw [begin_at _ _ _ (by decide),begin_plain (by decide) hm (by decide) (by decide)]
  show fin (wordP .nul [110,117,108,108] ([110,117,108,108]++rest) (m+1) st)=_
  rw [word_reads]
 ·intro b _ rest m st hm _ _
  rw [fin_more]
  simp only [size] at hm ⊢
  cases b with
  | true=>
   show fin (beginP (116 :: ([114,117,101]++rest)) m st)=_
   rw [begin_at _ _ _ (by decide),begin_plain (by decide) hm (by decide) (by decide)]
   show fin (wordP (.bool true) [116,114,117,101] ([116,114,117,101]++rest) (m+1) st)=_
   rw [word_reads]
  | false=>
   show fin (beginP (102 :: ([97,108,115,101]++rest)) m st)=_
   rw [begin_at _ _ _ (by decide),begin_plain (by decide) hm (by decide) (by decide)]
   show fin (wordP (.bool false) [102,97,108,115,101] ([102,97,108,115,101]++rest) (m+1) st)=_
   rw [word_reads]
 ·intro n hn rest m st hm _ he
  simp only [size] at hm ⊢
  rw [fin_more]
  show fin (beginP (Lib.itoa n++rest) m st)=_
  obtain⟨e1,e2,e3⟩:=num_reads (by simpa only [wf] using hn) he
  obtain⟨c,t,hc,hd⟩:=num_head n
  have hb:starts c=true∧blank c=false∧c≠91∧c≠123∧c≠34∧c≠116∧c≠102∧c≠110:=by
   rcases hd with rfl | hd
   ·decide
   ·have:=digit_starts hd
    exact⟨this.1,this.2.1,this.2.2.2.1,this.2.2.2.2.1,this.2.2.2.2.2.1,this.2.2.2.2.2.2.1,this.2.2.2.2.2.2.2.1,this.2.2.2.2.2.2.2.2⟩
  obtain⟨b1,b2,b3,b4,b5,b6,b7,b8⟩:=hb
  rw [hc] at e1 e2 e3 ⊢
  rw [show c :: t++rest=c :: (t++rest) from rfl] at e1 e2 e3 ⊢
  rw [begin_at _ _ _ b2,begin_plain b1 hm b3 b4]
  unfold plainP
  rw [if_neg b5,if_neg b6,if_neg b7,if_neg b8,if_pos e1,e2,e3]
 ·intro s hs rest m st hm _ _
  simp only [size] at hm ⊢
  rw [fin_more]
  have:text (.str s)++rest=34 :: (s.flatMap escB++34 :: rest):=by rw [text];unfold quote;simp
  rw [this,begin_at _ _ _ (by decide),begin_plain (by decide) hm (by decide) (by decide)]
  unfold plainP
  rw [if_pos rfl,List.tail_cons,quote_reads s rest (by simpa only [wf] using hs)]
 ·intro l ih hw rest m st hm hd _
  simp only [wf] at hw
  simp only [size] at hm ⊢
  simp only [deep] at hd
  rw [fin_more]
  have e0:text (.list l)++rest=91 :: (Lib.join (textL l) [44]++93 :: rest):=by rw [text];simp
  rw [e0,begin_at _ _ _ (by decide)]
  unfold beginC
  rw [if_neg (by decide),if_neg (by omega),if_neg (by rintro ⟨_,h⟩;omega),if_pos rfl]
  cases l with
  | nil=>
   have e1:skip (Lib.join (textL []) [44]++93 :: rest)=93 :: rest:=skip_of _ (by decide)
   rw [e1,List.head?_cons,if_pos rfl]
   rfl
  | cons v r=>
   have hh:∃ c t,Lib.join (textL (v :: r)) [44]++93 :: rest=c :: t∧blank c=false∧c≠93:=by
    obtain⟨c,t,h1,_,h2,h3⟩:=text_head v
    rw [textL]
    cases hr:textL r with
    | nil=>rw [joinB_one,h1];exact⟨c,_,rfl,h2,h3⟩
    | cons y q=>rw [joinB_more,h1];exact⟨c,_,rfl,h2,h3⟩
   obtain⟨c,t,h1,h2,h3⟩:=hh
   have:=ih hw (by simp) [] rest (m+1) st (by omega) (by omega)
   rw [h1] at this ⊢
   rw [skip_of _ h2,if_neg (by simpa using h3),this,Nat.add_assoc]
   rfl
 ·intro l ih hw rest m st hm hd _
  simp only [wf] at hw
  simp only [size] at hm ⊢
  simp only [deep] at hd
  rw [fin_more]
  have e0:text (.obj l)++rest=123 :: (Lib.join (textF l) [44]++125 :: rest):=by rw [text];simp
  rw [e0,begin_at _ _ _ (by decide)]
  unfold beginC
  rw [if_neg (by decide),if_neg (by omega),if_neg (by rintro ⟨_,h⟩;omega),if_neg (by decide),if_pos rfl]
  cases l with
  | nil=>
   have e1:skip (Lib.join (textF []) [44]++125 :: rest)=125 :: rest:=skip_of _ (by decide)
   rw [e1,List.head?_cons,if_pos rfl]
   rfl
  | cons x r=>
   obtain⟨n,v⟩:=x
   have hh:∃ t,Lib.join (textF ((n,v) :: r)) [44]++125 :: rest=34 :: t:=by
    rw [textF]
    cases hr:textF r with
    | nil=>rw [joinB_one];exact⟨_,rfl⟩
    | cons y q=>rw [joinB_more];exact⟨_,rfl⟩
   obtain⟨t,h1⟩:=hh
   have:=ih hw.2 (by simp) [] rest (m+1) st (by simpa using hw.1) (by omega) (by omega)
   rw [h1] at this ⊢
   rw [skip_of _ (by decide),if_neg (by simp),this,Nat.add_assoc]
   rfl
 ·intro _ h;exact absurd rfl h
 ·intro v r ihv ihr hw _ d rest m st hm hd
  rw [wfL] at hw
  rw [sizeL] at hm ⊢
  rw [deepL] at hd
  cases r with
  | nil=>
   rw [textL,textL,joinB_one]
   rw [ihv hw.1 (93 :: rest) m (.lst d :: st) (by omega) (by simp only [List.length_cons];omega) (endOK_of _ _ (by decide)),fin_whole]
   unfold goesP
   dsimp only
   rw [skip_of _ (by decide)]
   dsimp only
   rw [if_pos rfl,sizeL]
   rfl
  | cons x q=>
   have e0:Lib.join (textL (v :: x :: q)) [44]++93 :: rest=text v++(44 :: (Lib.join (textL (x :: q)) [44]++93 :: rest)):=by
    rw [textL,textL,joinB_more];simp
   rw [e0,ihv hw.1 _ m (.lst d :: st) (by omega) (by simp only [List.length_cons];omega) (endOK_of _ _ (by decide)),fin_whole]
   unfold goesP
   dsimp only
   rw [skip_of _ (by decide)]
   dsimp only
   rw [if_neg (by decide),if_pos rfl]
   rw [ihr hw.2 (by simp) (d++[v]) rest (m+size v) st (by omega) (by omega),Nat.add_assoc]
   simp
 ·intro _ h;exact absurd rfl h
 ·intro n v r ihv ihr hw _ d rest m st hs hm hd
  rw [wfF] at hw
  rw [sizeF] at hm ⊢
  rw [deepF] at hd
  have hlt:∀ x∈d,x.1<n:=fun x hx=>(List.pairwise_append.1 hs).2.2 x hx (n,v) (List.mem_cons_self ..)
  have hg:get n d=none:=get_none fun x hx e=>bs_irrefl n (by have:=hlt x hx;rwa [e] at this)
  have step:∀ tail:Bs,(∃ c t,tail=c :: t∧digit c=false)→fin (fieldP (quote n++58 :: (text v++tail)) m d st)=fin (.whole v tail (m+size v) (.ob d n :: st)):=by
   rintro tail ⟨c,t,rfl,hc⟩
   have e1:quote n++58 :: (text v++c :: t)=34 :: (n.flatMap escB++34 :: 58 :: (text v++c :: t)):=by unfold quote;simp
   rw [e1]
   unfold fieldP
   rw [skip_of _ (by decide)]
   dsimp only
   rw [if_pos rfl,quote_reads n _ hw.1]
   dsimp only
   unfold fieldN
   rw [hg,if_neg (by simp),skip_of _ (by decide)]
   dsimp only
   rw [if_pos rfl]
   exact ihv hw.2.1 _ m _ (by omega) (by simp only [List.length_cons];omega) (endOK_of _ _ hc)
  cases r with
  | nil=>
   have e0:Lib.join (textF [(n,v)]) [44]++125 :: rest=quote n++58 :: (text v++125 :: rest):=by
    rw [textF,textF,joinB_one];simp
   rw [e0,step _ ⟨125,rest,rfl,by decide⟩,fin_whole]
   unfold goesP
   dsimp only
   rw [skip_of _ (by decide)]
   dsimp only
   rw [if_pos rfl,put_end hlt,sizeF]
   rfl
  | cons x q=>
   obtain⟨k,u⟩:=x
   have e0:Lib.join (textF ((n,v) :: (k,u) :: q)) [44]++125 :: rest=quote n++58 :: (text v++(44 :: (Lib.join (textF ((k,u) :: q)) [44]++125 :: rest))):=by
    rw [textF,textF,joinB_more];simp
   rw [e0,step _ ⟨44,_,rfl,by decide⟩,fin_whole]
   unfold goesP
   dsimp only
   rw [skip_of _ (by decide)]
   dsimp only
   rw [if_neg (by decide),if_pos rfl,put_end hlt]
   rw [ihr hw.2.2 (by simp) (d++[(n,v)]) rest (m+size v) st (by simpa using hs) (by omega) (by omega),Nat.add_assoc]
   simp
end JP
end Go.Proofs.YtnnceaapodgfbaaGreatDoor
namespace Go.Proofs.YtnnceaapodgfbaaGreatDoor
open Go
namespace JP
def lenL:List JV→Nat
 | []=>0
 | v :: r=>(text v).length+1+lenL r
def lenF:List (Bs × JV)→Nat
 | []=>0
 | (n,v) :: r=>(quote n).length+1+(text v).length+1+lenF r
theorem lenL_append (a b:List JV):lenL (a++b)=lenL a+lenL b:=by
 induction a with
 | nil=>simp [lenL]
 | cons v r ih=>simp only [List.cons_append,lenL,ih];omega
theorem sizeL_append (a b:List JV):sizeL (a++b)=sizeL a+sizeL b:=by
 induction a with
 | nil=>simp [sizeL]
 | cons v r ih=>simp only [List.cons_append,sizeL,ih];omega
theorem deepL_append (a b:List JV):deepL (a++b)=max (deepL a) (deepL b):=by
 induction a with
 | nil=>simp [deepL]
 | cons v r ih=>simp only [List.cons_append,deepL,ih];omega
theorem wfL_append {a b:List JV}:wfL (a++b)↔wfL a∧wfL b:=by
 induction a with
 | nil=>simp [wfL]
 | cons v r ih=>simp only [List.cons_append,wfL,ih,and_assoc]
theorem join_len (l:List JV):(Lib.join (textL l) [44]).length+1=lenL l∨l = []:=by
 induction l with
 | nil=>exact .inr rfl
 | cons v r ih=>
  refine .inl ?_
  cases r with
  | nil=>simp [textL,joinB_one,lenL]
  | cons x q=>
   have h:=ih.resolve_right (by simp)
   rw [textL] at h
   rw [textL,textL,joinB_more,lenL]
   simp only [List.length_append,List.length_cons,List.length_nil] at h ⊢
   omega
theorem join_lenF (l:List (Bs × JV)):(Lib.join (textF l) [44]).length+1=lenF l∨l = []:=by
 induction l with
 | nil=>exact .inr rfl
 | cons x r ih=>
  obtain⟨n,v⟩:=x
  refine .inl ?_
  cases r with
  | nil=>simp [textF,joinB_one,lenF];omega
  | cons x q=>
   obtain⟨k,u⟩:=x
   have h:=ih.resolve_right (by simp)
   rw [textF] at h
   rw [textF,textF,joinB_more,lenF]
   simp only [List.length_append,List.length_cons,List.length_nil] at h ⊢
   omega
theorem text_list_len (l:List JV):(text (.list l)).length≤1+lenL l∨(l = []∧(text (.list l)).length=2):=by
 rcases join_len l with h | rfl
 ·refine .inl ?_
  rw [text];simp only [List.length_cons,List.length_append,List.length_nil];omega
 ·exact .inr ⟨rfl,by rw [text];rfl⟩
theorem text_obj_len (l:List (Bs × JV)):(text (.obj l)).length≤1+lenF l∨(l = []∧(text (.obj l)).length=2):=by
 rcases join_lenF l with h | rfl
 ·refine .inl ?_
  rw [text];simp only [List.length_cons,List.length_append,List.length_nil];omega
 ·exact .inr ⟨rfl,by rw [text];rfl⟩
theorem put_len (n:Bs) (v:JV):∀ d,get n d=none→lenF (put n v d)=lenF d+((quote n).length+1+(text v).length+1)
 | [],_=>by simp [put,lenF]
 | (m,x) :: r,h=>by
  unfold get at h
  by_cases e:m=n
  ·rw [if_pos e] at h;cases h
  ·rw [if_neg e] at h
   unfold put
   split
   ·simp only [lenF,put_len n v r h];omega
   ·simp only [lenF];omega
theorem put_size (n:Bs) (v:JV):∀ d,get n d=none→sizeF (put n v d)=sizeF d+size v
 | [],_=>by simp [put,sizeF]
 | (m,x) :: r,h=>by
  unfold get at h
  by_cases e:m=n
  ·rw [if_pos e] at h;cases h
  ·rw [if_neg e] at h
   unfold put
   split
   ·simp only [sizeF,put_size n v r h];omega
   ·simp only [sizeF];omega
theorem put_deep (n:Bs) (v:JV):∀ d,deepF (put n v d)≤max (deepF d) (deep v)
 | []=>by simp [put,deepF]
 | (m,x) :: r=>by
  unfold put
  split
  ·simp only [deepF];have:=put_deep n v r;omega
  ·split
   ·simp only [deepF];omega
   ·simp only [deepF];omega
theorem put_wf {n:Bs} {v:JV} (hn:n.all stand=true) (hv:wf v):∀ {d},wfF d→wfF (put n v d)
 | [],_=>by simp only [put,wfF];exact⟨hn,hv,trivial⟩
 | (m,x) :: r,h=>by
  rw [wfF] at h
  unfold put
  split
  ·rw [wfF];exact⟨h.1,h.2.1,put_wf hn hv h.2.2⟩
  ·split
   ·rw [wfF];exact⟨hn,hv,h.2.2⟩
   ·rw [wfF,wfF];exact⟨hn,hv,h⟩
theorem put_mem {n:Bs} {v:JV}:∀ {d} {y:Bs × JV},y∈put n v d→y=(n,v)∨y∈d
 | [],y,h=>by simp [put] at h;exact .inl h
 | (m,x) :: r,y,h=>by
  unfold put at h
  split at h
  ·rcases List.mem_cons.1 h with h | h
   ·exact .inr (List.mem_cons.2 (.inl h))
   ·rcases put_mem h with h | h
    ·exact .inl h
    ·exact .inr (List.mem_cons_of_mem _ h)
  ·split at h
   ·rcases List.mem_cons.1 h with h | h
    ·exact .inl h
    ·exact .inr (List.mem_cons_of_mem _ h)
   ·rcases List.mem_cons.1 h with h | h
    ·exact .inl h
    ·exact .inr h
theorem bs_trich (a b:Bs) (h1:¬a<b) (h2:a≠b):b<a:=by
 by_cases h:b<a
 ·exact h
 ·exact absurd (List.le_antisymm (List.not_lt.1 h) (List.not_lt.1 h1)) h2
theorem bs_trans {a b c:Bs} (h:a<b) (k:b<c):a<c:=List.lt_trans h k
theorem put_srt {n:Bs} {v:JV}:∀ {d},Srt d→Srt (put n v d)
 | [],_=>by simp [put,Srt]
 | (m,x) :: r,h=>by
  obtain⟨h1,h2⟩:=List.pairwise_cons.1 h
  unfold put
  by_cases c1:m<n
  ·rw [if_pos c1]
   refine List.pairwise_cons.2 ⟨fun y hy=>?_,put_srt h2⟩
   rcases put_mem hy with rfl | hy
   ·exact c1
   ·exact h1 y hy
  ·rw [if_neg c1]
   by_cases c2:m=n
   ·rw [if_pos c2]
    subst c2
    exact List.pairwise_cons.2 ⟨fun y hy=>h1 y hy,h2⟩
   ·rw [if_neg c2]
    have c3:=bs_trich _ _ c1 c2
    refine List.pairwise_cons.2 ⟨fun y hy=>?_,h⟩
    rcases List.mem_cons.1 hy with rfl | hy
    ·exact c3
    ·exact bs_trans c3 (h1 y hy)
theorem dec_lt:∀ (ds:Bs) (acc n:Nat),Lib.decFrom acc ds=some n→n<(acc+1)*10 ^ ds.length
 | [],acc,n,h=>by simp only [Lib.decFrom,Option.some.injEq] at h;subst h;simp
 | c :: r,acc,n,h=>by
  unfold Lib.decFrom at h
  cases hd:Lib.digitVal c with
  | none=>rw [hd] at h;cases h
  | some d=>
   rw [hd] at h
   have h1:=dec_lt r _ n h
   have h2:d<10:=by
    unfold Lib.digitVal at hd
    split at hd
    ·simp only [Option.some.injEq] at hd;omega
    ·cases hd
   rw [List.length_cons,Nat.pow_succ,Nat.mul_comm (10 ^ r.length) 10,←Nat.mul_assoc]
   refine Nat.lt_of_lt_of_le h1 (Nat.mul_le_mul_right _ ?_)
   omega
theorem decV_lt (ds:Bs):decV ds<10 ^ ds.length:=by
 unfold decV
 cases h:Lib.decFrom 0 ds with
 | none=>simp;exact Nat.pos_of_ne_zero (by simp)
 | some n=>have:=dec_lt ds 0 n h;simpa using this
theorem num_good {r:Bs} (h:numE r=0):numOK (numV r)∧(Lib.itoa (numV r)).length+(numR r).length≤r.length:=by
 have h2:(digs r).length+(numR r).length=(sgn r).length:=by
  unfold digs numR
  rw [←List.length_append,List.takeWhile_append_dropWhile]
 have hv:=decV_lt (digs r)
 have h0:0<(digs r).length∧(digs r).length≤18:=by
  unfold numE at h
  split at h
  ·cases h
  ·rename_i c t hd
   rw [hd]
   split at h
   ·cases h
   ·split at h
    ·cases h
    ·simp at *;omega
 have h18:(10:Nat) ^ (digs r).length≤10 ^ 18:=Nat.pow_le_pow_right (by decide) h0.2
 have hn:=nDigits_le _ _ h0.1 hv
 have hsg:(sgn r).length+(if negB r=true then 1 else 0)≤r.length:=by
  unfold sgn negB
  split
  ·simp
  ·simp
 have hlt:decV (digs r)<1000000000000000000:=Nat.lt_of_lt_of_le hv (by simpa using h18)
 unfold numV
 by_cases hb:negB r=true
 ·rw [if_pos hb] at hsg
  rw [if_pos hb]
  refine⟨by unfold numOK;omega,?_⟩
  unfold Lib.itoa
  split
  ·rw [List.length_cons,Lib.decDigits_length,show (-(decV (digs r):Int)).natAbs=decV (digs r) by omega]
   omega
  ·rw [Lib.decDigits_length,show (-(decV (digs r):Int)).toNat=0 by omega,Lib.nDigits_small (by decide)]
   omega
 ·rw [if_neg hb] at hsg
  rw [if_neg hb]
  refine⟨by unfold numOK;omega,?_⟩
  unfold Lib.itoa
  rw [if_neg (by omega),Lib.decDigits_length,show ((decV (digs r):Int)).toNat=decV (digs r) by omega]
  omega
theorem escV_stand {d c:UInt8} (h:escV d=some c):stand c=true∧(escB c).length≤2:=by
 unfold escV at h
 split at h
 ·rename_i hd
  cases h
  rcases hd with rfl | rfl<;>decide
 ·split at h
  ·cases h;decide
  ·split at h
   ·cases h;decide
   ·cases h
theorem textP_good:∀ (r:Bs) (x:Bs × Bs),textP r=some x→x.1.all stand=true∧(x.1.flatMap escB).length+1+x.2.length≤r.length:=by
 intro r
 induction r using textP.induct with
 | case1=>intro x h;simp [textP] at h
 | case2 r=>intro x h;simp only [textP,Option.some.injEq] at h;subst h;simp;omega
 | case3=>intro x h;simp [textP] at h
 | case4 d r hd=>intro x h;simp [textP,hd] at h
 | case5 d r c hd ih=>
  intro x h
  simp only [textP,hd] at h
  obtain⟨y,hy,rfl⟩:=Option.map_eq_some_iff.1 h
  obtain⟨h1,h2⟩:=ih y hy
  obtain⟨h3,h4⟩:=escV_stand hd
  refine⟨by simp only [List.all_cons,h3,h1,Bool.and_self],?_⟩
  simp only [List.flatMap_cons,List.length_append,List.length_cons]
  omega
 | case6 c r h1 h2 h3 h4=>intro x h;rw [textP] at h<;>simp_all
 | case7 c r h1 h2 h3 h4 ih=>
  intro x h
  have c34:c≠34:=fun e=>h1 e
  have c92:c≠92:=fun e=>by
   cases r with
   | nil=>exact h2 e rfl
   | cons d t=>exact h3 d t e rfl
  rw [textP_other _ c34 c92,if_neg h4] at h
  obtain⟨y,hy,rfl⟩:=Option.map_eq_some_iff.1 h
  obtain⟨k1,k2⟩:=ih y hy
  have hc:stand c=true:=by
   unfold stand
   have a:32≤c:=UInt8.not_lt.1 fun h=>h4 (.inl h)
   have b:c≤126:=UInt8.not_lt.1 fun h=>h4 (.inr h)
   simp [a,b]
  have he:(escB c).length=1:=by
   unfold escB
   have c10:c≠10:=fun e=>by subst e;exact h4 (.inl (by decide))
   have c9:c≠9:=fun e=>by subst e;exact h4 (.inl (by decide))
   rw [if_neg (by simp [c34,c92]),if_neg c10,if_neg c9];rfl
  refine⟨by simp only [List.all_cons,hc,k1,Bool.and_self],?_⟩
  simp only [List.flatMap_cons,List.length_append,List.length_cons]
  omega
theorem quote_len (s:Bs):(quote s).length=(s.flatMap escB).length+2:=by unfold quote;simp
def frOK:Fr→Prop
 | .lst d=>wfL d
 | .ob d n=>Srt d∧wfF d∧n.all stand=true∧get n d=none
def wlen:Fr→Nat
 | .lst d=>1+lenL d
 | .ob d n=>1+lenF d+(quote n).length+1
def sizeFr:Fr→Nat
 | .lst d=>1+sizeL d
 | .ob d _=>1+sizeF d
def deepFr:Fr→Nat
 | .lst d=>deepL d
 | .ob d _=>deepF d
def StOK:List Fr→Prop
 | []=>True
 | f :: st=>frOK f∧deepFr f+st.length+1≤10∧StOK st
def wlenS (st:List Fr):Nat:=(st.map wlen).sum
def sizeS (st:List Fr):Nat:=(st.map sizeFr).sum
def Inv (N:Nat):R→Prop
 | .bad e=>e≠0
 | .whole v r m st=>r.length+(text v).length+wlenS st≤N∧m=size v+sizeS st∧m≤200∧wf v∧deep v+st.length≤10∧StOK st
 | .more r m st=>r.length+wlenS st≤N∧m=sizeS st∧m≤200∧StOK st
theorem stOK_len {st:List Fr} (h:StOK st):st.length≤10:=by
 cases st with
 | nil=>simp
 | cons f st=>have:=h.2.1;simp only [List.length_cons];omega
theorem field_inv {N:Nat} {r:Bs} {m:Nat} {d:List (Bs × JV)} {st:List Fr} (h1:r.length+(1+lenF d)+wlenS st≤N) (h2:m=1+sizeF d+sizeS st) (h3:m≤200) (h4:Srt d) (h5:wfF d) (h6:deepF d+st.length+1≤10) (h7:StOK st):Inv N (fieldP r m d st):=by
 unfold fieldP
 split
 ·show (_:Int)≠0;first | decide | assumption
 ·rename_i c t hc
  have hl:=skip_cons hc
  split
  ·split
   ·show (_:Int)≠0;first | decide | assumption
   ·rename_i x hx
    obtain⟨k1,k2⟩:=textP_good _ _ hx
    unfold fieldN
    split
    ·show (_:Int)≠0;first | decide | assumption
    ·rename_i hg
     split
     ·show (_:Int)≠0;first | decide | assumption
     ·rename_i c' t' hc'
      have hl':=skip_cons hc'
      split
      ·have hq:=quote_len x.1
       refine⟨?_,?_,h3,⟨h4,h5,k1,by simpa using hg⟩,h6,h7⟩
       ·simp only [wlenS,List.map_cons,List.sum_cons,wlen] at h1 ⊢;omega
       ·simp only [sizeS,List.map_cons,List.sum_cons,sizeFr] at h2 ⊢;omega
      ·show (_:Int)≠0;first | decide | assumption
  ·show (_:Int)≠0;first | decide | assumption
theorem word_inv {N:Nat} {v:JV} {p r:Bs} {m:Nat} {st:List Fr} (hp:(text v).length=p.length) (hv:wf v) (hd:deep v=0) (hs:size v=1) (h1:r.length+wlenS st≤N) (h2:m=1+sizeS st) (h3:m≤200) (h7:StOK st):Inv N (wordP v p r m st):=by
 unfold wordP
 split
 ·rename_i h
  have:=(List.isPrefixOf_iff_prefix.1 h).length_le
  refine⟨by rw [List.length_drop];omega,by omega,h3,hv,?_,h7⟩
  have:=stOK_len h7
  omega
 ·show (_:Int)≠0;first | decide | assumption
theorem begin_inv {N:Nat} {r:Bs} {m:Nat} {st:List Fr} (h:Inv N (.more r m st)):Inv N (beginP r m st):=by
 obtain⟨h1,h2,h3,h7⟩:=h
 have h10:=stOK_len h7
 unfold beginP
 split
 ·show (_:Int)≠0;first | decide | assumption
 ·rename_i c t hc
  have hl:=skip_cons hc
  have hs:=skip_le t
  unfold beginC
  split
  ·show (_:Int)≠0;first | decide | assumption
  ·split
   ·show (_:Int)≠0;first | decide | assumption
   ·rename_i hm
    split
    ·show (_:Int)≠0;first | decide | assumption
    ·rename_i hdp
     split
     ·rename_i hc1
      have h9:st.length≤9:=by
       rcases Nat.lt_or_ge st.length 10 with h | h
       ·omega
       ·exact absurd ⟨.inl hc1,by omega⟩ hdp
      split
      ·rename_i hh
       have:0<(skip t).length:=by
        cases hk:skip t with
        | nil=>rw [hk] at hh;cases hh
        | cons _ _=>simp
       refine⟨?_,by simp only [size,sizeL];omega,by omega,by rw [wf];trivial,by simp only [deep,deepL];omega,h7⟩
       rw [List.length_tail,text]
       show _+([91,93]:Bs).length+_≤N
       simp only [List.length_cons,List.length_nil]
       omega
      ·refine⟨?_,?_,by omega,⟨by show wfL [];rw [wfL];trivial,by show deepL []+_+1≤10;rw [deepL];omega,h7⟩⟩
       ·simp only [wlenS,List.map_cons,List.sum_cons,wlen,lenL] at h1 ⊢;omega
       ·simp only [sizeS,List.map_cons,List.sum_cons,sizeFr,sizeL] at h2 ⊢;omega
     ·split
      ·rename_i hc1
       have h9:st.length≤9:=by
        rcases Nat.lt_or_ge st.length 10 with h | h
        ·omega
        ·exact absurd ⟨.inr hc1,by omega⟩ hdp
       split
       ·rename_i hh
        have:0<(skip t).length:=by
         cases hk:skip t with
         | nil=>rw [hk] at hh;cases hh
         | cons _ _=>simp
        refine⟨?_,by simp only [size,sizeF];omega,by omega,by rw [wf,wfF];exact⟨List.Pairwise.nil,trivial⟩,by simp only [deep,deepF];omega,h7⟩
        rw [List.length_tail,text]
        show _+([123,125]:Bs).length+_≤N
        simp only [List.length_cons,List.length_nil]
        omega
       ·refine field_inv ?_ ?_ (by omega) List.Pairwise.nil (by rw [wfF];trivial) (by rw [deepF];omega) h7
        ·rw [lenF];omega
        ·rw [sizeF];omega
      ·unfold plainP
       split
       ·split
        ·show (_:Int)≠0;first | decide | assumption
        ·rename_i x hx
         obtain⟨k1,k2⟩:=textP_good _ _ hx
         have hq:=quote_len x.1
         rw [List.tail_cons] at k2
         refine⟨?_,by simp only [size];omega,by omega,by rw [wf];exact k1,by simp only [deep];omega,h7⟩
         rw [text];omega
       ·split
        ·exact word_inv (by first | (rw [text];done) | (rw [text];rfl)) (by rw [wf];trivial) rfl rfl (by rw [List.length_cons];omega) (by omega) (by omega) h7
        ·split
         ·exact word_inv (by first | (rw [text];done) | (rw [text];rfl)) (by rw [wf];trivial) rfl rfl (by rw [List.length_cons];omega) (by omega) (by omega) h7
         ·split
          ·exact word_inv (by first | (rw [text];done) | (rw [text];rfl)) (by rw [wf];trivial) rfl rfl (by rw [List.length_cons];omega) (by omega) (by omega) h7
          ·split
           ·rename_i hn
            obtain⟨k1,k2⟩:=num_good hn
            rw [List.length_cons] at k2
            refine⟨?_,by simp only [size];omega,by omega,by rw [wf];exact k1,by simp only [deep];omega,h7⟩
            rw [text];omega
           ·show (_:Int)≠0;first | decide | assumption
theorem goes_inv {N:Nat} {v:JV} {r:Bs} {m:Nat} {f:Fr} {st:List Fr} (h:Inv N (.whole v r m (f :: st))):Inv N (goesP v r m f st):=by
 obtain⟨h1,h2,h3,h4,h5,h6,h7,h8⟩:=h
 rw [List.length_cons] at h5
 unfold goesP
 cases f with
 | lst d=>
  simp only [wlenS,sizeS,List.map_cons,List.sum_cons,wlen,sizeFr,deepFr] at h1 h2 h7
  have h6':wfL d:=h6
  have w1:wfL (d++[v]):=wfL_append.2 ⟨h6',by rw [wfL,wfL];exact⟨h4,trivial⟩⟩
  have e1:lenL (d++[v])=lenL d+((text v).length+1):=by rw [lenL_append];simp [lenL]
  have e2:sizeL (d++[v])=sizeL d+size v:=by rw [sizeL_append];simp [sizeL]
  have e3:deepL (d++[v])=max (deepL d) (deep v):=by rw [deepL_append];simp [deepL]
  dsimp only
  split
  ·show (_:Int)≠0;first | decide | assumption
  ·rename_i c t hc
   have hl:=skip_cons hc
   split
   ·refine⟨?_,?_,h3,by rw [wf];exact w1,by rw [deep,e3];omega,h8⟩
    ·rcases text_list_len (d++[v]) with h | ⟨h,_⟩
     ·unfold wlenS;omega
     ·simp at h
    ·rw [size,e2];unfold sizeS;omega
   ·split
    ·refine⟨?_,?_,h3,⟨w1,by show deepL _+_+1≤10;rw [e3];omega,h8⟩⟩
     ·simp only [wlenS,List.map_cons,List.sum_cons,wlen];omega
     ·simp only [sizeS,List.map_cons,List.sum_cons,sizeFr];omega
    ·show (_:Int)≠0;first | decide | assumption
 | ob d n=>
  simp only [wlenS,sizeS,List.map_cons,List.sum_cons,wlen,sizeFr,deepFr] at h1 h2 h7
  obtain⟨k1,k2,k3,k4⟩:Srt d∧wfF d∧n.all stand=true∧get n d=none:=h6
  have w1:=put_wf k3 h4 k2
  have w2:Srt (put n v d):=put_srt k1
  have e1:=put_len n v d k4
  have e2:=put_size n v d k4
  have e3:=put_deep n v d
  dsimp only
  split
  ·show (_:Int)≠0;first | decide | assumption
  ·rename_i c t hc
   have hl:=skip_cons hc
   split
   ·refine⟨?_,?_,h3,by rw [wf];exact⟨w2,w1⟩,by rw [deep];omega,h8⟩
    ·rcases text_obj_len (put n v d) with h | ⟨h,_⟩
     ·unfold wlenS;omega
     ·rw [h] at e1;simp only [lenF] at e1;omega
    ·rw [size,e2];unfold sizeS;omega
   ·split
    ·refine field_inv ?_ ?_ h3 w2 w1 (by omega) h8
     ·unfold wlenS;omega
     ·unfold sizeS;omega
    ·show (_:Int)≠0;first | decide | assumption
theorem fin_inv {N:Nat} (x:R):Inv N x→∀ v,fin x=(v,0)→wf v∧size v≤200∧deep v≤10∧(text v).length≤N:=by
 induction x using fin.induct with
 | case1 e=>intro hi v h;rw [fin_bad] at h;exact absurd (Prod.mk.inj h).2 hi
 | case2 r m st ih=>intro hi v h;rw [fin_more] at h;exact ih (begin_inv hi) v h
 | case3 v r m hr=>
  intro hi u h
  rw [fin_end,if_pos hr] at h
  cases h
  obtain⟨h1,h2,h3,h4,h5,_⟩:=hi
  exact⟨h4,by omega,by omega,by omega⟩
 | case4 v r m hr=>intro hi u h;rw [fin_end,if_neg hr] at h;cases h
 | case5 v r m f st ih=>intro hi u h;rw [fin_whole] at h;exact ih (goes_inv hi) u h
end JP
end Go.Proofs.YtnnceaapodgfbaaGreatDoor
namespace Go.Proofs.YtnnceaapodgfbaaGreatDoor
open Go.RowKit
open JP (JV Bs)
theorem hasPre_extract (s sg:ByteArray) (a:Nat) (ha:a≤s.size) (w:World) {b:Bool} (hb:Lib.hasPrefix (s.data.toList.drop a) sg.data.toList=b) :
  Calls Tryz.prog 180 #[.string (s.extract a s.size),.string sg] w fun e w'=>e=.returned (.bool b)∧w'=w:=by
 have h:=Tryz.strings_HasPrefix (s.extract a s.size) sg w
 rw [extract_take ha (Nat.le_refl _),List.take_of_length_le (by simp),hb] at h
 exact h
def WordAt (g:Nat) (s:ByteArray) (m:Nat) (vst:Value) (r sg:Bs) (w:World) (e:Ending) (w':World):Prop:=
 e=.returned (.tuple #[])∧But g w w'∧((sg.isPrefixOf r=true∧∃ i,i≤s.size∧s.data.toList.drop i=r.drop sg.length∧RdAt g s i m vst 0 w')∨(sg.isPrefixOf r=false∧∃ i,RdAt g s i m vst 3 w'))
set_option maxRecDepth 100000 in
set_option maxHeartbeats 3200000 in
theorem word_any (g:Nat) (s:ByteArray) (a m:Nat) (vst:Value) (sg:ByteArray) (w:World) (h:RdAt g s a m vst 0 w) (ha:a≤s.size) (hs:s.size≤1048576) :
  Calls Tryz.prog 156 #[.pointer (some ⟨g,0,none⟩),.string sg] w (WordAt g s m vst (s.data.toList.drop a) sg.data.toList w):=by
 have c0:w.cell? ⟨g,0,none⟩=some (.string s):=cell_block h 0
 have c1:w.cell? ⟨g,1,none⟩=some (.int .i64 (a:Int)):=cell_block h 1
 have hz:w.frozen? ⟨g,1,none⟩=false:=free_block h 1
 have H:=Lib.hid h
 have q1:(0:Int)≤(a:Int):=by omega
 have q2:(a:Int)≤(s.size:Int):=by omega
 obtain⟨b,hb⟩:∃ b,Lib.hasPrefix (s.data.toList.drop a) sg.data.toList=b:=⟨_,rfl⟩
 have HC:=fun w=>Lib.hid (hasPre_extract s sg a ha w hb)
 have hl:s.data.toList.length=s.size:=by simp
 have hsl:sg.data.toList.length=sg.size:=by simp
 cases b with
 | false=>
  have Hb:=Lib.hid hb
  clear h hb hl hsl
  go_enter Tryz.func156,Tryz.ntmps156
  go_wp2_with fail
  go_quiet ((go_at_call 180;exact Calls.quiet_of_same (HC _).out))
  go_wp2_with fail
  refine (fail_any g s a m vst 0 3 _ (H.out.drew _)).mono ?_
  rintro E w1 ⟨rfl,hr,hbt⟩
  have Hr:=Lib.hid hr
  have Hbt:=Lib.hid hbt
  clear hr hbt
  go_wp2_with fail
  go_end0
  exact⟨rfl,((But.refl _ _).drew _).trans Hbt.out,.inr ⟨Hb.out,a,Hr.out⟩⟩
 | true=>
  have hroom:=(List.isPrefixOf_iff_prefix.1 hb).length_le
  rw [List.length_drop,hl,hsl] at hroom
  have Hr:Hid (s.data.toList.drop (a+sg.size)=(s.data.toList.drop a).drop sg.data.toList.length):=Lib.hid (by rw [hsl,List.drop_drop])
  have hk:a+sg.size≤s.size:=by omega
  have Hb:=Lib.hid hb
  clear h hb hl hsl hroom
  go_enter Tryz.func156,Tryz.ntmps156
  go_wp2_with fail
  go_quiet ((go_at_call 180;exact Calls.quiet_of_same (HC _).out))
  go_wp2_with fail
  obtain⟨t1,t2⟩:=touch_setCell (i:=1) (v:=.int .i64 ((a:Int)+(sg.size:Int))) H.out
  go_end0
  refine⟨rfl,((But.touch t2).drew _),.inl ⟨Hb.out,a+sg.size,hk,Hr.out,?_⟩⟩
  unfold RdAt
  rw [show ((a+sg.size:Nat):Int)=(a:Int)+(sg.size:Int) by omega]
  exact t1
def escB? (r:Bs):Option UInt8:=match r with
 | []=>none
 | c :: _=>JP.escV c
def EscAt (g:Nat) (s:ByteArray) (a m:Nat) (vst:Value) (r:Bs) (w:World) (e:Ending) (w':World):Prop:=
 (∃ x,escB? r=some x∧e=.returned (.int .u8 (x.toNat:Int))∧RdAt g s a m vst 0 w'∧But g w w')∨(escB? r=none∧e=.returned (.int .u8 0)∧RdAt g s a m vst 3 w'∧But g w w')
theorem escV_nat (c:UInt8):JP.escV c=if c.toNat=34∨c.toNat=92 then some c else if c.toNat=110 then some 10 else if c.toNat=116 then some 9 else none:=by
 have e:∀ k:UInt8,(c=k)=(c.toNat=k.toNat):=fun k=>propext ⟨fun h=>by rw [h],fun h=>UInt8.toNat_inj.1 h⟩
 unfold JP.escV
 simp only [e 34,e 92,e 110,e 116]
 rfl
set_option maxRecDepth 100000 in
set_option maxHeartbeats 3200000 in
theorem escape_any (g:Nat) (s:ByteArray) (a m:Nat) (vst:Value) (w:World) (h:RdAt g s a m vst 0 w) (ha:a≤s.size) (hs:s.size≤1048576) :
  Calls Tryz.prog 179 #[.pointer (some ⟨g,0,none⟩)] w (EscAt g s a m vst (s.data.toList.drop a) w):=by
 have c0:w.cell? ⟨g,0,none⟩=some (.string s):=cell_block h 0
 have c1:w.cell? ⟨g,1,none⟩=some (.int .i64 (a:Int)):=cell_block h 1
 have H:=Lib.hid h
 clear h
 have q0:(0:Int)≤(a:Int):=by omega
 by_cases hl:a<s.size
 ·have q1:(a:Int)<(s.size:Int):=by omega
  have p0:decide (a<s.size)=true:=decide_eq_true hl
  have He:Hid (escB? (s.data.toList.drop a)=JP.escV s[a]):=Lib.hid (by rw [drop_at hl];rfl)
  have hev:=escV_nat s[a]
  have way:s[a].toNat=34∨s[a].toNat=92∨s[a].toNat=110∨s[a].toNat=116∨(s[a].toNat≠34∧s[a].toNat≠92∧s[a].toNat≠110∧s[a].toNat≠116):=by omega
  rcases way with hn | hn | hn | hn | ⟨n1,n2,n3,n4⟩
  ·have Hv:Hid (escB? (s.data.toList.drop a)=some 34):=Lib.hid (by rw [He.out,hev,if_pos (.inl hn),u8_eq (a:=s[a]) (b:=34) hn])
   clear hev He
   go_enter Tryz.func179,Tryz.ntmps179
   go_wp2_with fail
   go_quiet (fail)
   go_wp2_with fail
   go_quiet (fail)
   go_wp2_with fail
   go_ret
   exact .inl ⟨34,Hv.out,rfl,H.out,(But.refl _ _).drew _⟩
  ·have Hv:Hid (escB? (s.data.toList.drop a)=some 92):=Lib.hid (by rw [He.out,hev,if_pos (.inr hn),u8_eq (a:=s[a]) (b:=92) hn])
   clear hev He
   go_enter Tryz.func179,Tryz.ntmps179
   go_wp2_with fail
   go_quiet (fail)
   go_wp2_with fail
   go_quiet (fail)
   go_wp2_with fail
   go_ret
   exact .inl ⟨92,Hv.out,rfl,H.out,(But.refl _ _).drew _⟩
  ·have Hv:Hid (escB? (s.data.toList.drop a)=some 10):=Lib.hid (by rw [He.out,hev,if_neg (by omega),if_pos hn])
   clear hev He
   go_enter Tryz.func179,Tryz.ntmps179
   go_wp2_with fail
   go_quiet (fail)
   go_wp2_with fail
   go_quiet (fail)
   go_wp2_with fail
   go_ret
   exact .inl ⟨10,Hv.out,rfl,H.out,(But.refl _ _).drew _⟩
  ·have Hv:Hid (escB? (s.data.toList.drop a)=some 9):=Lib.hid (by rw [He.out,hev,if_neg (by omega),if_neg (by omega),if_pos hn])
   clear hev He
   go_enter Tryz.func179,Tryz.ntmps179
   go_wp2_with fail
   go_quiet (fail)
   go_wp2_with fail
   go_quiet (fail)
   go_wp2_with fail
   go_ret
   exact .inl ⟨9,Hv.out,rfl,H.out,(But.refl _ _).drew _⟩
  ·have Hv:Hid (escB? (s.data.toList.drop a)=none):=Lib.hid (by rw [He.out,hev,if_neg (by omega),if_neg n3,if_neg n4])
   have e1:((s[a].toNat:Int) == 34)=false:=by rw [beq_eq_false_iff_ne];omega
   have e2:((s[a].toNat:Int) == 92)=false:=by rw [beq_eq_false_iff_ne];omega
   have e3:((s[a].toNat:Int) == 110)=false:=by rw [beq_eq_false_iff_ne];omega
   have e4:((s[a].toNat:Int) == 116)=false:=by rw [beq_eq_false_iff_ne];omega
   clear hev He n1 n2 n3 n4
   go_enter Tryz.func179,Tryz.ntmps179
   go_wp2_with fail
   go_quiet (fail)
   go_wp2_with fail
   go_quiet (fail)
   go_wp2_with fail
   refine (fail_any g s a m vst 0 3 _ (H.out.drew _)).mono ?_
   rintro E w1 ⟨rfl,hr,hbt⟩
   have Hr:=Lib.hid hr
   have Hbt:=Lib.hid hbt
   clear hr hbt
   go_wp2_with fail
   go_ret
   exact .inr ⟨Hv.out,rfl,Hr.out,((But.refl _ _).drew _).trans Hbt.out⟩
 ·have q1:¬(a:Int)<(s.size:Int):=by omega
  have p0:decide (a<s.size)=false:=decide_eq_false hl
  have Hv:Hid (escB? (s.data.toList.drop a)=none):=Lib.hid (by rw [drop_end (by omega)];rfl)
  clear hl
  go_enter Tryz.func179,Tryz.ntmps179
  go_wp2_with fail
  go_quiet (fail)
  go_wp2_with fail
  refine (fail_any g s a m vst 0 3 _ (H.out.drew _)).mono ?_
  rintro E w1 ⟨rfl,hr,hbt⟩
  have Hr:=Lib.hid hr
  have Hbt:=Lib.hid hbt
  clear hr hbt
  go_wp2_with fail
  go_ret
  exact .inr ⟨Hv.out,rfl,Hr.out,((But.refl _ _).drew _).trans Hbt.out⟩
end Go.Proofs.YtnnceaapodgfbaaGreatDoor
namespace Go.Proofs.YtnnceaapodgfbaaGreatDoor
open Go.RowKit
open JP (JV Bs)
theorem RdAt.cast {g:Nat} {s:ByteArray} {a m:Nat} {vst:Value} {bad:Int} {w:World} {z:Int} (h:w.heap[g]? = some (.cells #[.string s,.int .i64 z,.int .i64 (m:Int),vst,.int .i64 bad] 174 (0,0))) (hz:z=(a:Int)):RdAt g s a m vst bad w:=by
 subst hz;exact h
def TxtAt (g:Nat) (s:ByteArray) (m:Nat) (vst:Value) (K:Option (Bs × Bs)) (w:World) (e:Ending) (w':World):Prop:=
 But g w w'∧((∃ x,K=some x∧e=.returned (.string (mkB x.1))∧∃ i,i≤s.size∧s.data.toList.drop i=x.2∧RdAt g s i m vst 0 w')∨(K=none∧e=.returned (.string ⟨#[]⟩)∧∃ i,i≤s.size∧RdAt g s i m vst 3 w'))
def addTo (acc:Bs) (k:Option (Bs × Bs)):Option (Bs × Bs):=k.map fun x=>(acc++x.1,x.2)
theorem addTo_nil (k:Option (Bs × Bs)):addTo [] k=k:=by unfold addTo;cases k<;>simp
theorem addTo_one (acc:Bs) (c:UInt8) (k:Option (Bs × Bs)):addTo acc (k.map fun x=>(c :: x.1,x.2))=addTo (acc++[c]) k:=by unfold addTo;cases k<;>simp
theorem but_below {g:Nat} {w w1 w2:World} (h:But g w w1) (hb:Below w.heap.size w1 w2):But g w w2:=⟨hb.os.trans h.os,hb.tape.trans h.tape,hb.output.trans h.output,Nat.le_trans h.size hb.size,fun k hk hn=>(hb.block k hk).trans (h.block k hk hn)⟩
theorem textP_esc (d:UInt8) (r:Bs):JP.textP (92 :: d :: r)=match JP.escV d with
  | none=>none
  | some c=>(JP.textP r).map fun x=>(c :: x.1,x.2):=by
 first
 | (rw [JP.textP];done)
 | (rw [JP.textP];cases JP.escV d<;>rfl)
theorem esc_none {r:Bs} (h:escB? r=none):JP.textP (92 :: r)=none:=by
 cases r with
 | nil=>rfl
 | cons d t=>rw [textP_esc,show JP.escV d=none from h]
theorem esc_some {r:Bs} {x:UInt8} (h:escB? r=some x):∃ d t,r=d :: t∧JP.textP (92 :: r)=(JP.textP t).map fun y=>(x :: y.1,y.2):=by
 cases r with
 | nil=>cases h
 | cons d t=>exact⟨d,t,rfl,by rw [textP_esc,show JP.escV d=some x from h]⟩
set_option maxRecDepth 100000 in
set_option maxHeartbeats 6400000 in
theorem rtext_any (g:Nat) (s:ByteArray) (a m:Nat) (vst:Value) (w:World) (h:RdAt g s a m vst 0 w) (ha:a<s.size) (hs:s.size≤1048576) :
  Calls Tryz.prog 154 #[.pointer (some ⟨g,0,none⟩)] w (TxtAt g s m vst (JP.textP (s.data.toList.drop (a+1))) w):=by
 obtain⟨i0,hi0,hz0,hz1,hz2⟩:=info_parts Tryz.infoU8
 obtain⟨K,HK⟩:∃ K,Hid (JP.textP (s.data.toList.drop (a+1))=K):=⟨_,Lib.hid rfl⟩
 rw [HK.out]
 have c1:w.cell? ⟨g,1,none⟩=some (.int .i64 (a:Int)):=cell_block h 1
 have hz:w.frozen? ⟨g,1,none⟩=false:=free_block h 1
 have hgw:g<w.heap.size:=by
  rcases Nat.lt_or_ge g w.heap.size with h1 | h1
  ·exact h1
  ·unfold RdAt at h;rw [Array.getElem?_eq_none h1] at h;cases h
 obtain⟨t1,t2⟩:=touch_setCell (i:=1) (v:=.int .i64 ((a:Int)+1)) h
 have H1:Hid (RdAt g s (a+1) m vst 0 (w.setCell ⟨g,1,none⟩ (.int .i64 ((a:Int)+1)))):=Lib.hid (RdAt.cast t1 (by omega))
 have Hb1:=Lib.hid (But.touch t2)
 obtain⟨W1,hW1⟩:∃ W1,W1=w.setCell ⟨g,1,none⟩ (.int .i64 ((a:Int)+1)):=⟨_,rfl⟩
 rw [←hW1] at H1 Hb1
 clear h t1 t2
 go_enter Tryz.func154,Tryz.ntmps154
 go_upto_region 3 with fail
 rw [←hW1]
 clear hW1 c1 hz
 go_loopg [3] (s.size - (a+1)) (fun k u3 wr=>∃ (i:Nat) (acc:Bs),i+k=s.size∧acc.length≤i∧Hid (OwnAt RU8 1 wr w.heap.size 5 u3 acc)∧Hid (addTo acc (JP.textP (s.data.toList.drop i))=K)∧Hid (RdAt g s i m vst 0 wr)∧Hid (But g w wr))
 case atStart=>exact⟨a+1,[],by omega,by simp,Lib.hid (OwnAt.nil _),Lib.hid (by rw [addTo_nil];exact HK.out),H1,Hb1⟩
 case round=>
  obtain⟨i,acc,hik,hacc,Hown,HKi,HP,HB⟩:=hrel
  have h0:wr.cell? ⟨g,0,none⟩=some (.string s):=cell_block HP.out 0
  have h1:wr.cell? ⟨g,1,none⟩=some (.int .i64 (i:Int)):=cell_block HP.out 1
  have h4:wr.cell? ⟨g,4,none⟩=some (.int .i64 0):=cell_block HP.out 4
  have hz:wr.frozen? ⟨g,1,none⟩=false:=free_block HP.out 1
  have hsr:=HB.out.size
  cases gk with
  | zero=>
   have hi:i=s.size:=by omega
   have q0:decide (i<s.size)=false:=decide_eq_false (by omega)
   have q1:¬(i:Int)<(s.size:Int):=by omega
   have HKn:Hid (K=none):=Lib.hid (by rw [←HKi.out,drop_end (by omega)];rfl)
   have hile:i≤s.size:=by omega
   clear hi hik
   go_wp2_with fail
   go_quiet (fail)
   go_wp2_with fail
   refine (fail_any g s i m vst 0 3 _ (HP.out.drew _)).mono ?_
   rintro E w1 ⟨rfl,hr,hbt⟩
   have Hr:=Lib.hid hr
   have Hbt:=Lib.hid ((HB.out.drew _).trans hbt)
   clear hr hbt
   go_wp2_with fail
   go_ret
   exact⟨Hbt.out,.inr ⟨HKn.out,rfl,i,hile,Hr.out⟩⟩
  | succ k=>
   have hil:i<s.size:=by omega
   have q0:decide (i<s.size)=true:=decide_eq_true hil
   have q1:(i:Int)<(s.size:Int):=by omega
   have q2:(0:Int)≤(i:Int):=by omega
   have HK2:=HKi.out
   rw [drop_at hil] at HK2
   have HKc:Hid (addTo acc (JP.textP (s[i] :: s.data.toList.drop (i+1)))=K):=Lib.hid HK2
   clear HK2 HKi
   by_cases c34:s[i].toNat=34
   ·have hc:s[i]=34:=u8_eq c34
    have HKe:Hid (K=some (acc,s.data.toList.drop (i+1))):=Lib.hid (by rw [←HKc.out,hc];simp [JP.textP,addTo])
    obtain⟨t1,t2⟩:=touch_setCell (i:=1) (v:=.int .i64 ((i:Int)+1)) HP.out
    have T1:=Lib.hid t1
    have T2:=Lib.hid t2
    clear hc HKc hik t1 t2
    go_wp2_with fail
    go_quiet (fail)
    go_wp2_with fail
    go_quiet (fail)
    go_upto_region 8 with fail
    generalize hW:World.setCell (World.drewN wr _) _ _=W
    have hRW:RdAt g s (i+1) m vst 0 W:=by rw [←hW];exact RdAt.cast T1.out (by omega)
    have hBW:But g wr W:=by rw [←hW];exact (But.touch T2.out).drew _
    have hcv:=run_convert_own W 228 9 5 Tryz.underlying228 Tryz.underlying5 Tryz.underlying9 (own_u8 (Hown.out.butLow flat_u8 hBW hgw))
    have HRW:=Lib.hid hRW
    have HBW:=Lib.hid hBW
    clear hW hRW hBW T1 T2 h0 h1 h4 hz
    go_wp2_with fail
    go_ret
    exact⟨HB.out.trans HBW.out,.inl ⟨_,HKe.out,rfl,i+1,by omega,rfl,HRW.out⟩⟩
   ·have n34:((s[i].toNat:Int) == 34)=false:=by rw [beq_eq_false_iff_ne];omega
    have hc34:s[i]≠34:=fun e=>c34 (by rw [e];rfl)
    by_cases clo:s[i].toNat<32∨126<s[i].toNat
    ·have hKn:K=none:=by
      rw [←HKc.out,JP.textP_other _ hc34 (fun e=>by rw [e] at clo;revert clo;decide),if_pos]
      ·rfl
      ·rcases clo with h | h
       ·exact .inl (UInt8.lt_iff_toNat_lt.2 h)
       ·exact .inr (UInt8.lt_iff_toNat_lt.2 h)
     have HKn:=Lib.hid hKn
     have hile:i≤s.size:=by omega
     clear hKn HKc hik hc34 c34
     rcases clo with hlo | hlo
     ·have p1:(s[i].toNat:Int)<32:=by omega
      clear hlo
      go_wp2_with fail
      go_quiet (fail)
      go_wp2_with fail
      go_quiet (fail)
      go_wp2_with fail
      refine (fail_any g s i m vst 0 3 _ (HP.out.drew _)).mono ?_
      rintro E w1 ⟨rfl,hr,hbt⟩
      have Hr:=Lib.hid hr
      have Hbt:=Lib.hid ((HB.out.drew _).trans hbt)
      clear hr hbt
      go_wp2_with fail
      go_ret
      exact⟨Hbt.out,.inr ⟨HKn.out,rfl,i,hile,Hr.out⟩⟩
     ·have p1:¬(s[i].toNat:Int)<32:=by omega
      have p2:(126:Int)<(s[i].toNat:Int):=by omega
      clear hlo
      go_wp2_with fail
      go_quiet (fail)
      go_wp2_with fail
      go_quiet (fail)
      go_wp2_with fail
      refine (fail_any g s i m vst 0 3 _ (HP.out.drew _)).mono ?_
      rintro E w1 ⟨rfl,hr,hbt⟩
      have Hr:=Lib.hid hr
      have Hbt:=Lib.hid ((HB.out.drew _).trans hbt)
      clear hr hbt
      go_wp2_with fail
      go_ret
      exact⟨Hbt.out,.inr ⟨HKn.out,rfl,i,hile,Hr.out⟩⟩
    ·have p1:¬(s[i].toNat:Int)<32:=by omega
     have p2:¬(126:Int)<(s[i].toNat:Int):=by omega
     by_cases c92:s[i].toNat=92
     ·have hc:s[i]=92:=u8_eq c92
      have HKe:Hid (addTo acc (JP.textP (92 :: s.data.toList.drop (i+1)))=K):=Lib.hid (by rw [←HKc.out,hc])
      obtain⟨t1,t2⟩:=touch_setCell (i:=1) (v:=.int .i64 ((i:Int)+1)) HP.out
      have T1:=Lib.hid t1
      have T2:=Lib.hid t2
      have hi1:i+1≤s.size:=by omega
      clear hc HKc t1 t2 clo c34 hc34 n34
      go_wp2_with fail
      go_quiet (fail)
      go_wp2_with fail
      go_quiet (fail)
      go_upto_region 14 with fail
      generalize hW:World.setCell (World.drewN wr _) _ _=W
      have hRW:RdAt g s (i+1) m vst 0 W:=by rw [←hW];exact RdAt.cast T1.out (by omega)
      have hBW:But g wr W:=by rw [←hW];exact (But.touch T2.out).drew _
      have hoW:=Hown.out.butLow flat_u8 hBW hgw
      have HRW:=Lib.hid hRW
      have HBW:=Lib.hid (HB.out.trans hBW)
      have HoW:=Lib.hid hoW
      clear hW hRW hBW hoW T1 T2 h0 h1 h4 hz
      go_wp2_with fail
      refine (escape_any g s (i+1) m vst W HRW.out hi1 hs).mono ?_
      rintro E w2 (⟨x,hx,rfl,hr,hbt⟩ | ⟨hx,rfl,hr,hbt⟩)
      ·obtain⟨d,t,hdt,htp⟩:=esc_some hx
       have hi2:i+1<s.size:=by
        rcases Nat.lt_or_ge (i+1) s.size with h | h
        ·exact h
        ·rw [drop_end h] at hdt;cases hdt
       have hd2:s.data.toList.drop (i+2)=t:=by
        rw [drop_at hi2] at hdt
        exact (List.cons.inj hdt).2
       have HK3:Hid (addTo (acc++[x]) (JP.textP (s.data.toList.drop (i+2)))=K):=Lib.hid (by rw [hd2,←addTo_one,←htp];exact HKe.out)
       have h4:w2.cell? ⟨g,4,none⟩=some (.int .i64 0):=cell_block hr 4
       have Hr:=Lib.hid hr
       have Hbt:=Lib.hid (HBW.out.trans hbt)
       have Ho2:=Lib.hid (HoW.out.butLow flat_u8 hbt (Nat.lt_of_lt_of_le hgw (Nat.le_refl _)))
       have hs2:=Hbt.out.size
       have hg2:g<w2.heap.size:=by omega
       clear hr hbt hx hdt htp hd2 HKe HoW
       go_wp2_with (at_builtin;refine wpList_append_ownAt (R:=RU8) (k:=1) (e:=5) (B:=w.heap.size) (l:=acc) (m:=[x]) _ (by rfl) _ _ _ (by rfl) i0 _ 1 Tryz.underlying228 hi0 hz0 hz1 hz2 rfl (by omega) flat_u8 one_u8 _ (by rfl) (Ho2.out.alloc stays_u8 _) (.slice (some ⟨w2.heap.size,0,none⟩) 1 1) (by rfl) (row_u8 (l:=[x]) (heap_alloc_new w2 _) (by unfold maxLen;simp)) (by unfold maxLen;simp;omega) (by simp;omega) (by simp;omega) ?_)
       intro v' w3 hv' hg3 hr3 _
       have hbW3:Below w.heap.size w2 w3:=below_of_grown ((Below.refl _ w2).alloc hs2 _) (by simp;omega) hg3 hr3
       have h1:w3.cell? ⟨g,1,none⟩=some (.int .i64 ((i+1:Nat):Int)):=(hbW3.cell (p:=⟨g,1,none⟩) hgw).trans (cell_block Hr.out 1)
       have hR3:RdAt g s (i+1) m vst 0 w3:=(hbW3.block g hgw).trans Hr.out
       have hz:w3.frozen? ⟨g,1,none⟩=false:=free_block hR3 1
       obtain⟨t1,t2⟩:=touch_setCell (i:=1) (v:=.int .i64 (((i+1:Nat):Int)+1)) hR3
       have T1:=Lib.hid t1
       have T2:=Lib.hid t2
       have Hv:=Lib.hid hv'
       have HB3:=Lib.hid (but_below Hbt.out hbW3)
       clear t1 t2 hv' hg3 hr3 hbW3 hR3 h4
       rw [show ((i+1:Nat):Int)=(i:Int)+1 by omega] at h1 T1 T2
       go_wp2_with fail
       cases k with
       | zero=>omega
       | succ k=>
        go_roundg k
        case measure=>omega
        case rel=>exact⟨i+2,acc++[x],by omega,by simp;omega,Lib.hid (Hv.out.butLow flat_u8 (But.touch T2.out) hgw),HK3,Lib.hid (RdAt.cast T1.out (by omega)),Lib.hid (HB3.out.trans (But.touch T2.out))⟩
      ·have HKn:Hid (K=none):=Lib.hid (by rw [←HKe.out,esc_none hx];rfl)
       have h4:w2.cell? ⟨g,4,none⟩=some (.int .i64 3):=cell_block hr 4
       have Hr:=Lib.hid hr
       have Hbt:=Lib.hid (HBW.out.trans hbt)
       clear hr hbt hx HKe HoW
       go_wp2_with fail
       go_ret
       exact⟨Hbt.out,.inr ⟨HKn.out,rfl,i+1,hi1,Hr.out⟩⟩
     ·have n92:((s[i].toNat:Int) == 92)=false:=by rw [beq_eq_false_iff_ne];omega
      have hc92:s[i]≠92:=fun e=>c92 (by rw [e];rfl)
      have HK3:Hid (addTo (acc++[s[i]]) (JP.textP (s.data.toList.drop (i+1)))=K):=Lib.hid (by
       rw [←addTo_one,←HKc.out,JP.textP_other _ hc34 hc92,if_neg]
       intro h
       rcases h with h | h
       ·exact clo (.inl (UInt8.lt_iff_toNat_lt.1 h))
       ·exact clo (.inr (UInt8.lt_iff_toNat_lt.1 h)))
      clear HKc clo c34 c92 hc34 hc92
      go_wp2_with fail
      go_quiet (fail)
      go_wp2_with fail
      go_quiet (fail)
      go_upto_region 17 with fail
      generalize hW:World.drewN wr _=W
      have hRW:RdAt g s i m vst 0 W:=by rw [←hW];exact HP.out
      have hBW:But g wr W:=by rw [←hW];exact (But.refl _ _).drew _
      have HoW:=Lib.hid (Hown.out.butLow flat_u8 hBW hgw)
      have HRW:=Lib.hid hRW
      have HBW:=Lib.hid (HB.out.trans hBW)
      have hsW:=HBW.out.size
      have hgW:g<W.heap.size:=by omega
      clear hW hRW hBW h0 h1 h4 hz
      go_wp2_with (at_builtin;refine wpList_append_ownAt (R:=RU8) (k:=1) (e:=5) (B:=w.heap.size) (l:=acc) (m:=[s[i]]) _ (by rfl) _ _ _ (by rfl) i0 _ 1 Tryz.underlying228 hi0 hz0 hz1 hz2 rfl (by omega) flat_u8 one_u8 _ (by rfl) (HoW.out.alloc stays_u8 _) (.slice (some ⟨W.heap.size,0,none⟩) 1 1) (by rfl) (row_u8 (l:=[s[i]]) (heap_alloc_new W _) (by unfold maxLen;simp)) (by unfold maxLen;simp;omega) (by simp;omega) (by simp;omega) ?_)
      intro v' w3 hv' hg3 hr3 _
      have hbW3:Below w.heap.size W w3:=below_of_grown ((Below.refl _ W).alloc hsW _) (by simp;omega) hg3 hr3
      have h1:w3.cell? ⟨g,1,none⟩=some (.int .i64 (i:Int)):=(hbW3.cell (p:=⟨g,1,none⟩) hgw).trans (cell_block HRW.out 1)
      have hR3:RdAt g s i m vst 0 w3:=(hbW3.block g hgw).trans HRW.out
      have hz:w3.frozen? ⟨g,1,none⟩=false:=free_block hR3 1
      obtain⟨t1,t2⟩:=touch_setCell (i:=1) (v:=.int .i64 ((i:Int)+1)) hR3
      have T1:=Lib.hid t1
      have T2:=Lib.hid t2
      have Hv:=Lib.hid hv'
      have HB3:=Lib.hid (but_below HBW.out hbW3)
      clear t1 t2 hv' hg3 hr3 hbW3 hR3
      go_wp2_with fail
      go_roundg k
      case measure=>omega
      case rel=>exact⟨i+1,acc++[s[i]],by omega,by simp;omega,Lib.hid (Hv.out.butLow flat_u8 (But.touch T2.out) hgw),HK3,Lib.hid (RdAt.cast T1.out (by omega)),Lib.hid (HB3.out.trans (But.touch T2.out))⟩
end Go.Proofs.YtnnceaapodgfbaaGreatDoor
namespace Go.Proofs.YtnnceaapodgfbaaGreatDoor
open Go.RowKit
open JP (JV Bs)
theorem dec_some:∀ (ds:Bs) (acc:Nat),(∀ c∈ds,JP.digit c=true)→∃ n,Lib.decFrom acc ds=some n
 | [],acc,_=>⟨acc,rfl⟩
 | c :: r,acc,h=>by
  have hc:=h c (List.mem_cons_self ..)
  unfold Lib.decFrom
  unfold JP.digit at hc
  simp only [Bool.and_eq_true,decide_eq_true_eq] at hc
  have h1:48≤c.toNat:=UInt8.le_iff_toNat_le.1 hc.1
  have h2:c.toNat≤57:=UInt8.le_iff_toNat_le.1 hc.2
  have:Lib.digitVal c=some (c.toNat - 48):=by unfold Lib.digitVal;rw [if_pos ⟨h1,h2⟩]
  rw [this]
  exact dec_some r _ fun x hx=>h x (List.mem_cons_of_mem _ hx)
theorem parse_dec:∀ (ds:Bs) (acc n:Nat),(acc+1)*10 ^ ds.length≤1000000000000000000→Lib.decFrom acc ds=some n→Lib.parseUint10 acc ds=.ok n
 | [],acc,n,_,h=>by simp only [Lib.decFrom,Option.some.injEq] at h;subst h;rfl
 | c :: r,acc,n,hb,h=>by
  unfold Lib.decFrom at h
  unfold Lib.parseUint10
  cases hd:Lib.digitVal c with
  | none=>rw [hd] at h;cases h
  | some d=>
   rw [hd] at h
   unfold Lib.digitVal at hd
   split at hd
   ·rename_i hr
    simp only [Option.some.injEq] at hd
    subst hd
    have hp:1≤10 ^ r.length:=Nat.one_le_pow _ _ (by decide)
    rw [List.length_cons,Nat.pow_succ,Nat.mul_comm (10 ^ r.length) 10,←Nat.mul_assoc] at hb
    have h1:(acc+1)*10≤1000000000000000000:=Nat.le_trans (Nat.le_mul_of_pos_right _ hp) hb
    rw [if_pos hr,if_neg (by omega),if_neg (by omega)]
    refine parse_dec r _ n (Nat.le_trans (Nat.mul_le_mul_right _ ?_) hb) h
    omega
   ·cases hd
theorem parse_mag {ds:Bs} (h:∀ c∈ds,JP.digit c=true) (h0:ds≠[]) (hl:ds.length≤18):Lib.parseUintB 64 ds=.ok (JP.decV ds):=by
 obtain⟨n,hn⟩:=dec_some ds 0 h
 rw [Lib.parseUintB_64]
 unfold Lib.parseMag JP.decV
 rw [if_neg h0,hn]
 refine parse_dec ds 0 n ?_ hn
 have:(10:Nat) ^ ds.length≤10 ^ 18:=Nat.pow_le_pow_right (by decide) hl
 omega
theorem parse_num {r ds:Bs} (hd:JP.digs r=ds) (h:∀ c∈ds,JP.digit c=true) (h0:ds≠[]) (hl:ds.length≤18):Lib.parseIntB 64 (if JP.negB r=true then 45 :: ds else ds)=.ok (JP.numV r):=by
 have hm:=parse_mag h h0 hl
 have hv:JP.decV ds<1000000000000000000:=by
  have h1:=JP.decV_lt ds
  have h2:(10:Nat) ^ ds.length≤10 ^ 18:=Nat.pow_le_pow_right (by decide) hl
  omega
 unfold JP.numV
 rw [hd]
 by_cases hb:JP.negB r=true
 ·rw [if_pos hb,if_pos hb,Lib.parseIntB_minus,hm]
  unfold Lib.signedC
  dsimp only
  rw [if_neg (by omega)]
 ·rw [if_neg hb,if_neg hb]
  cases ds with
  | nil=>exact absurd rfl h0
  | cons c t=>
   have hc:=h c (List.mem_cons_self ..)
   have n43:c.toNat≠43:=fun e=>by have:c=43:=u8_eq e;subst this;revert hc;decide
   have n45:c.toNat≠45:=fun e=>by have:c=45:=u8_eq e;subst this;revert hc;decide
   rw [Lib.parseIntB_plain _ _ _ n43 n45,hm]
   unfold Lib.signlessC
   dsimp only
   rw [if_neg (by omega)]
theorem digs_neg {s:ByteArray} {a:Nat} (ha:a<s.size) (h:s[a]=45):JP.sgn (s.data.toList.drop a)=s.data.toList.drop (a+1)∧JP.negB (s.data.toList.drop a)=true:=by
 rw [drop_at ha,h];exact⟨rfl,rfl⟩
theorem digs_pos {s:ByteArray} {a:Nat} (ha:a<s.size) (h:s[a]≠45):JP.sgn (s.data.toList.drop a)=s.data.toList.drop a∧JP.negB (s.data.toList.drop a)=false:=by
 rw [drop_at ha];exact JP.sgn_of _ h
theorem digit_nat (c:UInt8):JP.digit c=decide (48≤c.toNat∧c.toNat≤57):=by
 unfold JP.digit
 rw [Bool.eq_iff_iff]
 simp only [Bool.and_eq_true,decide_eq_true_eq,UInt8.le_iff_toNat_le]
 exact Iff.rfl
def NumAt (g:Nat) (s:ByteArray) (m:Nat) (vst:Value) (r:Bs) (w:World) (e:Ending) (w':World):Prop:=
 But g w w'∧((JP.numE r=0∧e=.returned (.iface 2 (.int .i64 (JP.numV r)))∧∃ i,i≤s.size∧s.data.toList.drop i=JP.numR r∧RdAt g s i m vst 0 w')∨
  (JP.numE r≠0∧e=.returned .nilIface∧∃ i,RdAt g s i m vst (JP.numE r) w'))
theorem numE_nil {r:Bs} (h:JP.digs r = []):JP.numE r=3:=by unfold JP.numE;rw [h]
theorem numE_cons {r t:Bs} {c:UInt8} (h:JP.digs r=c :: t):JP.numE r=if c=48∧(t≠[]∨JP.negB r=true) then 3 else if 18<t.length+1 then 2 else 0:=by unfold JP.numE;rw [h];rfl
theorem wrap_sub (a b:Nat) (h:a≤1048577) (k:b≤1048577):IntKind.i64.wrap ((a:Int) - (b:Int))=(a:Int) - (b:Int):=IntWalk.i64_in _ (by omega)
set_option maxRecDepth 100000 in
set_option maxHeartbeats 12800000 in
theorem number_any (g:Nat) (s:ByteArray) (a m:Nat) (vst:Value) (w:World) (h:RdAt g s a m vst 0 w) (ha:a<s.size) (hs:s.size≤1048576) :
  Calls Tryz.prog 157 #[.pointer (some ⟨g,0,none⟩)] w (NumAt g s m vst (s.data.toList.drop a) w):=by
 have c0:w.cell? ⟨g,0,none⟩=some (.string s):=cell_block h 0
 have c1:w.cell? ⟨g,1,none⟩=some (.int .i64 (a:Int)):=cell_block h 1
 have hz:w.frozen? ⟨g,1,none⟩=false:=free_block h 1
 have H:=Lib.hid h
 have q0:(0:Int)≤(a:Int):=by omega
 have q1:(a:Int)<(s.size:Int):=by omega
 obtain⟨r,Hr⟩:∃ r,Hid (s.data.toList.drop a=r):=⟨_,Lib.hid rfl⟩
 rw [Hr.out]
 clear h
 have hgw:g<w.heap.size:=by
  have:=H.out
  rcases Nat.lt_or_ge g w.heap.size with h1 | h1
  ·exact h1
  ·unfold RdAt at this;rw [Array.getElem?_eq_none h1] at this;cases this
 by_cases c45:s[a].toNat=45
 ·have hsg:=digs_neg ha (u8_eq (b:=45) c45)
  obtain⟨t1,t2⟩:=touch_setCell (i:=1) (v:=.int .i64 ((a:Int)+1)) H.out
  have T1:=Lib.hid t1
  have T2:=Lib.hid t2
  rw [Hr.out] at hsg
  have Hsg:=Lib.hid hsg.1
  have Hng:=Lib.hid hsg.2
  clear hsg t1 t2
  go_enter Tryz.func157,Tryz.ntmps157
  go_wp2_with fail
  go_quiet (fail)
  go_upto_region 4 with fail
  generalize hW:World.setCell (World.drewN w _) _ _=W
  have hRW:RdAt g s (a+1) m vst 0 W:=by rw [←hW];exact RdAt.cast T1.out (by omega)
  have hBW:But g w W:=by rw [←hW];exact (But.touch T2.out).drew _
  have hfi:a+1≤s.size:=by omega
  have d1:W.cell? ⟨g,1,none⟩=some (.int .i64 ((a:Int)+1)):=(cell_block hRW 1).trans (by show some (Value.int .i64 ((a+1:Nat):Int))=_;rw [show ((a+1:Nat):Int)=(a:Int)+1 by omega])
  have HRW:=Lib.hid hRW
  have HBW:=Lib.hid hBW
  clear hW hRW hBW c0 c1 hz T1 T2
  have c45':=c45
  clear c45
  go_wp2_with fail
  clear d1
  go_loopg [] (s.size - (a+1)) (fun k wr=>∃ i:Nat,i+k=s.size∧(a+1)≤i∧Hid (Runs JP.digit s (a+1) i)∧Hid (RdAt g s i m vst 0 wr)∧Hid (But g w wr))
  case atStart=>exact⟨(a+1),by omega,Nat.le_refl _,Lib.hid (Runs.start _ hfi),HRW,HBW⟩
  case round=>
   obtain⟨i,hig,hfi2,HR,HP,HB⟩:=hrel
   have h0:wr.cell? ⟨g,0,none⟩=some (.string s):=cell_block HP.out 0
   have h1:wr.cell? ⟨g,1,none⟩=some (.int .i64 (i:Int)):=cell_block HP.out 1
   have hz:wr.frozen? ⟨g,1,none⟩=false:=free_block HP.out 1
   have way:(∃ k,gk=k+1∧i<s.size∧∀ h:i<s.size,JP.digit s[i]=true)∨(∀ h:i<s.size,JP.digit s[i]=false):=by
    by_cases hil:i<s.size
    ·cases hd:JP.digit s[i] with
     | true=>exact .inl ⟨gk - 1,by omega,hil,fun _=>hd⟩
     | false=>exact .inr fun _=>hd
    ·exact .inr fun h=>absurd h hil
   rcases way with ⟨k,rfl,hil,hdg⟩ | hend
   ·have hd:=hdg hil
    have HR2:=Lib.hid (HR.out.step hil hd)
    rw [digit_nat] at hd
    have hd:=of_decide_eq_true hd
    have p0:decide (i<s.size)=true:=decide_eq_true hil
    have p1:(i:Int)<(s.size:Int):=by omega
    have p2:(0:Int)≤(i:Int):=by omega
    have p3:(48:Int)≤(s[i].toNat:Int):=by omega
    have p4:(s[i].toNat:Int)≤57:=by omega
    clear hd hdg
    go_wp2_with fail
    go_quiet (fail)
    go_wp2_with fail
    obtain⟨t1,t2⟩:=touch_setCell (i:=1) (v:=.int .i64 ((i:Int)+1)) HP.out
    go_roundg k
    case measure=>omega
    case rel=>exact⟨i+1,by omega,by omega,HR2,Lib.hid (RdAt.cast t1 (by omega)),Lib.hid ((HB.out.trans (But.touch t2)).drew _)⟩
   ·obtain⟨hdr,htk⟩:=HR.out.stop hend
    have hroom:=HR.out.room
    have hdg:JP.digs r=(s.data.toList.drop (a+1)).take (i - (a+1)):=by unfold JP.digs;rw [Hsg.out,htk]
    have HnR:Hid (s.data.toList.drop i=JP.numR r):=Lib.hid (by unfold JP.numR;rw [Hsg.out,hdr])
    have hall:∀ c∈JP.digs r,JP.digit c=true:=fun c hc=>by
     unfold JP.digs at hc
     exact List.all_eq_true.1 List.all_takeWhile c hc
    have Hdg:=Lib.hid hdg
    have Hall:=Lib.hid hall
    have hstop:(¬(i:Int)<(s.size:Int))∨((i:Int)<(s.size:Int)∧i<s.size∧∀ h:i<s.size,s[i].toNat<48∨57<s[i].toNat):=by
     by_cases hil:i<s.size
     ·refine .inr ⟨by omega,hil,fun h=>?_⟩
      have:=hend h
      rw [digit_nat] at this
      have:=of_decide_eq_false this
      omega
     ·exact .inl (by omega)
    clear hdg hall hdr htk hend HR
    have hmn:=wrap_sub i (a+1) (by omega) (by omega)
    rw [show ((a+1:Nat):Int)=(a:Int)+1 by omega] at hmn
    go_upto_region 5 with fail
    go_cut [66] (fun u66 wx=>u66=.bool false∧∃ n,wx=wr.drewN n)
    case first=>
     rcases hstop with p1 | ⟨p1,hil,hbad⟩
     ·have p0:decide (i<s.size)=false:=decide_eq_false (by omega)
      go_wp2_with fail
      go_quiet (fail)
      go_wp2_with fail
      go_meet
      exact⟨rfl,_,rfl⟩
     ·have p2:(0:Int)≤(i:Int):=by omega
      have p0:decide (i<s.size)=true:=decide_eq_true hil
      by_cases hb:s[i].toNat<48
      ·have p3:¬(48:Int)≤(s[i].toNat:Int):=by omega
       have p5:decide ((48:Int)≤(s[i].toNat:Int))=false:=decide_eq_false p3
       clear hb hbad
       go_wp2_with fail
       go_quiet (fail)
       go_wp2_with fail
       go_meet
       exact⟨rfl,_,rfl⟩
      ·have p3:(48:Int)≤(s[i].toNat:Int):=by omega
       have p4:¬(s[i].toNat:Int)≤57:=by have:=hbad hil;omega
       clear hb hbad
       go_wp2_with fail
       go_quiet (fail)
       go_wp2_with fail
       go_meet
       exact⟨by rw [decide_eq_false (by omega)],_,rfl⟩
    case rest=>
    obtain⟨rfl,nd,rfl⟩:=hcut
    go_upto_region 8 with fail
    obtain⟨N,hN⟩:∃ N:Nat,(i:Int) - ((a:Int)+1)=(N:Int):=⟨i - (a+1),by omega⟩
    rw [hN]
    have hiN:i≤(a+1)+N:=by omega
    have hiN2:(a+1)+N≤i:=by omega
    generalize hW:World.drewN wr nd=W
    have hRW:RdAt g s i m vst 0 W:=by rw [←hW];exact HP.out
    have hBW:But g w W:=by rw [←hW];exact HB.out.drew _
    have HRW:=Lib.hid hRW
    have HBW:=Lib.hid hBW
    have k0:W.cell? ⟨g,0,none⟩=some (.string s):=cell_block hRW 0
    have k1:W.cell? ⟨g,1,none⟩=some (.int .i64 (i:Int)):=cell_block hRW 1
    clear hW hRW hBW hN hmn h0 h1 hz hstop
    by_cases hN0:N=0
    ·subst hN0
     have HE:Hid (JP.numE r=3):=Lib.hid (numE_nil (by rw [Hdg.out,show i - (a+1)=0 by omega,List.take_zero]))
     clear Hdg Hall
     go_wp2_with fail
     refine (fail_any g s i m vst 0 3 _ HRW.out).mono ?_
     rintro E w1 ⟨rfl,hr,hbt⟩
     have Hr1:=Lib.hid hr
     have Hbt:=Lib.hid (HBW.out.trans hbt)
     clear hr hbt k0 k1
     go_wp2_with fail
     go_ret
     exact⟨Hbt.out,.inr ⟨by rw [HE.out];decide,rfl,i,by rw [HE.out];exact Hr1.out⟩⟩
    ·have hfs:(a+1)<s.size:=by omega
     have e0:((N:Int) == 0)=false:=by rw [beq_eq_false_iff_ne];omega
     have f0:(0:Int)≤((a:Int)+1):=by omega
     have f1:((a:Int)+1)<(s.size:Int):=by omega
     have f2:((a:Int)+1).toNat=a+1:=by omega
     obtain⟨t,Ht⟩:∃ t,Hid ((s.data.toList.drop ((a+1)+1)).take (N - 1)=t):=⟨_,Lib.hid rfl⟩
     have hD:JP.digs r=s[(a+1)] :: t:=by
      rw [Hdg.out,show i - (a+1)=(N - 1)+1 by omega,drop_at hfs,List.take_succ_cons,Ht.out]
     have htl:t.length=N - 1:=by
      have hl:s.data.toList.length=s.size:=by simp
      rw [←Ht.out,List.length_take,List.length_drop,hl];omega
     have HD:=Lib.hid hD
     have Htl:=Lib.hid htl
     have hE:=numE_cons hD
     rw [htl,Hng.out] at hE
     clear hD htl
     by_cases c48:s[(a+1)].toNat=48
     ·have hc48:s[(a+1)]=48:=u8_eq (b:=48) c48
      have e1:(a:Int)<(a:Int)+1:=by omega
      by_cases h1N:1<N
      ·have e2:(1:Int)<(N:Int):=by omega
       have HE:Hid (JP.numE r=3):=Lib.hid (by rw [hE,if_pos ⟨hc48,.inr rfl⟩])
       clear Hdg Hall
       go_wp2_with fail
       refine (fail_any g s i m vst 0 3 _ HRW.out).mono ?_
       rintro E w1 ⟨rfl,hr,hbt⟩
       have Hr1:=Lib.hid hr
       have Hbt:=Lib.hid (HBW.out.trans hbt)
       clear hr hbt k0 k1
       go_wp2_with fail
       go_ret
       exact⟨Hbt.out,.inr ⟨by rw [HE.out];decide,rfl,i,by rw [HE.out];exact Hr1.out⟩⟩
      ·have e2:¬(1:Int)<(N:Int):=by omega
       have HE:Hid (JP.numE r=3):=Lib.hid (by rw [hE,if_pos ⟨hc48,.inr rfl⟩])
       clear Hdg Hall
       go_wp2_with fail
       refine (fail_any g s i m vst 0 3 _ HRW.out).mono ?_
       rintro E w1 ⟨rfl,hr,hbt⟩
       have Hr1:=Lib.hid hr
       have Hbt:=Lib.hid (HBW.out.trans hbt)
       clear hr hbt k0 k1
       go_wp2_with fail
       go_ret
       exact⟨Hbt.out,.inr ⟨by rw [HE.out];decide,rfl,i,by rw [HE.out];exact Hr1.out⟩⟩
     ·have n48:((s[(a+1)].toNat:Int) == 48)=false:=by rw [beq_eq_false_iff_ne];omega
      have hc48:s[(a+1)]≠48:=fun e=>c48 (by rw [e];rfl)
      by_cases h18:18<N
      ·have e2:(18:Int)<(N:Int):=by omega
       have HE:Hid (JP.numE r=2):=Lib.hid (by rw [hE,if_neg (fun h=>hc48 h.1),if_pos (by omega)])
       clear Hdg Hall
       go_wp2_with fail
       refine (fail_any g s i m vst 0 2 _ HRW.out).mono ?_
       rintro E w1 ⟨rfl,hr,hbt⟩
       have Hr1:=Lib.hid hr
       have Hbt:=Lib.hid (HBW.out.trans hbt)
       clear hr hbt k0 k1
       go_wp2_with fail
       go_ret
       exact⟨Hbt.out,.inr ⟨by rw [HE.out];decide,rfl,i,by rw [HE.out];exact Hr1.out⟩⟩
      ·have e2:¬(18:Int)<(N:Int):=by omega
       have HE:Hid (JP.numE r=0):=Lib.hid (by rw [hE,if_neg (fun h=>hc48 h.1),if_neg (by omega)])
       have hpn:=parse_num HD.out (by rw [←HD.out];exact Hall.out) (by simp) (by rw [List.length_cons,Htl.out];omega)
       rw [Hng.out] at hpn
       have hex:(s.extract a i).data.toList=45 :: (s[a+1] :: t):=by
        rw [extract_take (by omega) (by omega)]
        have h45:s[a]=45:=u8_eq (b:=45) c45'
        rw [drop_at ha,h45,show i - a=(N - 1)+1+1 by omega,List.take_succ_cons,drop_at hfs,List.take_succ_cons,Ht.out]
       have hpi:Lib.parseIntB 64 (s.extract a i).data.toList=.ok (JP.numV r):=by rw [hex];exact hpn
       have hxs:(s.extract a i).size≤9223372036854775806:=by
        have hl:(s.extract a i).data.toList.length=(s.extract a i).size:=Array.length_toList
        rw [←hl,hex];simp only [List.length_cons,Htl.out];omega
       have HC:=Lib.hid (fun w'=>Tryz.strconv_ParseInt_10_at64_ok (s.extract a i) hxs (JP.numV r) hpi w')
       obtain⟨V,HV⟩:∃ V,Hid (JP.numV r=V):=⟨_,Lib.hid rfl⟩
       rw [HV.out] at HC
       have p1:(a:Int)≤(i:Int):=by omega
       have p2:(i:Int)≤(s.size:Int):=by omega
       clear hpn hex hpi hxs Hdg Hall HD Htl
       have hgW:g<W.heap.size:=Nat.lt_of_lt_of_le hgw HBW.out.size
       go_upto_region 15 with fail
       refine wp_region_hold 15 (fun w'=>Below W.heap.size W w') (by kernel_rfl) (by kernel_rfl) ?_ ?_
       ·exact (Below.refl _ _).drew
       simp only [List.take_succ_cons,List.take_zero,List.drop_succ_cons,List.drop_zero]
       (first | (refine wpHold_pure (v:=?_) (by rfl) (fun w=>?_) ?_;rotate_left;focus (first | (go_simp;done) | (go_simp;with_reducible rfl))) | (refine wpHold_skip ?_ ?_;focus (go_simp;done)) | (refine wpHold_pure' (v:=?_) ?_ (fun w=>?_) ?_;rotate_left;focus (go_simp;done);focus (first | (go_simp;done) | (go_simp;with_reducible rfl))));try simp only [Act.put,List.setIfInBounds_toArray,List.set_cons_zero,List.set_cons_succ]
       (first | (refine wpHold_pure (v:=?_) (by rfl) (fun w=>?_) ?_;rotate_left;focus (first | (go_simp;done) | (go_simp;with_reducible rfl))) | (refine wpHold_skip ?_ ?_;focus (go_simp;done)) | (refine wpHold_pure' (v:=?_) ?_ (fun w=>?_) ?_;rotate_left;focus (go_simp;done);focus (first | (go_simp;done) | (go_simp;with_reducible rfl))));try simp only [Act.put,List.setIfInBounds_toArray,List.set_cons_zero,List.set_cons_succ]
       (first | (refine wpHold_pure (v:=?_) (by rfl) (fun w=>?_) ?_;rotate_left;focus (first | (go_simp;done) | (go_simp;with_reducible rfl))) | (refine wpHold_skip ?_ ?_;focus (go_simp;done)) | (refine wpHold_pure' (v:=?_) ?_ (fun w=>?_) ?_;rotate_left;focus (go_simp;done);focus (first | (go_simp;done) | (go_simp;with_reducible rfl))));try simp only [Act.put,List.setIfInBounds_toArray,List.set_cons_zero,List.set_cons_succ]
       refine wpHold_read (v:=.string s) (by rfl) (fun w' hI=>?_) ?_
       ·have d0:=(hI.cell (p:=⟨g,0,none⟩) hgW).trans k0
        go_simp
        done
       try simp only [Act.put,List.setIfInBounds_toArray,List.set_cons_zero,List.set_cons_succ]
       (first | (refine wpHold_pure (v:=?_) (by rfl) (fun w=>?_) ?_;rotate_left;focus (first | (go_simp;done) | (go_simp;with_reducible rfl))) | (refine wpHold_skip ?_ ?_;focus (go_simp;done)) | (refine wpHold_pure' (v:=?_) ?_ (fun w=>?_) ?_;rotate_left;focus (go_simp;done);focus (first | (go_simp;done) | (go_simp;with_reducible rfl))));try simp only [Act.put,List.setIfInBounds_toArray,List.set_cons_zero,List.set_cons_succ]
       (first | (refine wpHold_pure (v:=?_) (by rfl) (fun w=>?_) ?_;rotate_left;focus (first | (go_simp;done) | (go_simp;with_reducible rfl))) | (refine wpHold_skip ?_ ?_;focus (go_simp;done)) | (refine wpHold_pure' (v:=?_) ?_ (fun w=>?_) ?_;rotate_left;focus (go_simp;done);focus (first | (go_simp;done) | (go_simp;with_reducible rfl))));try simp only [Act.put,List.setIfInBounds_toArray,List.set_cons_zero,List.set_cons_succ]
       (first | (refine wpHold_pure (v:=?_) (by rfl) (fun w=>?_) ?_;rotate_left;focus (first | (go_simp;done) | (go_simp;with_reducible rfl))) | (refine wpHold_skip ?_ ?_;focus (go_simp;done)) | (refine wpHold_pure' (v:=?_) ?_ (fun w=>?_) ?_;rotate_left;focus (go_simp;done);focus (first | (go_simp;done) | (go_simp;with_reducible rfl))));try simp only [Act.put,List.setIfInBounds_toArray,List.set_cons_zero,List.set_cons_succ]
       (first | (refine wpHold_pure (v:=?_) (by rfl) (fun w=>?_) ?_;rotate_left;focus (first | (go_simp;done) | (go_simp;with_reducible rfl))) | (refine wpHold_skip ?_ ?_;focus (go_simp;done)) | (refine wpHold_pure' (v:=?_) ?_ (fun w=>?_) ?_;rotate_left;focus (go_simp;done);focus (first | (go_simp;done) | (go_simp;with_reducible rfl))));try simp only [Act.put,List.setIfInBounds_toArray,List.set_cons_zero,List.set_cons_succ]
       refine wpHold_read (v:=.int .i64 (i:Int)) (by rfl) (fun w' hI=>?_) ?_
       ·have d0:=(hI.cell (p:=⟨g,1,none⟩) hgW).trans k1
        go_simp
        done
       try simp only [Act.put,List.setIfInBounds_toArray,List.set_cons_zero,List.set_cons_succ]
       refine wpHold_pure (v:=.string (s.extract a i)) (by rfl) (fun w'=>?_) ?_
       ·go_simp
        done
       try simp only [Act.put,List.setIfInBounds_toArray,List.set_cons_zero,List.set_cons_succ]
       refine wpHold_call (v:=.tuple #[.int .i64 V,.nilIface]) (f:=181) (args:=#[.string (s.extract a i),.int .i64 10,.int .i64 64]) (by rfl) (fun w'=>?_) (fun w' hI=>(HC.out w').mono fun e w'' he=>⟨he.1,?_⟩) ?_
       ·go_simp
        done
       ·rcases he.2 with rfl | ⟨t',rfl⟩
        ·exact hI
        ·exact hI.trans ((Lib.bytesWorld_below w' _ t').mono hI.size)
       try simp only [Act.put,List.setIfInBounds_toArray,List.set_cons_zero,List.set_cons_succ]
       (first | (refine wpHold_pure (v:=?_) (by rfl) (fun w=>?_) ?_;rotate_left;focus (first | (go_simp;done) | (go_simp;with_reducible rfl))) | (refine wpHold_skip ?_ ?_;focus (go_simp;done)) | (refine wpHold_pure' (v:=?_) ?_ (fun w=>?_) ?_;rotate_left;focus (go_simp;done);focus (first | (go_simp;done) | (go_simp;with_reducible rfl))));try simp only [Act.put,List.setIfInBounds_toArray,List.set_cons_zero,List.set_cons_succ]
       (first | (refine wpHold_pure (v:=?_) (by rfl) (fun w=>?_) ?_;rotate_left;focus (first | (go_simp;done) | (go_simp;with_reducible rfl))) | (refine wpHold_skip ?_ ?_;focus (go_simp;done)) | (refine wpHold_pure' (v:=?_) ?_ (fun w=>?_) ?_;rotate_left;focus (go_simp;done);focus (first | (go_simp;done) | (go_simp;with_reducible rfl))));try simp only [Act.put,List.setIfInBounds_toArray,List.set_cons_zero,List.set_cons_succ]
       (first | (refine wpHold_pure (v:=?_) (by rfl) (fun w=>?_) ?_;rotate_left;focus (first | (go_simp;done) | (go_simp;with_reducible rfl))) | (refine wpHold_skip ?_ ?_;focus (go_simp;done)) | (refine wpHold_pure' (v:=?_) ?_ (fun w=>?_) ?_;rotate_left;focus (go_simp;done);focus (first | (go_simp;done) | (go_simp;with_reducible rfl))));try simp only [Act.put,List.setIfInBounds_toArray,List.set_cons_zero,List.set_cons_succ]
       (first | (refine wpHold_pure (v:=?_) (by rfl) (fun w=>?_) ?_;rotate_left;focus (first | (go_simp;done) | (go_simp;with_reducible rfl))) | (refine wpHold_skip ?_ ?_;focus (go_simp;done)) | (refine wpHold_pure' (v:=?_) ?_ (fun w=>?_) ?_;rotate_left;focus (go_simp;done);focus (first | (go_simp;done) | (go_simp;with_reducible rfl))));try simp only [Act.put,List.setIfInBounds_toArray,List.set_cons_zero,List.set_cons_succ]
       refine wpHold_nil ?_
       intro w1 hI
       have HI:=Lib.hid hI
       clear hI k0 k1
       try simp only [Act.put,List.setIfInBounds_toArray,List.set_cons_zero,List.set_cons_succ]
       go_wp2_with fail
       go_ret
       exact⟨HBW.out.trans (But.of HI.out),.inl ⟨HE.out,by rw [HV.out];rfl,i,hroom,HnR.out,(HI.out.block g hgW).trans HRW.out⟩⟩
 ·have n45:((s[a].toNat:Int) == 45)=false:=by rw [beq_eq_false_iff_ne];omega
  have hsg:=digs_pos ha (fun e=>c45 (by rw [e];rfl))
  rw [Hr.out] at hsg
  have Hsg:=Lib.hid hsg.1
  have Hng:=Lib.hid hsg.2
  clear hsg
  go_enter Tryz.func157,Tryz.ntmps157
  go_wp2_with fail
  go_quiet (fail)
  go_upto_region 4 with fail
  generalize hW:World.drewN w _=W
  have hRW:RdAt g s a m vst 0 W:=by rw [←hW];exact H.out
  have hBW:But g w W:=by rw [←hW];exact (But.refl _ _).drew _
  have hfi:a≤s.size:=by omega
  have d1:W.cell? ⟨g,1,none⟩=some (.int .i64 (a:Int)):=cell_block hRW 1
  have HRW:=Lib.hid hRW
  have HBW:=Lib.hid hBW
  clear hW hRW hBW c0 c1 hz c45 n45
  go_wp2_with fail
  clear d1
  go_loopg [] (s.size - a) (fun k wr=>∃ i:Nat,i+k=s.size∧a≤i∧Hid (Runs JP.digit s a i)∧Hid (RdAt g s i m vst 0 wr)∧Hid (But g w wr))
  case atStart=>exact⟨a,by omega,Nat.le_refl _,Lib.hid (Runs.start _ hfi),HRW,HBW⟩
  case round=>
   obtain⟨i,hig,hfi2,HR,HP,HB⟩:=hrel
   have h0:wr.cell? ⟨g,0,none⟩=some (.string s):=cell_block HP.out 0
   have h1:wr.cell? ⟨g,1,none⟩=some (.int .i64 (i:Int)):=cell_block HP.out 1
   have hz:wr.frozen? ⟨g,1,none⟩=false:=free_block HP.out 1
   have way:(∃ k,gk=k+1∧i<s.size∧∀ h:i<s.size,JP.digit s[i]=true)∨(∀ h:i<s.size,JP.digit s[i]=false):=by
    by_cases hil:i<s.size
    ·cases hd:JP.digit s[i] with
     | true=>exact .inl ⟨gk - 1,by omega,hil,fun _=>hd⟩
     | false=>exact .inr fun _=>hd
    ·exact .inr fun h=>absurd h hil
   rcases way with ⟨k,rfl,hil,hdg⟩ | hend
   ·have hd:=hdg hil
    have HR2:=Lib.hid (HR.out.step hil hd)
    rw [digit_nat] at hd
    have hd:=of_decide_eq_true hd
    have p0:decide (i<s.size)=true:=decide_eq_true hil
    have p1:(i:Int)<(s.size:Int):=by omega
    have p2:(0:Int)≤(i:Int):=by omega
    have p3:(48:Int)≤(s[i].toNat:Int):=by omega
    have p4:(s[i].toNat:Int)≤57:=by omega
    clear hd hdg
    go_wp2_with fail
    go_quiet (fail)
    go_wp2_with fail
    obtain⟨t1,t2⟩:=touch_setCell (i:=1) (v:=.int .i64 ((i:Int)+1)) HP.out
    go_roundg k
    case measure=>omega
    case rel=>exact⟨i+1,by omega,by omega,HR2,Lib.hid (RdAt.cast t1 (by omega)),Lib.hid ((HB.out.trans (But.touch t2)).drew _)⟩
   ·obtain⟨hdr,htk⟩:=HR.out.stop hend
    have hroom:=HR.out.room
    have hdg:JP.digs r=(s.data.toList.drop a).take (i - a):=by unfold JP.digs;rw [Hsg.out,←Hr.out,htk]
    have HnR:Hid (s.data.toList.drop i=JP.numR r):=Lib.hid (by unfold JP.numR;rw [Hsg.out,←Hr.out,hdr])
    have hall:∀ c∈JP.digs r,JP.digit c=true:=fun c hc=>by
     unfold JP.digs at hc
     exact List.all_eq_true.1 List.all_takeWhile c hc
    have Hdg:=Lib.hid hdg
    have Hall:=Lib.hid hall
    have hstop:(¬(i:Int)<(s.size:Int))∨((i:Int)<(s.size:Int)∧i<s.size∧∀ h:i<s.size,s[i].toNat<48∨57<s[i].toNat):=by
     by_cases hil:i<s.size
     ·refine .inr ⟨by omega,hil,fun h=>?_⟩
      have:=hend h
      rw [digit_nat] at this
      have:=of_decide_eq_false this
      omega
     ·exact .inl (by omega)
    clear hdg hall hdr htk hend HR
    have hmn:=wrap_sub i a (by omega) (by omega)
    go_upto_region 5 with fail
    go_cut [66] (fun u66 wx=>u66=.bool false∧∃ n,wx=wr.drewN n)
    case first=>
     rcases hstop with p1 | ⟨p1,hil,hbad⟩
     ·have p0:decide (i<s.size)=false:=decide_eq_false (by omega)
      go_wp2_with fail
      go_quiet (fail)
      go_wp2_with fail
      go_meet
      exact⟨rfl,_,rfl⟩
     ·have p2:(0:Int)≤(i:Int):=by omega
      have p0:decide (i<s.size)=true:=decide_eq_true hil
      by_cases hb:s[i].toNat<48
      ·have p3:¬(48:Int)≤(s[i].toNat:Int):=by omega
       have p5:decide ((48:Int)≤(s[i].toNat:Int))=false:=decide_eq_false p3
       clear hb hbad
       go_wp2_with fail
       go_quiet (fail)
       go_wp2_with fail
       go_meet
       exact⟨rfl,_,rfl⟩
      ·have p3:(48:Int)≤(s[i].toNat:Int):=by omega
       have p4:¬(s[i].toNat:Int)≤57:=by have:=hbad hil;omega
       clear hb hbad
       go_wp2_with fail
       go_quiet (fail)
       go_wp2_with fail
       go_meet
       exact⟨by rw [decide_eq_false (by omega)],_,rfl⟩
    case rest=>
    obtain⟨rfl,nd,rfl⟩:=hcut
    go_upto_region 8 with fail
    obtain⟨N,hN⟩:∃ N:Nat,(i:Int) - (a:Int)=(N:Int):=⟨i - a,by omega⟩
    rw [hN]
    have hiN:i≤a+N:=by omega
    have hiN2:a+N≤i:=by omega
    generalize hW:World.drewN wr nd=W
    have hRW:RdAt g s i m vst 0 W:=by rw [←hW];exact HP.out
    have hBW:But g w W:=by rw [←hW];exact HB.out.drew _
    have HRW:=Lib.hid hRW
    have HBW:=Lib.hid hBW
    have k0:W.cell? ⟨g,0,none⟩=some (.string s):=cell_block hRW 0
    have k1:W.cell? ⟨g,1,none⟩=some (.int .i64 (i:Int)):=cell_block hRW 1
    clear hW hRW hBW hN hmn h0 h1 hz hstop
    by_cases hN0:N=0
    ·subst hN0
     have HE:Hid (JP.numE r=3):=Lib.hid (numE_nil (by rw [Hdg.out,show i - a=0 by omega,List.take_zero]))
     clear Hdg Hall
     go_wp2_with fail
     refine (fail_any g s i m vst 0 3 _ HRW.out).mono ?_
     rintro E w1 ⟨rfl,hr,hbt⟩
     have Hr1:=Lib.hid hr
     have Hbt:=Lib.hid (HBW.out.trans hbt)
     clear hr hbt k0 k1
     go_wp2_with fail
     go_ret
     exact⟨Hbt.out,.inr ⟨by rw [HE.out];decide,rfl,i,by rw [HE.out];exact Hr1.out⟩⟩
    ·have hfs:a<s.size:=by omega
     have e0:((N:Int) == 0)=false:=by rw [beq_eq_false_iff_ne];omega
     have f0:(0:Int)≤(a:Int):=by omega
     have f1:(a:Int)<(s.size:Int):=by omega
     obtain⟨t,Ht⟩:∃ t,Hid ((s.data.toList.drop (a+1)).take (N - 1)=t):=⟨_,Lib.hid rfl⟩
     have hD:JP.digs r=s[a] :: t:=by
      rw [Hdg.out,show i - a=(N - 1)+1 by omega,drop_at hfs,List.take_succ_cons,Ht.out]
     have htl:t.length=N - 1:=by
      have hl:s.data.toList.length=s.size:=by simp
      rw [←Ht.out,List.length_take,List.length_drop,hl];omega
     have HD:=Lib.hid hD
     have Htl:=Lib.hid htl
     have hE:=numE_cons hD
     rw [htl,Hng.out] at hE
     clear hD htl
     by_cases c48:s[a].toNat=48
     ·have hc48:s[a]=48:=u8_eq (b:=48) c48
      by_cases h1N:1<N
      ·have e2:(1:Int)<(N:Int):=by omega
       have HE:Hid (JP.numE r=3):=Lib.hid (by rw [hE,if_pos ⟨hc48,.inl fun h=>by have:=Htl.out;rw [h] at this;simp at this;omega⟩])
       clear Hdg Hall
       go_wp2_with fail
       refine (fail_any g s i m vst 0 3 _ HRW.out).mono ?_
       rintro E w1 ⟨rfl,hr,hbt⟩
       have Hr1:=Lib.hid hr
       have Hbt:=Lib.hid (HBW.out.trans hbt)
       clear hr hbt k0 k1
       go_wp2_with fail
       go_ret
       exact⟨Hbt.out,.inr ⟨by rw [HE.out];decide,rfl,i,by rw [HE.out];exact Hr1.out⟩⟩
      ·have e2:¬(1:Int)<(N:Int):=by omega
       have e3:¬(18:Int)<(N:Int):=by omega
       have HE:Hid (JP.numE r=0):=Lib.hid (by rw [hE,if_neg (fun h=>h.2.elim (fun h9=>h9 (List.eq_nil_of_length_eq_zero (by rw [Htl.out];omega))) (fun h9=>by cases h9)),if_neg (by omega)])
       have hpn:=parse_num HD.out (by rw [←HD.out];exact Hall.out) (by simp) (by rw [List.length_cons,Htl.out];omega)
       rw [Hng.out] at hpn
       have hex:(s.extract a i).data.toList=s[a] :: t:=by
        rw [extract_take (by omega) (by omega)]
        rw [drop_at ha,show i - a=(N - 1)+1 by omega,List.take_succ_cons,Ht.out]
       have hpi:Lib.parseIntB 64 (s.extract a i).data.toList=.ok (JP.numV r):=by rw [hex];exact hpn
       have hxs:(s.extract a i).size≤9223372036854775806:=by
        have hl:(s.extract a i).data.toList.length=(s.extract a i).size:=Array.length_toList
        rw [←hl,hex];simp only [List.length_cons,Htl.out];omega
       have HC:=Lib.hid (fun w'=>Tryz.strconv_ParseInt_10_at64_ok (s.extract a i) hxs (JP.numV r) hpi w')
       obtain⟨V,HV⟩:∃ V,Hid (JP.numV r=V):=⟨_,Lib.hid rfl⟩
       rw [HV.out] at HC
       have p1:(a:Int)≤(i:Int):=by omega
       have p2:(i:Int)≤(s.size:Int):=by omega
       clear hpn hex hpi hxs Hdg Hall HD Htl
       have hgW:g<W.heap.size:=Nat.lt_of_lt_of_le hgw HBW.out.size
       go_upto_region 15 with fail
       refine wp_region_hold 15 (fun w'=>Below W.heap.size W w') (by kernel_rfl) (by kernel_rfl) ?_ ?_
       ·exact (Below.refl _ _).drew
       simp only [List.take_succ_cons,List.take_zero,List.drop_succ_cons,List.drop_zero]
       (first | (refine wpHold_pure (v:=?_) (by rfl) (fun w=>?_) ?_;rotate_left;focus (first | (go_simp;done) | (go_simp;with_reducible rfl))) | (refine wpHold_skip ?_ ?_;focus (go_simp;done)) | (refine wpHold_pure' (v:=?_) ?_ (fun w=>?_) ?_;rotate_left;focus (go_simp;done);focus (first | (go_simp;done) | (go_simp;with_reducible rfl))));try simp only [Act.put,List.setIfInBounds_toArray,List.set_cons_zero,List.set_cons_succ]
       (first | (refine wpHold_pure (v:=?_) (by rfl) (fun w=>?_) ?_;rotate_left;focus (first | (go_simp;done) | (go_simp;with_reducible rfl))) | (refine wpHold_skip ?_ ?_;focus (go_simp;done)) | (refine wpHold_pure' (v:=?_) ?_ (fun w=>?_) ?_;rotate_left;focus (go_simp;done);focus (first | (go_simp;done) | (go_simp;with_reducible rfl))));try simp only [Act.put,List.setIfInBounds_toArray,List.set_cons_zero,List.set_cons_succ]
       (first | (refine wpHold_pure (v:=?_) (by rfl) (fun w=>?_) ?_;rotate_left;focus (first | (go_simp;done) | (go_simp;with_reducible rfl))) | (refine wpHold_skip ?_ ?_;focus (go_simp;done)) | (refine wpHold_pure' (v:=?_) ?_ (fun w=>?_) ?_;rotate_left;focus (go_simp;done);focus (first | (go_simp;done) | (go_simp;with_reducible rfl))));try simp only [Act.put,List.setIfInBounds_toArray,List.set_cons_zero,List.set_cons_succ]
       refine wpHold_read (v:=.string s) (by rfl) (fun w' hI=>?_) ?_
       ·have d0:=(hI.cell (p:=⟨g,0,none⟩) hgW).trans k0
        go_simp
        done
       try simp only [Act.put,List.setIfInBounds_toArray,List.set_cons_zero,List.set_cons_succ]
       (first | (refine wpHold_pure (v:=?_) (by rfl) (fun w=>?_) ?_;rotate_left;focus (first | (go_simp;done) | (go_simp;with_reducible rfl))) | (refine wpHold_skip ?_ ?_;focus (go_simp;done)) | (refine wpHold_pure' (v:=?_) ?_ (fun w=>?_) ?_;rotate_left;focus (go_simp;done);focus (first | (go_simp;done) | (go_simp;with_reducible rfl))));try simp only [Act.put,List.setIfInBounds_toArray,List.set_cons_zero,List.set_cons_succ]
       (first | (refine wpHold_pure (v:=?_) (by rfl) (fun w=>?_) ?_;rotate_left;focus (first | (go_simp;done) | (go_simp;with_reducible rfl))) | (refine wpHold_skip ?_ ?_;focus (go_simp;done)) | (refine wpHold_pure' (v:=?_) ?_ (fun w=>?_) ?_;rotate_left;focus (go_simp;done);focus (first | (go_simp;done) | (go_simp;with_reducible rfl))));try simp only [Act.put,List.setIfInBounds_toArray,List.set_cons_zero,List.set_cons_succ]
       (first | (refine wpHold_pure (v:=?_) (by rfl) (fun w=>?_) ?_;rotate_left;focus (first | (go_simp;done) | (go_simp;with_reducible rfl))) | (refine wpHold_skip ?_ ?_;focus (go_simp;done)) | (refine wpHold_pure' (v:=?_) ?_ (fun w=>?_) ?_;rotate_left;focus (go_simp;done);focus (first | (go_simp;done) | (go_simp;with_reducible rfl))));try simp only [Act.put,List.setIfInBounds_toArray,List.set_cons_zero,List.set_cons_succ]
       (first | (refine wpHold_pure (v:=?_) (by rfl) (fun w=>?_) ?_;rotate_left;focus (first | (go_simp;done) | (go_simp;with_reducible rfl))) | (refine wpHold_skip ?_ ?_;focus (go_simp;done)) | (refine wpHold_pure' (v:=?_) ?_ (fun w=>?_) ?_;rotate_left;focus (go_simp;done);focus (first | (go_simp;done) | (go_simp;with_reducible rfl))));try simp only [Act.put,List.setIfInBounds_toArray,List.set_cons_zero,List.set_cons_succ]
       refine wpHold_read (v:=.int .i64 (i:Int)) (by rfl) (fun w' hI=>?_) ?_
       ·have d0:=(hI.cell (p:=⟨g,1,none⟩) hgW).trans k1
        go_simp
        done
       try simp only [Act.put,List.setIfInBounds_toArray,List.set_cons_zero,List.set_cons_succ]
       refine wpHold_pure (v:=.string (s.extract a i)) (by rfl) (fun w'=>?_) ?_
       ·go_simp
        done
       try simp only [Act.put,List.setIfInBounds_toArray,List.set_cons_zero,List.set_cons_succ]
       refine wpHold_call (v:=.tuple #[.int .i64 V,.nilIface]) (f:=181) (args:=#[.string (s.extract a i),.int .i64 10,.int .i64 64]) (by rfl) (fun w'=>?_) (fun w' hI=>(HC.out w').mono fun e w'' he=>⟨he.1,?_⟩) ?_
       ·go_simp
        done
       ·rcases he.2 with rfl | ⟨t',rfl⟩
        ·exact hI
        ·exact hI.trans ((Lib.bytesWorld_below w' _ t').mono hI.size)
       try simp only [Act.put,List.setIfInBounds_toArray,List.set_cons_zero,List.set_cons_succ]
       (first | (refine wpHold_pure (v:=?_) (by rfl) (fun w=>?_) ?_;rotate_left;focus (first | (go_simp;done) | (go_simp;with_reducible rfl))) | (refine wpHold_skip ?_ ?_;focus (go_simp;done)) | (refine wpHold_pure' (v:=?_) ?_ (fun w=>?_) ?_;rotate_left;focus (go_simp;done);focus (first | (go_simp;done) | (go_simp;with_reducible rfl))));try simp only [Act.put,List.setIfInBounds_toArray,List.set_cons_zero,List.set_cons_succ]
       (first | (refine wpHold_pure (v:=?_) (by rfl) (fun w=>?_) ?_;rotate_left;focus (first | (go_simp;done) | (go_simp;with_reducible rfl))) | (refine wpHold_skip ?_ ?_;focus (go_simp;done)) | (refine wpHold_pure' (v:=?_) ?_ (fun w=>?_) ?_;rotate_left;focus (go_simp;done);focus (first | (go_simp;done) | (go_simp;with_reducible rfl))));try simp only [Act.put,List.setIfInBounds_toArray,List.set_cons_zero,List.set_cons_succ]
       (first | (refine wpHold_pure (v:=?_) (by rfl) (fun w=>?_) ?_;rotate_left;focus (first | (go_simp;done) | (go_simp;with_reducible rfl))) | (refine wpHold_skip ?_ ?_;focus (go_simp;done)) | (refine wpHold_pure' (v:=?_) ?_ (fun w=>?_) ?_;rotate_left;focus (go_simp;done);focus (first | (go_simp;done) | (go_simp;with_reducible rfl))));try simp only [Act.put,List.setIfInBounds_toArray,List.set_cons_zero,List.set_cons_succ]
       (first | (refine wpHold_pure (v:=?_) (by rfl) (fun w=>?_) ?_;rotate_left;focus (first | (go_simp;done) | (go_simp;with_reducible rfl))) | (refine wpHold_skip ?_ ?_;focus (go_simp;done)) | (refine wpHold_pure' (v:=?_) ?_ (fun w=>?_) ?_;rotate_left;focus (go_simp;done);focus (first | (go_simp;done) | (go_simp;with_reducible rfl))));try simp only [Act.put,List.setIfInBounds_toArray,List.set_cons_zero,List.set_cons_succ]
       refine wpHold_nil ?_
       intro w1 hI
       have HI:=Lib.hid hI
       clear hI k0 k1
       try simp only [Act.put,List.setIfInBounds_toArray,List.set_cons_zero,List.set_cons_succ]
       go_wp2_with fail
       go_ret
       exact⟨HBW.out.trans (But.of HI.out),.inl ⟨HE.out,by rw [HV.out];rfl,i,hroom,HnR.out,(HI.out.block g hgW).trans HRW.out⟩⟩
     ·have n48:((s[a].toNat:Int) == 48)=false:=by rw [beq_eq_false_iff_ne];omega
      have hc48:s[a]≠48:=fun e=>c48 (by rw [e];rfl)
      by_cases h18:18<N
      ·have e2:(18:Int)<(N:Int):=by omega
       have HE:Hid (JP.numE r=2):=Lib.hid (by rw [hE,if_neg (fun h=>hc48 h.1),if_pos (by omega)])
       clear Hdg Hall
       go_wp2_with fail
       refine (fail_any g s i m vst 0 2 _ HRW.out).mono ?_
       rintro E w1 ⟨rfl,hr,hbt⟩
       have Hr1:=Lib.hid hr
       have Hbt:=Lib.hid (HBW.out.trans hbt)
       clear hr hbt k0 k1
       go_wp2_with fail
       go_ret
       exact⟨Hbt.out,.inr ⟨by rw [HE.out];decide,rfl,i,by rw [HE.out];exact Hr1.out⟩⟩
      ·have e2:¬(18:Int)<(N:Int):=by omega
       have HE:Hid (JP.numE r=0):=Lib.hid (by rw [hE,if_neg (fun h=>hc48 h.1),if_neg (by omega)])
       have hpn:=parse_num HD.out (by rw [←HD.out];exact Hall.out) (by simp) (by rw [List.length_cons,Htl.out];omega)
       rw [Hng.out] at hpn
       have hex:(s.extract a i).data.toList=s[a] :: t:=by
        rw [extract_take (by omega) (by omega)]
        rw [drop_at ha,show i - a=(N - 1)+1 by omega,List.take_succ_cons,Ht.out]
       have hpi:Lib.parseIntB 64 (s.extract a i).data.toList=.ok (JP.numV r):=by rw [hex];exact hpn
       have hxs:(s.extract a i).size≤9223372036854775806:=by
        have hl:(s.extract a i).data.toList.length=(s.extract a i).size:=Array.length_toList
        rw [←hl,hex];simp only [List.length_cons,Htl.out];omega
       have HC:=Lib.hid (fun w'=>Tryz.strconv_ParseInt_10_at64_ok (s.extract a i) hxs (JP.numV r) hpi w')
       obtain⟨V,HV⟩:∃ V,Hid (JP.numV r=V):=⟨_,Lib.hid rfl⟩
       rw [HV.out] at HC
       have p1:(a:Int)≤(i:Int):=by omega
       have p2:(i:Int)≤(s.size:Int):=by omega
       clear hpn hex hpi hxs Hdg Hall HD Htl
       have hgW:g<W.heap.size:=Nat.lt_of_lt_of_le hgw HBW.out.size
       go_upto_region 15 with fail
       refine wp_region_hold 15 (fun w'=>Below W.heap.size W w') (by kernel_rfl) (by kernel_rfl) ?_ ?_
       ·exact (Below.refl _ _).drew
       simp only [List.take_succ_cons,List.take_zero,List.drop_succ_cons,List.drop_zero]
       (first | (refine wpHold_pure (v:=?_) (by rfl) (fun w=>?_) ?_;rotate_left;focus (first | (go_simp;done) | (go_simp;with_reducible rfl))) | (refine wpHold_skip ?_ ?_;focus (go_simp;done)) | (refine wpHold_pure' (v:=?_) ?_ (fun w=>?_) ?_;rotate_left;focus (go_simp;done);focus (first | (go_simp;done) | (go_simp;with_reducible rfl))));try simp only [Act.put,List.setIfInBounds_toArray,List.set_cons_zero,List.set_cons_succ]
       (first | (refine wpHold_pure (v:=?_) (by rfl) (fun w=>?_) ?_;rotate_left;focus (first | (go_simp;done) | (go_simp;with_reducible rfl))) | (refine wpHold_skip ?_ ?_;focus (go_simp;done)) | (refine wpHold_pure' (v:=?_) ?_ (fun w=>?_) ?_;rotate_left;focus (go_simp;done);focus (first | (go_simp;done) | (go_simp;with_reducible rfl))));try simp only [Act.put,List.setIfInBounds_toArray,List.set_cons_zero,List.set_cons_succ]
       (first | (refine wpHold_pure (v:=?_) (by rfl) (fun w=>?_) ?_;rotate_left;focus (first | (go_simp;done) | (go_simp;with_reducible rfl))) | (refine wpHold_skip ?_ ?_;focus (go_simp;done)) | (refine wpHold_pure' (v:=?_) ?_ (fun w=>?_) ?_;rotate_left;focus (go_simp;done);focus (first | (go_simp;done) | (go_simp;with_reducible rfl))));try simp only [Act.put,List.setIfInBounds_toArray,List.set_cons_zero,List.set_cons_succ]
       refine wpHold_read (v:=.string s) (by rfl) (fun w' hI=>?_) ?_
       ·have d0:=(hI.cell (p:=⟨g,0,none⟩) hgW).trans k0
        go_simp
        done
       try simp only [Act.put,List.setIfInBounds_toArray,List.set_cons_zero,List.set_cons_succ]
       (first | (refine wpHold_pure (v:=?_) (by rfl) (fun w=>?_) ?_;rotate_left;focus (first | (go_simp;done) | (go_simp;with_reducible rfl))) | (refine wpHold_skip ?_ ?_;focus (go_simp;done)) | (refine wpHold_pure' (v:=?_) ?_ (fun w=>?_) ?_;rotate_left;focus (go_simp;done);focus (first | (go_simp;done) | (go_simp;with_reducible rfl))));try simp only [Act.put,List.setIfInBounds_toArray,List.set_cons_zero,List.set_cons_succ]
       (first | (refine wpHold_pure (v:=?_) (by rfl) (fun w=>?_) ?_;rotate_left;focus (first | (go_simp;done) | (go_simp;with_reducible rfl))) | (refine wpHold_skip ?_ ?_;focus (go_simp;done)) | (refine wpHold_pure' (v:=?_) ?_ (fun w=>?_) ?_;rotate_left;focus (go_simp;done);focus (first | (go_simp;done) | (go_simp;with_reducible rfl))));try simp only [Act.put,List.setIfInBounds_toArray,List.set_cons_zero,List.set_cons_succ]
       (first | (refine wpHold_pure (v:=?_) (by rfl) (fun w=>?_) ?_;rotate_left;focus (first | (go_simp;done) | (go_simp;with_reducible rfl))) | (refine wpHold_skip ?_ ?_;focus (go_simp;done)) | (refine wpHold_pure' (v:=?_) ?_ (fun w=>?_) ?_;rotate_left;focus (go_simp;done);focus (first | (go_simp;done) | (go_simp;with_reducible rfl))));try simp only [Act.put,List.setIfInBounds_toArray,List.set_cons_zero,List.set_cons_succ]
       (first | (refine wpHold_pure (v:=?_) (by rfl) (fun w=>?_) ?_;rotate_left;focus (first | (go_simp;done) | (go_simp;with_reducible rfl))) | (refine wpHold_skip ?_ ?_;focus (go_simp;done)) | (refine wpHold_pure' (v:=?_) ?_ (fun w=>?_) ?_;rotate_left;focus (go_simp;done);focus (first | (go_simp;done) | (go_simp;with_reducible rfl))));try simp only [Act.put,List.setIfInBounds_toArray,List.set_cons_zero,List.set_cons_succ]
       refine wpHold_read (v:=.int .i64 (i:Int)) (by rfl) (fun w' hI=>?_) ?_
       ·have d0:=(hI.cell (p:=⟨g,1,none⟩) hgW).trans k1
        go_simp
        done
       try simp only [Act.put,List.setIfInBounds_toArray,List.set_cons_zero,List.set_cons_succ]
       refine wpHold_pure (v:=.string (s.extract a i)) (by rfl) (fun w'=>?_) ?_
       ·go_simp
        done
       try simp only [Act.put,List.setIfInBounds_toArray,List.set_cons_zero,List.set_cons_succ]
       refine wpHold_call (v:=.tuple #[.int .i64 V,.nilIface]) (f:=181) (args:=#[.string (s.extract a i),.int .i64 10,.int .i64 64]) (by rfl) (fun w'=>?_) (fun w' hI=>(HC.out w').mono fun e w'' he=>⟨he.1,?_⟩) ?_
       ·go_simp
        done
       ·rcases he.2 with rfl | ⟨t',rfl⟩
        ·exact hI
        ·exact hI.trans ((Lib.bytesWorld_below w' _ t').mono hI.size)
       try simp only [Act.put,List.setIfInBounds_toArray,List.set_cons_zero,List.set_cons_succ]
       (first | (refine wpHold_pure (v:=?_) (by rfl) (fun w=>?_) ?_;rotate_left;focus (first | (go_simp;done) | (go_simp;with_reducible rfl))) | (refine wpHold_skip ?_ ?_;focus (go_simp;done)) | (refine wpHold_pure' (v:=?_) ?_ (fun w=>?_) ?_;rotate_left;focus (go_simp;done);focus (first | (go_simp;done) | (go_simp;with_reducible rfl))));try simp only [Act.put,List.setIfInBounds_toArray,List.set_cons_zero,List.set_cons_succ]
       (first | (refine wpHold_pure (v:=?_) (by rfl) (fun w=>?_) ?_;rotate_left;focus (first | (go_simp;done) | (go_simp;with_reducible rfl))) | (refine wpHold_skip ?_ ?_;focus (go_simp;done)) | (refine wpHold_pure' (v:=?_) ?_ (fun w=>?_) ?_;rotate_left;focus (go_simp;done);focus (first | (go_simp;done) | (go_simp;with_reducible rfl))));try simp only [Act.put,List.setIfInBounds_toArray,List.set_cons_zero,List.set_cons_succ]
       (first | (refine wpHold_pure (v:=?_) (by rfl) (fun w=>?_) ?_;rotate_left;focus (first | (go_simp;done) | (go_simp;with_reducible rfl))) | (refine wpHold_skip ?_ ?_;focus (go_simp;done)) | (refine wpHold_pure' (v:=?_) ?_ (fun w=>?_) ?_;rotate_left;focus (go_simp;done);focus (first | (go_simp;done) | (go_simp;with_reducible rfl))));try simp only [Act.put,List.setIfInBounds_toArray,List.set_cons_zero,List.set_cons_succ]
       (first | (refine wpHold_pure (v:=?_) (by rfl) (fun w=>?_) ?_;rotate_left;focus (first | (go_simp;done) | (go_simp;with_reducible rfl))) | (refine wpHold_skip ?_ ?_;focus (go_simp;done)) | (refine wpHold_pure' (v:=?_) ?_ (fun w=>?_) ?_;rotate_left;focus (go_simp;done);focus (first | (go_simp;done) | (go_simp;with_reducible rfl))));try simp only [Act.put,List.setIfInBounds_toArray,List.set_cons_zero,List.set_cons_succ]
       refine wpHold_nil ?_
       intro w1 hI
       have HI:=Lib.hid hI
       clear hI k0 k1
       try simp only [Act.put,List.setIfInBounds_toArray,List.set_cons_zero,List.set_cons_succ]
       go_wp2_with fail
       go_ret
       exact⟨HBW.out.trans (But.of HI.out),.inl ⟨HE.out,by rw [HV.out];rfl,i,hroom,HnR.out,(HI.out.block g hgW).trans HRW.out⟩⟩
end Go.Proofs.YtnnceaapodgfbaaGreatDoor
namespace Go.Proofs.YtnnceaapodgfbaaGreatDoor
open Go.RowKit
open JP (JV Bs)
namespace JP
def pos (n:Bs) (d:List (Bs × JV)):Nat:=(d.takeWhile fun x=>decide (x.1<n)).length
theorem pos_le (n:Bs) (d:List (Bs × JV)):pos n d≤d.length:=(List.takeWhile_sublist _).length_le
theorem pos_lt {n:Bs}:∀ {d:List (Bs × JV)} {t:Nat} {x:Bs × JV},t<pos n d→d[t]? = some x→x.1<n
 | [],t,x,h,_=>by simp [pos] at h
 | y :: r,t,x,h,hx=>by
  unfold pos at h
  by_cases hy:y.1<n
  ·rw [List.takeWhile_cons_of_pos (by simpa using hy),List.length_cons] at h
   cases t with
   | zero=>simp at hx;subst hx;exact hy
   | succ t=>exact pos_lt (d:=r) (t:=t) (by unfold pos;omega) (by simpa using hx)
  ·rw [List.takeWhile_cons_of_neg (by simpa using hy)] at h
   simp at h
theorem pos_ge {n:Bs}:∀ {d:List (Bs × JV)} {t:Nat} {x:Bs × JV},Srt d→pos n d≤t→d[t]? = some x→¬x.1<n
 | [],t,x,_,_,h=>by simp at h
 | y :: r,t,x,hs,h,hx=>by
  obtain⟨h1,h2⟩:=List.pairwise_cons.1 hs
  unfold pos at h
  by_cases hy:y.1<n
  ·rw [List.takeWhile_cons_of_pos (by simpa using hy),List.length_cons] at h
   cases t with
   | zero=>omega
   | succ t=>exact pos_ge (d:=r) (t:=t) h2 (by unfold pos;omega) (by simpa using hx)
  ·cases t with
   | zero=>simp at hx;subst hx;exact hy
   | succ t=>
    have hm:=List.mem_of_getElem? (show r[t]? = some x by simpa using hx)
    intro hlt
    exact hy (bs_trans (h1 x hm) hlt)
theorem pos_cons_lt {n:Bs} {y:Bs × JV} {r:List (Bs × JV)} (h:y.1<n):pos n (y :: r)=pos n r+1:=by
 unfold pos
 rw [List.takeWhile_cons_of_pos (by simpa using h),List.length_cons]
theorem pos_cons_ge {n:Bs} {y:Bs × JV} {r:List (Bs × JV)} (h:¬y.1<n):pos n (y :: r)=0:=by
 unfold pos
 rw [List.takeWhile_cons_of_neg (by simpa using h)];rfl
theorem find_spec {n:Bs}:∀ {d:List (Bs × JV)},Srt d→(∃ v,d[pos n d]? = some (n,v)∧get n d=some v∧∀ u,put n u d=d.take (pos n d)++(n,u) :: d.drop (pos n d+1))∨
  ((∀ x,d[pos n d]? = some x→x.1≠n)∧get n d=none∧∀ u,put n u d=d.take (pos n d)++(n,u) :: d.drop (pos n d))
 | [],_=>.inr ⟨fun x h=>by simp at h,rfl,fun u=>rfl⟩
 | (m,y) :: r,hs=>by
  obtain⟨h1,h2⟩:=List.pairwise_cons.1 hs
  by_cases hlt:m<n
  ·have hne:m≠n:=fun e=>by subst e;exact bs_irrefl _ hlt
   have hp:pos n ((m,y) :: r)=pos n r+1:=pos_cons_lt hlt
   rw [hp]
   rcases find_spec (n:=n) h2 with ⟨v,a,b,c⟩ | ⟨a,b,c⟩
   ·refine .inl ⟨v,by simpa using a,by unfold get;rw [if_neg hne];exact b,fun u=>?_⟩
    unfold put
    rw [if_pos hlt,c u];rfl
   ·refine .inr ⟨fun x hx=>a x (by simpa using hx),by unfold get;rw [if_neg hne];exact b,fun u=>?_⟩
    unfold put
    rw [if_pos hlt,c u];rfl
  ·have hp:pos n ((m,y) :: r)=0:=pos_cons_ge hlt
   rw [hp]
   by_cases he:m=n
   ·subst he
    refine .inl ⟨y,rfl,by unfold get;rw [if_pos rfl],fun u=>?_⟩
    unfold put
    rw [if_neg hlt,if_pos rfl];rfl
   ·have hgt:=bs_trich m n hlt he
    refine .inr ⟨fun x hx=>by simp at hx;subst hx;exact he,?_,fun u=>?_⟩
    ·unfold get
     rw [if_neg he]
     exact get_none fun x hx e=>by
      have:=h1 x hx
      rw [e] at this
      exact bs_irrefl _ (bs_trans hgt this)
    ·unfold put
     rw [if_neg hlt,if_neg he];rfl
end JP
theorem bl_lt:∀ x y:Bs,Op.bytesLess x y=decide (x<y)
 | [],[]=>rfl
 | [],_ :: _=>by unfold Op.bytesLess;simp
 | _ :: _,[]=>by unfold Op.bytesLess;simp
 | a :: x,b :: y=>by
  unfold Op.bytesLess
  rw [bl_lt x y,Bool.eq_iff_iff]
  simp [List.cons_lt_cons_iff]
def srRen:Go.Shelf.Ren:=⟨fun | 26=>158 | 33=>182 | 34=>183 | 38=>108 | n=>n,fun | 0=>0 | 3=>3 | 4=>4 | 9=>9 | 24=>28 | 40=>170 | n=>n,fun | n=>n⟩
theorem srLays:Go.Proofs.Lays2.n26 Tryz.prog srRen:={
 mixed:=by kernel_rfl
 f26:=Tryz.func158.trans (congrArg some (by kernel_rfl))
 f33:=Tryz.func182.trans (congrArg some (by kernel_rfl))
 f34:=Tryz.func183.trans (congrArg some (by kernel_rfl))
 f38:=Tryz.func108.trans (congrArg some (by kernel_rfl))
 t0:=Tryz.underlying0
 a0:=Tryz.isAgg0
 z0:=Tryz.sizeOf0
 v0:=Tryz.zeroValue0
 t3:=Tryz.underlying3
 a3:=Tryz.isAgg3
 z3:=Tryz.sizeOf3
 v3:=Tryz.zeroValue3
 t4:=Tryz.underlying4
 a4:=Tryz.isAgg4
 z4:=Tryz.sizeOf4
 v4:=Tryz.zeroValue4
 t9:=Tryz.underlying9
 a9:=Tryz.isAgg9
 z9:=Tryz.sizeOf9
 v9:=Tryz.zeroValue9
 t24:=Tryz.underlying28
 a24:=Tryz.isAgg28
 z24:=Tryz.sizeOf28
 v24:=Tryz.zeroValue28
 t40:=Tryz.underlying170
 a40:=Tryz.isAgg170
 z40:=Tryz.sizeOf170
 v40:=Tryz.zeroValue170}
theorem mkB_toList (l:Bs):(mkB l).toList=l:=by rw [ByteArray.toList_eq,mkB_list]
theorem search_any {vn:Value} {d:List (Bs × JV)} {x:Bs} {w:World} (hs:JP.Srt d) (h:RowAt RString 1 w vn (d.map fun y=>mkB y.1)) (hl:d.length≤1048576) :
  Calls Tryz.prog 158 #[vn,.string (mkB x)] w fun e w'=>e=.returned (.tuple #[.int .i64 (JP.pos x d:Int),.bool (JP.get x d).isSome])∧∃ q,w'=w.drewN q:=by
 by_cases h0:d = []
 ·subst h0
  obtain⟨a,c,hu,_,_⟩:=h.len
  rw [hu]
  refine (Any2.slices_BinarySearch_string_empty srLays a c (mkB x) w).mono ?_
  rintro e w' ⟨rfl,rfl⟩
  exact⟨rfl,0,rfl⟩
 ·have hpos:0<d.length:=List.length_pos_iff.2 h0
  obtain⟨b,o,c,rfl,_,_,hbs,hcell⟩:=h.form (by rw [List.length_map];exact hpos) (by omega)
  rw [List.length_map]
  refine (Any2.slices_BinarySearch_string srLays b o d.length c (fun t=>mkB ((d.map (·.1)).getD t x)) (mkB x) w (by omega) (fun j hj=>?_)).mono ?_
  ·obtain⟨cs,_,g2,g3⟩:=hcell j (mkB d[j].1) (by simp [hj])
   have:=g2 0 (.string (mkB d[j].1)) (by rw [g3];rfl)
   rw [show (d.map (·.1)).getD j x=d[j].1 from by simp [List.getD,hj]]
   simpa using this
  ·have hk:Lib.bsGo (fun t=>Op.bytesLess (mkB ((d.map (·.1)).getD t x)).toList (mkB x).toList) d.length 0 d.length=JP.pos x d:=by
    refine Lib.bsGo_spec _ (JP.pos x d) (fun t ht=>?_) (fun t ht=>?_) d.length 0 d.length (by omega) (by omega) (JP.pos_le x d)
    ·have htl:t<d.length:=Nat.lt_of_lt_of_le ht (JP.pos_le x d)
     rw [mkB_toList,mkB_toList,bl_lt,show (d.map (·.1)).getD t x=d[t].1 from by simp [List.getD,htl],decide_eq_true_iff]
     exact JP.pos_lt ht (List.getElem?_eq_getElem htl)
    ·rw [mkB_toList,mkB_toList,bl_lt,decide_eq_false_iff_not]
     by_cases htl:t<d.length
     ·rw [show (d.map (·.1)).getD t x=d[t].1 from by simp [List.getD,htl]]
      exact JP.pos_ge hs ht (List.getElem?_eq_getElem htl)
     ·rw [show (d.map (·.1)).getD t x=x from by simp [List.getD,htl]]
      exact JP.bs_irrefl x
   rintro e w' ⟨he,hw⟩
   refine⟨?_,hw⟩
   rw [he,hk]
   congr 4
   rcases JP.find_spec (n:=x) hs with ⟨v,a,b,_⟩ | ⟨a,b,_⟩
   ·have hlt:=(List.getElem?_eq_some_iff.1 a).1
    rw [b]
    rw [decide_eq_true_iff.2]
    ·rfl
    ·refine⟨hlt,?_⟩
     rw [mkB_inj]
     simp [List.getD,a]
   ·rw [b,decide_eq_false_iff_not.2]
    ·rfl
    ·rintro ⟨hlt,he⟩
     rw [mkB_inj] at he
     refine a d[JP.pos x d] (List.getElem?_eq_getElem hlt) ?_
     refine Eq.trans ?_ he
     simp [List.getD,hlt]
end Go.Proofs.YtnnceaapodgfbaaGreatDoor
namespace Go.Proofs.YtnnceaapodgfbaaGreatDoor
open Go.RowKit
open JP (JV Bs)
theorem KeepT.drewN {T:List Nat} (w:World) (k:Nat):KeepT T w (w.drewN k):=⟨rfl,rfl,rfl,Nat.le_refl _,fun _ _ _=>rfl⟩
set_option maxRecDepth 100000 in
set_option maxHeartbeats 1600000 in
theorem get_any {n:Nat} {T:List Nat} {q:Nat} {d:List (Bs × JV)} {x:Bs} {w:World} (h:ObR (JvR n T) T w q d) (hl:d.length≤1048576) :
  Calls Tryz.prog 155 #[.pointer (some ⟨q,0,none⟩),.string (mkB x)] w fun e w'=>∃ v,e=.returned (.tuple #[v,.bool (JP.get x d).isSome])∧(∀ y,JP.get x d=some y→JvAt n T w v y)∧(JP.get x d=none→v=.nilIface)∧∃ k,w'=w.drewN k:=by
 obtain⟨_,hs,vn,vv,cn,cv,hrn,_,hrv,_⟩:=h
 have HS:=Lib.hid (search_any (x:=x) hs hrn hl)
 have hpl:=JP.pos_le x d
 have HF:=Lib.hid (JP.find_spec (n:=x) hs)
 obtain⟨p,hp⟩:∃ p,JP.pos x d=p:=⟨_,rfl⟩
 rw [hp] at HS HF hpl
 have Hrv:=Lib.hid hrv
 clear hrn hrv hs hp
 rcases HF.out with ⟨y,hy,hg,_⟩ | ⟨_,hg,_⟩
 ·have hlt:p<d.length:=(List.getElem?_eq_some_iff.1 hy).1
  obtain⟨b,o,c,rfl,_,_,hbs,hcell⟩:=Hrv.out.form (by rw [List.length_map];omega) (by omega)
  rw [List.length_map] at cv
  obtain⟨cs,_,hcc,vx,rfl,hvx⟩:=hcell p y (by rw [List.getElem?_map,hy];rfl)
  have e0:w.cell? ⟨b,o+p,none⟩=some vx:=by simpa using hcc 0 _ rfl
  have HX:=Lib.hid hvx
  have HG:=Lib.hid hg
  rw [hg] at HS
  have q1:(0:Int)≤(p:Int):=by omega
  have q2:(p:Int)<(d.length:Int):=by omega
  clear hcell hcc hvx hg hy HF
  go_enter Tryz.func155,Tryz.ntmps155
  go_wp2_with fail
  refine HS.out.mono ?_
  rintro E w1 ⟨rfl,k,rfl⟩
  have e1:(w.drewN k).cell? ⟨b,o+p,none⟩=some vx:=e0
  have cv1:(w.drewN k).cell? ⟨q,1,none⟩=_:=cv
  go_wp2_with fail
  go_ret2
  have hg:=HG.out
  refine⟨vx,by rw [hg];rfl,?_,?_,k,rfl⟩
  ·intro y' h'
   rw [hg] at h'
   cases h'
   exact HX.out
  ·intro h'
   rw [hg] at h'
   cases h'
 ·have HG:=Lib.hid hg
  rw [hg] at HS
  clear hg HF
  go_enter Tryz.func155,Tryz.ntmps155
  go_wp2_with fail
  refine HS.out.mono ?_
  rintro E w1 ⟨rfl,k,rfl⟩
  go_wp2_with fail
  go_ret2
  have hg:=HG.out
  refine⟨.nilIface,by rw [hg];rfl,?_,fun _=>rfl,k,rfl⟩
  intro y' h'
  rw [hg] at h'
  cases h'
end Go.Proofs.YtnnceaapodgfbaaGreatDoor
namespace Go.Proofs.YtnnceaapodgfbaaGreatDoor
open Go.RowKit
def SameBut (e:TypeId) (w w':World):Prop:=∀ (b:Nat) (cs:Array Value) (t:TypeId) (fr:Nat × Nat),w.heap[b]? = some (.cells cs t fr)→t≠e→w'.heap[b]? = some (.cells cs t fr)
theorem sameBut_below {e:TypeId} {w w':World} (h:Below w.heap.size w w'):SameBut e w w':=fun _ _ _ _ hb _=>below_block h hb
def AtW {α:Type} (w0:World) (R:Rd α):Rd α:=fun _ cs x=>R w0 cs x
theorem flat_atW {α:Type} (w0:World) (R:Rd α):Flat (AtW w0 R):=fun _ _ _ _ h=>h
theorem one_atW {α:Type} {R:Rd α} (w0:World) (h:OneR R):OneR (AtW w0 R):=fun _ cs x hx u hu=>h w0 cs x hx u hu
theorem RowAt.atW {α:Type} {R:Rd α} {k:Nat} {w w':World} {v:Value} {l:List α} (h:RowAt R k w v l) (hb:Below w.heap.size w w'):RowAt (AtW w R) k w' v l:=by
 rcases h with h | ⟨a,c,h1,h2,h3,h4⟩
 ·exact .inl h
 ·exact .inr ⟨a,c,h1,h2,h3,fun j x hx=>by
   obtain⟨cs,g1,g2,g3⟩:=h4 j x hx
   exact⟨cs,g1,fun i u hu=>keeps_below hb _ _ (g2 i u hu),g3⟩⟩
section
variable {α : Type} {R : Rd α} {k : Nat} {w w' : World} {v : Value} {l m : List α} {B : Nat} {e : TypeId}
theorem OwnAt.sameBut (h:OwnAt R k w B e v l) (hg:w.grownBy w' v.ownBlock):SameBut e w w':=fun b cs t fr hb ht=>by
 have hlt:b<w.heap.size:=by
  rcases Nat.lt_or_ge b w.heap.size with h1 | h1
  ·exact h1
  ·rw [Array.getElem?_eq_none h1] at hb;cases hb
 refine (hg.block b hlt fun hv=>?_).trans hb
 obtain⟨_,_,cur,hc⟩:=h.at hv.symm
 rw [hb] at hc
 cases hc
 exact ht rfl
end
section
variable {P : Program} {α : Type} {R : Rd α} {k : Nat} {l m : List α} {B : Nat} {e : TypeId}
end
end Go.Proofs.YtnnceaapodgfbaaGreatDoor
namespace Go.Proofs.YtnnceaapodgfbaaGreatDoor
open Go.RowKit
def RVal:Rd Value:=fun _ cs x=>cs = [x]∧x.oneCell'=true
theorem flat_val:Flat RVal:=fun _ _ _ _ h=>h
theorem one_val:OneR RVal:=fun _ _ _ h u hu=>by obtain⟨h,h1⟩:=h;rw [h] at hu;simp at hu;subst hu;exact h1
theorem stays_val:Stays RVal:=fun _ _ _ _ _ h=>h
section
variable {w w' : World} {B n : Nat} {e : TypeId} {v : Value} {xs : List Value}
theorem OwnAt.ones (h:OwnAt RVal 1 w B e v xs):∀ x∈xs,x.oneCell'=true:=fun x hx=>by
 obtain⟨css,h1,h2,h3,h4⟩:=h
 obtain⟨j,hj⟩:=List.getElem?_of_mem hx
 have hjl:=(List.getElem?_eq_some_iff.1 hj).1
 exact (h4 j (css[j]'(by omega)) x (List.getElem?_eq_getElem _) hj).2
theorem own_raw (h:OwnAt RVal 1 w B e v xs):w.ownsRow B e 1 v xs.length xs:=by
 obtain⟨css,h1,h2,h3,h4⟩:=h
 have:css.flatten=xs:=by
  apply List.ext_getElem?
  intro j
  by_cases hj:j<xs.length
  ·have hcs:css[j]? = some css[j]:=List.getElem?_eq_getElem (by omega)
   have hR:css[j] = [xs[j]]:=(h4 j _ _ hcs (List.getElem?_eq_getElem hj)).1
   have:=get_flat h2 (j:=j) (i:=0) hcs (u:=xs[j]) (by rw [hR];rfl)
   rw [Nat.mul_one,Nat.add_zero] at this
   rw [this,List.getElem?_eq_getElem hj]
  ·rw [List.getElem?_eq_none (by rw [flat_len h2];omega),List.getElem?_eq_none (by omega)]
 rwa [this] at h3
theorem ownAt_raw (h:w.ownsRow B e 1 v n xs) (hn:xs.length=n) (ho:∀ x∈xs,x.oneCell'=true):OwnAt RVal 1 w B e v xs:=by
 subst hn
 refine⟨xs.map fun x=>[x],by simp,fun cs hcs=>?_,?_,fun j cs x hcs hx=>?_⟩
 ·obtain⟨x,_,rfl⟩:=List.mem_map.1 hcs;rfl
 ·have key:∀ m:List Value,(m.map fun x=>[x]).flatten=m:=fun m=>by
   induction m with
   | nil=>rfl
   | cons y r ih=>rw [List.map_cons,List.flatten_cons,ih];rfl
  rw [key];exact h
 ·simp only [List.getElem?_map,hx,Option.map_some,Option.some.injEq] at hcs
  exact⟨hcs.symm,ho x (List.mem_of_getElem? hx)⟩
theorem own_of_cells {g c:Nat} {cur:Array Value} (hh:w.heap[g]? = some (.cells cur e (0,0))) (hB:B≤g) (hc:xs.length≤c) (hm:c≤maxLen) (hz:cur.size=c) (hcell:∀ (j:Nat) (x:Value),xs[j]? = some x→cur[j]? = some x) (ho:∀ x∈xs,x.oneCell'=true) :
  OwnAt RVal 1 w B e (.slice (some ⟨g,0,none⟩) xs.length c) xs:=by
 refine ownAt_raw (n:=xs.length) ⟨by simp,.inr ⟨g,c,cur,rfl,hB,hh,hc,hm,by rw [hz,Nat.mul_one],?_⟩⟩ rfl ho
 apply List.ext_getElem?
 intro j
 by_cases hj:j<xs.length
 ·have hx:xs[j]? = some xs[j]:=List.getElem?_eq_getElem hj
  rw [List.getElem?_take_of_lt (by omega),Array.getElem?_toList,hcell j _ hx,hx]
 ·rw [List.getElem?_eq_none (by simp;omega),List.getElem?_eq_none (by omega)]
theorem RowAt.raw {α:Type} {R:Rd α} {l:List α} (h:RowAt R 1 w v l) (h1:OneR R):∃ xs,xs.length=l.length∧RowAt RVal 1 w v xs∧∀ (j:Nat) (u:Value) (x:α),xs[j]? = some u→l[j]? = some x→R w [u] x:=by
 rcases h with ⟨rfl,rfl⟩ | ⟨a,c,rfl,h2,h3,h4⟩
 ·exact⟨[],rfl,.inl ⟨rfl,rfl⟩,fun j u x hu=>by simp at hu⟩
 ·obtain⟨xs,k1,k2⟩:=pick_each (fun j u=>∃ x,l[j]? = some x∧w.cell? (a.add j)=some u∧R w [u] x) l.length (fun j hj=>by
   obtain⟨cs,g1,g2,g3⟩:=h4 j l[j] (by simp [hj])
   obtain⟨u,rfl⟩:∃ u,cs = [u]:=by
    match cs,g1 with
    | [u],_=>exact⟨u,rfl⟩
   exact⟨u,l[j],by simp [hj],by simpa using g2 0 u rfl,g3⟩)
  refine⟨xs,k1,.inr ⟨a,c,by rw [k1],by omega,h3,fun j u hu=>?_⟩,fun j u x hu hx=>?_⟩
  ·obtain⟨x,hx,hc,hR⟩:=k2 j u hu
   exact⟨[u],rfl,fun i z hz=>by
    match i,hz with
    | 0,hz=>simp at hz;subst hz;simpa using hc,rfl,h1 _ _ _ hR u (List.mem_singleton.2 rfl)⟩
  ·obtain⟨y,hy,_,hR⟩:=k2 j u hu
   rw [hy] at hx
   cases hx
   exact hR
theorem RowAt.ofRaw {α:Type} {R:Rd α} {l:List α} (h:RowAt RVal 1 w v xs) (hl:xs.length=l.length) (hR:∀ (j:Nat) (u:Value) (x:α),xs[j]? = some u→l[j]? = some x→R w [u] x):RowAt R 1 w v l:=by
 rcases h with ⟨rfl,rfl⟩ | ⟨a,c,rfl,h2,h3,h4⟩
 ·exact .inl ⟨rfl,List.eq_nil_of_length_eq_zero (by simpa using hl.symm)⟩
 ·refine .inr ⟨a,c,by rw [hl],by omega,h3,fun j x hx=>?_⟩
  have hj:j<xs.length:=by rw [hl];exact (List.getElem?_eq_some_iff.1 hx).1
  obtain⟨cs,g1,g2,g3,_⟩:=h4 j xs[j] (by simp [hj])
  subst g3
  exact⟨_,rfl,g2,hR j _ x (by simp [hj]) hx⟩
end
theorem putin_get {l:List Value} {k:Nat} (hk:k≤l.length) (x:Value) (j:Nat):(l.take k++x :: l.drop k)[j]? = if j<k then l[j]? else if j=k then some x else l[j - 1]?:=by
 have hl:(l.take k).length=k:=by rw [List.length_take];omega
 by_cases h1:j<k
 ·rw [if_pos h1,List.getElem?_append_left (by omega),List.getElem?_take_of_lt h1]
 ·rw [if_neg h1,List.getElem?_append_right (by omega),hl]
  by_cases h2:j=k
  ·rw [if_pos h2,h2,Nat.sub_self];rfl
  ·rw [if_neg h2,show j - k=(j - 1 - k)+1 by omega,List.getElem?_cons_succ,List.getElem?_drop]
   congr 1;omega
theorem putin_len {l:List Value} {k:Nat} (hk:k≤l.length) (x:Value):(l.take k++x :: l.drop k).length=l.length+1:=by
 rw [List.length_append,List.length_take,List.length_cons,List.length_drop];omega
theorem putin_ones {l:List Value} {k:Nat} {x:Value} (h:∀ y∈l,y.oneCell'=true) (hx:x.oneCell'=true):∀ y∈l.take k++x :: l.drop k,y.oneCell'=true:=fun y hy=>by
 rcases List.mem_append.1 hy with h1 | h1
 ·exact h y (List.mem_of_mem_take h1)
 ·rcases List.mem_cons.1 h1 with rfl | h1
  ·exact hx
  ·exact h y (List.mem_of_mem_drop h1)
theorem setCells_row (g:Nat) (t:TypeId):∀ (vs:List Value) (i:Nat) (cur:Array Value) (w:World),w.heap[g]? = some (.cells cur t (0,0))→i+vs.length≤cur.size→
  ∃ cur',(w.setCells g i vs).heap[g]? = some (.cells cur' t (0,0))∧cur'.size=cur.size∧(∀ j,j<i→cur'[j]? = cur[j]?)∧(∀ j u,vs[j]? = some u→cur'[i+j]? = some u)∧(∀ j,i+vs.length≤j→cur'[j]? = cur[j]?)∧Touch g w (w.setCells g i vs)
 | [],i,cur,w,hg,_=>⟨cur,hg,rfl,fun _ _=>rfl,fun j u h=>by simp at h,fun _ _=>rfl,⟨rfl,rfl,rfl,rfl,fun _ _=>rfl⟩⟩
 | v :: r,i,cur,w,hg,hl=>by
  simp only [List.length_cons] at hl
  obtain⟨h1,h2⟩:=touch_setCell (w:=w) (i:=i) (v:=v) hg
  obtain⟨cur',g1,g2,g3,g4,g6,g5⟩:=setCells_row g t r (i+1) _ _ h1 (by simp;omega)
  refine⟨cur',g1,by simpa using g2,fun j hj=>?_,fun j u hu=>?_,fun j hj=>?_,?_⟩
  ·rw [g3 j (by omega),Array.getElem?_setIfInBounds,if_neg (by omega)]
  ·cases j with
   | zero=>
    simp only [List.getElem?_cons_zero,Option.some.injEq] at hu
    subst hu
    rw [Nat.add_zero,g3 i (by omega),Array.getElem?_setIfInBounds,if_pos rfl,if_pos (by omega)]
   | succ j=>
    have:=g4 j u (by simpa using hu)
    rwa [show i+1+j=i+(j+1) by omega] at this
  ·simp only [List.length_cons] at hj
   rw [g6 j (by omega),Array.getElem?_setIfInBounds,if_neg (by omega)]
  ·show Touch g w ((w.setCell ⟨g,i,none⟩ v).setCells g (i+1) r)
   exact⟨g5.os.trans h2.os,g5.tape.trans h2.tape,g5.output.trans h2.output,g5.size.trans h2.size,fun b hb=>(g5.other b hb).trans (h2.other b hb)⟩
theorem setCells_cell (g:Nat):∀ (vs:List Value) (i:Nat) (w:World) (p:Addr),p.block≠g→(w.setCells g i vs).cell? p=w.cell? p:=fun _ _ _ _ hp=>World.cell?_setCells_out g _ _ _ _ (fun h _=>absurd h hp)
end Go.Proofs.YtnnceaapodgfbaaGreatDoor
