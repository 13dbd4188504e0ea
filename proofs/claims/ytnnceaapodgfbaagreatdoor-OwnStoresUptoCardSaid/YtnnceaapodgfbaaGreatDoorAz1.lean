/- Texts of ours joined. -/
import Derived.WalkKit
import Derived.Deep.AppendLies
import Derived.Laws.BytesArg
import Derived.Lib.LaidTab
import Derived.Test.YtnnceaapodgfbaaGreatDoorShelf
import Derived.Stop.LaidErr
import Derived.Deep.DeepHandedRow
import Derived.Laws.AppendOwn
import Derived.Laws.AppendOwnNone
import Derived.Deep.Strs
import Derived.Lib.Hide
import Derived.Test.YtnnceaapodgfbaaGreatDoorRows
import Derived.Test.YtnnceaapodgfbaaGreatDoorChecked
import Derived.KernelRfl
import Derived.ArgAppend
import Derived.Maps.AppendAt
import Derived.Deep.Upon
import Derived.Laws.OwnMore
import Derived.StillTail
import Derived.StillTactics
import Derived.Deep.RegionHeld3
import Derived.Laws.Tables
import Derived.Laws.Rows
import Derived.RangeFuncRecord
import Derived.RangeFuncSeq
import Derived.RangeFuncCalls
import Derived.RangeFuncOwn
import Derived.Lib.Replace
import Derived.Lib.CountLaws
import Derived.Lib.SplitLaws
import Derived.Lib.Split
import Derived.Lib.IndexBytes
import Derived.Lib.IndexLaws
import Derived.RangeFuncLeaves
import Derived.Shelf.Abstract
import Derived.Shelf.RegionOpen
import Derived.OwnWalkIn
import Derived.TacticsInMore
import Derived.LoopNIn
import Derived.LoopIn
import Derived.IntWalk
import Derived.WalkSpells
import Derived.WalkLawsBesides
import Derived.RangeFuncNested
set_option linter.unusedVariables false
set_option linter.unusedSimpArgs false
namespace Go.Proofs.YtnnceaapodgfbaaGreatDoor
open Go.RowKit
def byteCells (l:List UInt8):List Value:=l.map fun b=>Value.int .u8 (b.toNat:Int)
theorem byteCells_length (l:List UInt8):(byteCells l).length=l.length:=by simp [byteCells]
theorem run_convert_own {P:Program} (w:World) (src dst e:TypeId) (hs:P.underlying src=some (.slice e)) (he:P.underlying e=some (.int .u8)) (hd:P.underlying dst=some .string)
  {base:Nat} {e':TypeId} {v:Value} {n:Nat} {l:List UInt8} (h:w.ownsRow base e' 1 v n (byteCells l)) :
  (convert src dst v).run P w=.ok (.string ⟨l.toArray⟩) w:=by
 have hn:n=l.length:=by have:=h.1;simp [byteCells_length] at this;omega
 subst hn
 rcases Nat.eq_zero_or_pos l.length with h0 | h0
 ·have hl:l = []:=List.eq_nil_of_length_eq_zero h0
  subst hl
  rcases h.2 with ⟨rfl,_⟩ | ⟨g,cap,cur,rfl,_⟩
  ·rw [run_convert_bytes_nil w src e hs he _ _ dst hd];rfl
  ·rw [show (([]:List UInt8).length)=(([]:List UInt8).length) from rfl]
   exact run_convert_bytes_back w src dst e _ cap [] hs he hd (fun j hj=>absurd hj (by simp))
 ·obtain⟨g,cap,hv,_,hlt⟩:=h.form h0
  subst hv
  refine run_convert_bytes_back w src dst e _ cap l hs he hd (fun j hj=>?_)
  exact h.cells (g:=g) rfl j _ (by simp [byteCells,hj])
theorem take_snoc (s:ByteArray) (k:Nat) (h:k<s.size):s.data.toList.take (k+1)=s.data.toList.take k++[s[k]]:=by
 rw [List.take_succ_eq_append_getElem (by simpa using h)];rfl
theorem run_callFunc_body {P:Program} {f:FuncId} {fn:Func} (hf:P.funcs[f]? = some fn) (hname:(fn.name == "runtime.NumGoroutine")=false) (hb:fn.body.isNone=false) (args:Array Value) (w:World) :
  (callFunc f args).run P w=.ok (.enter f args) w:=by
 have h1:fn.name≠ "runtime.NumGoroutine":=by simpa using hname
 have h2:¬fn.body=none:=fun e=>by rw [e] at hb;cases hb
 simp [callFunc,hf,h1,h2]
theorem heap_alloc_at {w:World} {o:Obj} {n:Nat} (h:n=w.heap.size):(w.alloc o).heap[n]? = some o:=by subst h;exact heap_alloc_new w o
theorem heap_alloc_old {w:World} {o x:Obj} {n:Nat} (h:w.heap[n]? = some x):(w.alloc o).heap[n]? = some x:=by
 have hn:n<w.heap.size:=by
  rcases Nat.lt_or_ge n w.heap.size with h1 | h1
  ·exact h1
  ·rw [Array.getElem?_eq_none h1] at h;cases h
 exact (Below.heap_alloc w o n hn).trans h
theorem cell_block {w:World} {g:Nat} {cs:Array Value} {t:TypeId} {fr:Nat × Nat} (h:w.heap[g]? = some (.cells cs t fr)) (i:Nat):w.cell? ⟨g,i,none⟩=cs[i]?:=by simp [World.cell?,h]
theorem free_block {w:World} {g:Nat} {cs:Array Value} {t:TypeId} (h:w.heap[g]? = some (.cells cs t (0,0))) (i:Nat):w.frozen? ⟨g,i,none⟩=false:=by simp [World.frozen?,h]
end Go.Proofs.YtnnceaapodgfbaaGreatDoor
namespace Go.Proofs.YtnnceaapodgfbaaGreatDoor
open Go.RowKit
theorem var_keep {P:Program} {w w':World} {n:String} {k:IntKind} {zs:List Int} (h:Lib.TabIs P w n k zs) (hb:Below w.heap.size w w'):Lib.TabIs P w' n k zs:=by
 unfold Lib.TabIs World.var? at h ⊢
 cases hg:P.globalNamed n with
 | none=>rw [hg] at h;cases h
 | some g=>
  rw [hg] at h
  simp only [Option.bind_some] at h ⊢
  have hlt:g<w.heap.size:=by
   rcases Nat.lt_or_ge g w.heap.size with h1 | h1
   ·exact h1
   ·rw [Array.getElem?_eq_none h1] at h;cases h
  rw [hb.block g hlt]
  exact h
def TabOK (w:World):Prop:=Lib.TabIs Tryz.prog w "internal/strconv.uint64pow10" .u64 Lib.pow10Tab
theorem TabOK.below {w w':World} (h:TabOK w) (hb:Below w.heap.size w w'):TabOK w':=var_keep h hb
end Go.Proofs.YtnnceaapodgfbaaGreatDoor
namespace Go.Proofs.YtnnceaapodgfbaaGreatDoor
open Go.RowKit
def ErrOK (w:World):Prop:=∃ tp p tp' p',w.var? Tryz.prog "strconv.ErrSyntax" = some #[.iface tp p]∧w.var? Tryz.prog "strconv.ErrRange" = some #[.iface tp' p']
theorem var_below {P:Program} {w w':World} {n:String} {cs:Array Value} (h:w.var? P n=some cs) (hb:Below w.heap.size w w'):w'.var? P n=some cs:=by
 unfold World.var? at h ⊢
 cases hg:P.globalNamed n with
 | none=>rw [hg] at h;cases h
 | some g=>
  rw [hg] at h
  simp only [Option.bind_some] at h ⊢
  have hlt:g<w.heap.size:=by
   rcases Nat.lt_or_ge g w.heap.size with h1 | h1
   ·exact h1
   ·rw [Array.getElem?_eq_none h1] at h;cases h
  rw [hb.block g hlt]
  exact h
theorem ErrOK.below {w w':World} (h:ErrOK w) (hb:Below w.heap.size w w'):ErrOK w':=by
 obtain⟨tp,p,tp',p',h1,h2⟩:=h
 exact⟨tp,p,tp',p',var_below h1 hb,var_below h2 hb⟩
end Go.Proofs.YtnnceaapodgfbaaGreatDoor
namespace Go.Proofs.YtnnceaapodgfbaaGreatDoor
open Go.RowKit Go.ChangeShapes Go.WideShapes Go.ChangeAt
theorem laid_tail {P:Program} {W:World} {x:String × DataW Unit} {r:List (String × DataW Unit)} (h:laidMet P (x :: r) W):laidMet P r W:=by
 obtain⟨ps,⟨g,t,cs,fuel,p,q,_,_,_,_,hq,rfl⟩,hnd,hall⟩:=h
 exact⟨q,hq,(List.nodup_append.1 hnd).2.1,fun b off hb=>hall b off (List.mem_append_right _ hb)⟩
noncomputable def tabG:Nat:=(Tryz.prog.globalNamed "internal/strconv.uint64pow10").getD 0
noncomputable def tabT:TypeId:=((Tryz.prog.globals[tabG]?).map (·.type)).getD 0
noncomputable def tabE:TypeId:=match Tryz.prog.underlying tabT with | some (.array _ e)=>e | _=>0
noncomputable def tabN:Nat:=match Tryz.prog.underlying tabT with | some (.array n _)=>n | _=>0
theorem gTab1:Tryz.prog.globalNamed "internal/strconv.uint64pow10" = some tabG:=by kernel_rfl
theorem gTab2:(Tryz.prog.globals[tabG]?).map (·.type)=some tabT:=by kernel_rfl
theorem gTab3:Tryz.prog.underlying tabT=some (.array tabN tabE):=by kernel_rfl
theorem gTab4:Tryz.prog.underlying tabE=some (.int .u64):=by kernel_rfl
theorem gTab5:Tryz.prog.cellsOf tabE=1:=by kernel_rfl
theorem gTab6:Tryz.prog.cellsOf tabT=tabN:=by kernel_rfl
theorem tab_of {W:World} {x1 x2:String × DataW Unit} {r:List (String × DataW Unit)} {d:DataW Unit} (hd:d=Lib.tabData .u64 Lib.pow10Tab) (h:laidMet Tryz.prog (x1 :: x2 :: ("internal/strconv.uint64pow10",d) :: r) W):TabOK W:=by
 subst hd
 exact Lib.tabIs_of_head gTab1 gTab2 gTab3 gTab4 gTab5 gTab6 (laid_tail (laid_tail h))
end Go.Proofs.YtnnceaapodgfbaaGreatDoor
namespace Go.Proofs.YtnnceaapodgfbaaGreatDoor
open Go.RowKit
def strs (l:List ByteArray):List Value:=l.map Value.string
theorem strs_append (l m:List ByteArray):strs (l++m)=strs l++strs m:=by simp [strs]
theorem strs_get {l:List ByteArray} {j:Nat} {x:ByteArray} (h:l[j]? = some x):(strs l)[j]? = some (.string x):=by simp [strs,h]
def StrAt (w:World) (v:Value) (l:List ByteArray):Prop:=
 (v=.slice none 0 0∧l = [])∨∃ a c,v=.slice (some a) l.length c∧l.length≤c∧c≤maxLen∧∀ j x,l[j]? = some x→w.cell? (a.add j)=some (.string x)
section
variable {w w' : World} {v : Value} {l : List ByteArray}
theorem StrAt.len (h:StrAt w v l):∃ ao c,v=.slice ao l.length c∧l.length≤c∧c≤maxLen:=by
 rcases h with ⟨rfl,rfl⟩ | ⟨a,c,rfl,h1,h2,_⟩
 ·exact⟨_,_,rfl,by simp,by simp⟩
 ·exact⟨_,_,rfl,h1,h2⟩
theorem spot_none {a:Addr} {x:Value} (h:w.cell? a=some x):a=⟨a.block,a.off,none⟩:=by
 obtain⟨b,o,s⟩:=a
 cases s with
 | none=>rfl
 | some s=>
  unfold World.cell? at h
  simp only at h
  split at h
  ·simp at h
  ·cases h
theorem add_plain' (b o j:Nat):(⟨b,o,none⟩:Addr).add j=⟨b,o+j,none⟩:=by unfold Addr.add;split<;>simp_all
theorem StrAt.form (h:StrAt w v l) (hl:0<l.length) :
  ∃ b o c,v=.slice (some ⟨b,o,none⟩) l.length c∧l.length≤c∧c≤maxLen∧b<w.heap.size∧∀ j x,l[j]? = some x→w.cell? ⟨b,o+j,none⟩=some (.string x):=by
 rcases h with ⟨_,rfl⟩ | ⟨a,c,rfl,h1,h2,h3⟩
 ·simp at hl
 ·have h0:=h3 0 l[0] (by simp [hl])
  rw [show a.add 0=a from by simp [Addr.add]] at h0
  have ha:=spot_none h0
  refine⟨a.block,a.off,c,by rw [←ha],h1,h2,World.block_lt_of_cell? w _ h0,fun j x hx=>?_⟩
  have h4:=h3 j x hx
  rw [ha,add_plain'] at h4
  exact h4
theorem StrAt.keep (h:StrAt w v l) (hk:∀ p x,w.cell? p=some x→w'.cell? p=some x):StrAt w' v l:=by
 rcases h with ⟨rfl,rfl⟩ | ⟨a,c,rfl,h1,h2,h3⟩
 ·exact .inl ⟨rfl,rfl⟩
 ·exact .inr ⟨a,c,rfl,h1,h2,fun j x hx=>hk _ _ (h3 j x hx)⟩
theorem StrAt.below (h:StrAt w v l) (hb:Below w.heap.size w w'):StrAt w' v l:=
 h.keep fun p x hp=>by rw [←hp];exact hb.cell (World.block_lt_of_cell? w _ hp)
end
end Go.Proofs.YtnnceaapodgfbaaGreatDoor
namespace Go.Proofs.YtnnceaapodgfbaaGreatDoor
open Go.RowKit Go.ChangeShapes Go.WideShapes
def total (l:List ByteArray):Nat:=(l.map fun s=>s.size+1).sum
theorem total_mem {l:List ByteArray} {x:ByteArray} (h:x∈l):x.size+1≤total l:=by
 induction l with
 | nil=>cases h
 | cons y r ih=>
  simp only [total,List.map_cons,List.sum_cons]
  rcases List.mem_cons.1 h with rfl | h
  ·omega
  ·have:=ih h
   simp only [total] at this
   omega
theorem total_length (l:List ByteArray):l.length≤total l:=by
 induction l with
 | nil=>simp
 | cons y r ih=>
  simp only [total,List.map_cons,List.sum_cons,List.length_cons] at *
  omega
end Go.Proofs.YtnnceaapodgfbaaGreatDoor
namespace Go.Proofs.YtnnceaapodgfbaaGreatDoor
theorem Tryz.infoU8:(Tryz.prog.info? 5).map (fun i=>(i.zero,i.size,i.bytes))=some (some (.int .u8 0),1,1):=by kernel_rfl
theorem Tryz.infoStr:(Tryz.prog.info? 9).map (fun i=>(i.zero,i.size,i.bytes))=some (some (.string ByteArray.empty),1,16):=by kernel_rfl
end Go.Proofs.YtnnceaapodgfbaaGreatDoor
namespace Go.Proofs.YtnnceaapodgfbaaGreatDoor
open Go.RowKit Go.ChangeShapes Go.WideShapes
abbrev Rd (α:Type):=World→List Value→α→Prop
abbrev Keeps (w w':World):Prop:=∀ p v,w.cell? p=some v→w'.cell? p=some v
def Stays {α:Type} (R:Rd α):Prop:=∀ w w' cs a,Keeps w w'→R w cs a→R w' cs a
theorem keeps_below {w w':World} (h:Below w.heap.size w w'):Keeps w w':=fun _ _ hp=>(h.cell (World.block_lt_of_cell? w _ hp)).trans hp
def RString:Rd ByteArray:=fun _ cs s=>cs = [.string s]
def RInt (k:IntKind):Rd Int:=fun _ cs n=>cs = [.int k n]∧(Lit.int k n).wf=true
def RBool:Rd Bool:=fun _ cs b=>cs = [.bool b]
def RStrs:Rd (List ByteArray):=fun w cs l=>∃ v,cs = [v]∧StrAt w v l
def RowAt {α:Type} (R:Rd α) (k:Nat) (w:World) (v:Value) (l:List α):Prop:=
 (v=.slice none 0 0∧l = [])∨∃ a c,v=.slice (some a) l.length c∧l.length≤c∧c≤maxLen∧
  ∀ j x,l[j]? = some x→∃ cs,cs.length=k∧(∀ i u,cs[i]? = some u→w.cell? (a.add (j*k+i))=some u)∧R w cs x
def RRow {α:Type} (R:Rd α) (k:Nat):Rd (List α):=fun w cs l=>∃ v,cs = [v]∧RowAt R k w v l
theorem stays_string:Stays RString:=fun _ _ _ _ _ h=>h
section
variable {α : Type} {R : Rd α} {k : Nat} {w w' : World} {v : Value} {l : List α}
theorem RowAt.keep (hs:Stays R) (h:RowAt R k w v l) (hk:Keeps w w'):RowAt R k w' v l:=by
 rcases h with h | ⟨a,c,h1,h2,h3,h4⟩
 ·exact .inl h
 ·exact .inr ⟨a,c,h1,h2,h3,fun j x hx=>by
   obtain⟨cs,g1,g2,g3⟩:=h4 j x hx
   exact⟨cs,g1,fun i u hu=>hk _ _ (g2 i u hu),hs _ _ _ _ hk g3⟩⟩
theorem RowAt.below (hs:Stays R) (h:RowAt R k w v l) (hb:Below w.heap.size w w'):RowAt R k w' v l:=h.keep hs (keeps_below hb)
theorem RowAt.len (h:RowAt R k w v l):∃ ao c,v=.slice ao l.length c∧l.length≤c∧c≤maxLen:=by
 rcases h with ⟨rfl,rfl⟩ | ⟨a,c,rfl,h1,h2,_⟩
 ·exact⟨_,_,rfl,by simp,by simp⟩
 ·exact⟨_,_,rfl,h1,h2⟩
theorem RowAt.form (h:RowAt R k w v l) (hl:0<l.length) (hk:0<k) :
  ∃ b o c,v=.slice (some ⟨b,o,none⟩) l.length c∧l.length≤c∧c≤maxLen∧b<w.heap.size∧
   ∀ j x,l[j]? = some x→∃ cs,cs.length=k∧(∀ i u,cs[i]? = some u→w.cell? ⟨b,o+j*k+i,none⟩=some u)∧R w cs x:=by
 rcases h with ⟨_,rfl⟩ | ⟨a,c,rfl,h1,h2,h3⟩
 ·simp at hl
 ·obtain⟨cs,g1,g2,_⟩:=h3 0 l[0] (by simp [hl])
  have h0:=g2 0 cs[0] (by simp)
  rw [show a.add (0*k+0)=a from by simp [Addr.add]] at h0
  have ha:=spot_none h0
  refine⟨a.block,a.off,c,by rw [←ha],h1,h2,World.block_lt_of_cell? w _ h0,fun j x hx=>?_⟩
  obtain⟨cs,g1,g2,g3⟩:=h3 j x hx
  refine⟨cs,g1,fun i u hu=>?_,g3⟩
  have h4:=g2 i u hu
  rw [ha,add_plain',←Nat.add_assoc] at h4
  exact h4
theorem RowAt.cut (h:RowAt R k w v l) {b o c:Nat} (hv:v=.slice (some ⟨b,o,none⟩) l.length c) {i j:Nat} (hi:i≤j) (hj:j≤l.length) :
  RowAt R k w (.slice (some ⟨b,o+i*k,none⟩) (j - i) (c - i)) ((l.take j).drop i):=by
 rcases h with ⟨rfl,rfl⟩ | ⟨a,c',h0,h1,h2,h3⟩
 ·cases hv
 ·rw [h0] at hv
  obtain⟨rfl,rfl⟩:a=⟨b,o,none⟩∧c'=c:=by injection hv with e1 e2 e3;exact⟨by injection e1,e3⟩
  have hlen:((l.take j).drop i).length=j - i:=by simp;omega
  refine .inr ⟨_,_,by rw [hlen],by rw [hlen];omega,by omega,fun m x hx=>?_⟩
  have hm:m<j - i:=by have:=(List.getElem?_eq_some_iff.1 hx).1;rwa [hlen] at this
  obtain⟨cs,g1,g2,g3⟩:=h3 (i+m) x (by rw [List.getElem?_drop,List.getElem?_take_of_lt (by omega)] at hx;exact hx)
  refine⟨cs,g1,fun q u hu=>?_,g3⟩
  have:=g2 q u hu
  rw [add_plain'] at this ⊢
  rw [←this]
  congr 2
  rw [Nat.add_mul]
  omega
end
theorem RowAt.strs {w:World} {v:Value} {l:List ByteArray} (h:RowAt RString 1 w v l):StrAt w v l:=by
 rcases h with ⟨rfl,rfl⟩ | ⟨a,c,rfl,h1,h2,h3⟩
 ·exact .inl ⟨rfl,rfl⟩
 ·refine .inr ⟨a,c,rfl,h1,h2,fun j x hx=>?_⟩
  obtain⟨cs,_,g2,rfl⟩:=h3 j x hx
  simpa using g2 0 _ rfl
theorem StrAt.row {w:World} {v:Value} {l:List ByteArray} (h:StrAt w v l):RowAt RString 1 w v l:=by
 rcases h with ⟨rfl,rfl⟩ | ⟨a,c,rfl,h1,h2,h3⟩
 ·exact .inl ⟨rfl,rfl⟩
 ·refine .inr ⟨a,c,rfl,h1,h2,fun j x hx=>⟨[.string x],rfl,fun i u hu=>?_,rfl⟩⟩
  match i,hu with
  | 0,hu=>simp only [List.getElem?_cons_zero,Option.some.injEq] at hu;subst hu;simpa using h3 j x hx
def Opens (P:Program) (t:TypeId) {α:Type} (R:Rd α) (μ:α→Nat):Prop:=
 ∀ (H:Type) (enc:TypeId × Value→H) (w:World) (base:Nat) (spare:Nat→Bool) (held:Bool) (fuel:Nat) (cs:List Value) (x:DataW H × List MemPlace),
  DataW.trod enc P w base spare held fuel t cs=some x→∃ a,R w cs a∧μ a≤Rows.uptoBulk x.1
section
variable {P : Program} {t e : TypeId}
theorem opens_string (ht:P.underlying t=some .string):Opens P t RString (fun s=>s.size+1):=fun _ _ _ _ _ _ _ _ _ h=>by
 obtain⟨s,rfl,rfl,_⟩:=DataW.trod_string ht h
 exact⟨s,rfl,by simp [Rows.uptoBulk]⟩
theorem opens_int {k:IntKind} (ht:P.underlying t=some (.int k)):Opens P t (RInt k) (fun _=>1):=fun _ _ _ _ _ _ _ _ _ h=>by
 obtain⟨n,rfl,rfl,hw⟩:=DataW.trod_int ht h
 exact⟨n,⟨rfl,hw⟩,by simp [Rows.uptoBulk]⟩
theorem opens_bool (ht:P.underlying t=some .bool):Opens P t RBool (fun _=>1):=fun _ _ _ _ _ _ _ _ _ h=>by
 obtain⟨b,rfl,rfl⟩:=DataW.trod_bool ht h
 exact⟨b,rfl,by simp [Rows.uptoBulk]⟩
theorem uptoBulkAll_append {H:Type} (l m:List (DataW H)):Rows.uptoBulkAll (l++m)=Rows.uptoBulkAll l+Rows.uptoBulkAll m:=by
 induction l with
 | nil=>simp [Rows.uptoBulkAll]
 | cons d r ih=>simp only [List.cons_append,Rows.uptoBulkAll,ih];omega
theorem list_of_each {α:Type} {H:Type} (Q:Nat→α→Prop) (μ:α→Nat) (D:Nat→DataW H):∀ n:Nat,(∀ i,i<n→∃ a,Q i a∧μ a≤Rows.uptoBulk (D i))→
  ∃ l:List α,l.length=n∧(∀ i x,l[i]? = some x→Q i x)∧(l.map μ).sum≤Rows.uptoBulkAll ((List.range n).map D)
 | 0,_=>⟨[],rfl,fun i x h=>by simp at h,by simp⟩
 | n+1,h=>by
  obtain⟨l,h1,h2,h3⟩:=list_of_each Q μ D n fun i hi=>h i (by omega)
  obtain⟨a,ha,hm⟩:=h n (by omega)
  refine⟨l++[a],by simp [h1],fun i x hx=>?_,?_⟩
  ·by_cases hi:i<n
   ·rw [List.getElem?_append_left (by omega)] at hx
    exact h2 i x hx
   ·have:i=n:=by have:=(List.getElem?_eq_some_iff.1 hx).1;simp [h1] at this;omega
    subst this
    rw [List.getElem?_append_right (by omega),h1] at hx
    simp at hx
    subst hx
    exact ha
  ·rw [List.range_succ,List.map_append (l₁:=List.range n),uptoBulkAll_append,List.map_append,List.sum_append]
   simp only [List.map_cons,List.map_nil,List.sum_cons,List.sum_nil,Rows.uptoBulkAll]
   omega
theorem opens_row {α:Type} {R:Rd α} {μ:α→Nat} {k:Nat} (ht:P.underlying t=some (.slice e)) (hC:P.cellsOf e=k) (h:Opens P e R μ):Opens P t (RRow R k) (fun l=>(l.map μ).sum+1):=fun H enc w base spare held fuel cs x hx=>by
 rcases Deep.open_slice ht hx with ⟨rfl,rfl⟩ | ⟨a,len,cap,m,n,D,Pl,rfl,_,hl,hm,hmm,rfl,hel⟩
 ·exact⟨[],⟨_,rfl,.inl ⟨rfl,rfl⟩⟩,by simp [Rows.uptoBulk]⟩
 ·have hlm:len≤m:=by rw [hmm];split<;>omega
  obtain⟨l,h1,h2,h3⟩:=list_of_each (fun i y=>∃ cs,cs.length=k∧(∀ j u,cs[j]? = some u→w.cell? (a.add (i*k+j))=some u)∧R w cs y) μ D len fun i hi=>by
   obtain⟨cs',hc,ht'⟩:=hel i (by omega)
   rw [hC] at hc
   obtain⟨_,hcl,hat⟩:=World.cells?_some hc
   obtain⟨y,hy,hb⟩:=h _ _ _ _ _ _ _ _ _ ht'
   refine⟨y,⟨cs',hcl,fun j u hu=>?_,hy⟩,hb⟩
   have hjk:j<k:=by have:=(List.getElem?_eq_some_iff.1 hu).1;omega
   rw [←Deep.add_add,hat j hjk]
   exact hu
  subst h1
  refine⟨l,⟨_,rfl,.inr ⟨a,cap,rfl,hl,hm,h2⟩⟩,?_⟩
  simp only [Rows.uptoBulk]
  omega
theorem opens_strs (ht:P.underlying t=some (.slice e)) (he:P.underlying e=some .string) (hC:P.cellsOf e=1):Opens P t RStrs (fun l=>total l+1):=fun H enc w base spare held fuel cs x hx=>by
 obtain⟨l,⟨v,rfl,h1⟩,h2⟩:=opens_row ht hC (opens_string he) H enc w base spare held fuel cs x hx
 exact⟨l,⟨v,rfl,h1.strs⟩,h2⟩
theorem Opens.at {α:Type} {R:Rd α} {μ:α→Nat} (h:Opens P t R μ) {H:Type} {enc:TypeId × Value→H} {w:World} {base:Nat} {spare:Nat→Bool} {held:Bool} {fuel k o:Nat} {cs ds:List Value} {x:DataW H × List MemPlace}
  (hx:DataW.trod enc P w base spare held fuel t ((cs.drop o).take (P.cellsOf t))=some x) (hk:P.cellsOf t=k) (hd:(cs.drop o).take k=ds):∃ a,R w ds a∧μ a≤Rows.uptoBulk x.1:=by
 rw [hk,hd] at hx
 exact h _ _ _ _ _ _ _ _ _ hx
end
end Go.Proofs.YtnnceaapodgfbaaGreatDoor
namespace Go.Proofs.YtnnceaapodgfbaaGreatDoor
open Go.RowKit
theorem own_below' {w w':World} {B n k:Nat} {e:TypeId} {v:Value} {xs:List Value} (h:w.ownsRow B e k v n xs) (hb:Below w.heap.size w w'):w'.ownsRow B e k v n xs:=by
 refine⟨h.1,?_⟩
 rcases h.2 with h0 | ⟨g,cap,cur,hv,hB,hh,hr⟩
 ·exact .inl h0
 ·have hg:g<w.heap.size:=by
   rcases Nat.lt_or_ge g w.heap.size with h1 | h1
   ·exact h1
   ·rw [Array.getElem?_eq_none h1] at hh;cases hh
  exact .inr ⟨g,cap,cur,hv,hB,(hb.block g hg).trans hh,hr⟩
theorem flat_get {β:Type} {k:Nat}:∀ {css:List (List β)},(∀ cs∈css,cs.length=k)→∀ {m:Nat} {u:β},css.flatten[m]? = some u→∃ j i cs,m=j*k+i∧css[j]? = some cs∧cs[i]? = some u
 | [],_,m,u,h=>by simp at h
 | c :: r,hk,m,u,h=>by
  have hc:c.length=k:=hk c (List.mem_cons_self ..)
  rw [List.flatten_cons] at h
  by_cases hm:m<c.length
  ·rw [List.getElem?_append_left hm] at h
   exact⟨0,m,c,by omega,rfl,h⟩
  ·rw [List.getElem?_append_right (by omega)] at h
   obtain⟨j,i,cs,h1,h2,h3⟩:=flat_get (fun cs hcs=>hk cs (List.mem_cons_of_mem _ hcs)) h
   exact⟨j+1,i,cs,by rw [Nat.add_mul];omega,by simpa using h2,h3⟩
theorem get_flat {β:Type} {k:Nat}:∀ {css:List (List β)},(∀ cs∈css,cs.length=k)→∀ {j i:Nat} {cs:List β} {u:β},css[j]? = some cs→cs[i]? = some u→css.flatten[j*k+i]? = some u
 | [],_,j,i,cs,u,h,_=>by simp at h
 | c :: r,hk,j,i,cs,u,h,hi=>by
  have hc:c.length=k:=hk c (List.mem_cons_self ..)
  rw [List.flatten_cons]
  cases j with
  | zero=>
   simp only [List.getElem?_cons_zero,Option.some.injEq] at h
   subst h
   have:=(List.getElem?_eq_some_iff.1 hi).1
   rw [Nat.zero_mul,Nat.zero_add,List.getElem?_append_left this]
   exact hi
  | succ j=>
   have h':r[j]? = some cs:=by simpa using h
   rw [Nat.add_mul,Nat.one_mul,List.getElem?_append_right (by omega),show j*k+k+i - c.length=j*k+i by omega]
   exact get_flat (fun cs hcs=>hk cs (List.mem_cons_of_mem _ hcs)) h' hi
theorem flat_len {β:Type} {k:Nat}:∀ {css:List (List β)},(∀ cs∈css,cs.length=k)→css.flatten.length=css.length*k
 | [],_=>by simp
 | c :: r,hk=>by
  rw [List.flatten_cons,List.length_append,flat_len fun cs hcs=>hk cs (List.mem_cons_of_mem _ hcs),hk c (List.mem_cons_self ..),List.length_cons,Nat.add_mul]
  omega
theorem pick_each {β:Type} (Q:Nat→β→Prop):∀ n:Nat,(∀ i,i<n→∃ y,Q i y)→∃ ys:List β,ys.length=n∧∀ i y,ys[i]? = some y→Q i y
 | 0,_=>⟨[],rfl,fun i y h=>by simp at h⟩
 | n+1,h=>by
  obtain⟨ys,h1,h2⟩:=pick_each Q n fun i hi=>h i (by omega)
  obtain⟨y,hy⟩:=h n (by omega)
  refine⟨ys++[y],by simp [h1],fun i z hz=>?_⟩
  by_cases hi:i<n
  ·rw [List.getElem?_append_left (by omega)] at hz
   exact h2 i z hz
  ·have:i=n:=by have:=(List.getElem?_eq_some_iff.1 hz).1;simp [h1] at this;omega
   subst this
   rw [List.getElem?_append_right (by omega),h1] at hz
   simp at hz
   subst hz
   exact hy
def OneR {α:Type} (R:Rd α):Prop:=∀ w cs x,R w cs x→∀ u∈cs,u.oneCell'=true
section
variable {α : Type} {R : Rd α} {k : Nat} {w w' : World} {v : Value} {l m : List α} {B : Nat} {e : TypeId}
theorem RowAt.cells (h:RowAt R k w v l) {a:Addr} {n c:Nat} (hv:v=.slice (some a) n c) :
  n=l.length∧∃ css:List (List Value),css.length=l.length∧(∀ cs∈css,cs.length=k)∧(∀ (j:Nat) (u:Value),css.flatten[j]? = some u→w.cell? (a.add j)=some u)∧∀ (j:Nat) (cs:List Value) (x:α),css[j]? = some cs→l[j]? = some x→R w cs x:=by
 rcases h with ⟨rfl,rfl⟩ | ⟨a',c',rfl,_,_,h4⟩
 ·cases hv
 ·cases hv
  refine⟨rfl,?_⟩
  obtain⟨css,h1,h2⟩:=pick_each (fun j cs=>∃ x,l[j]? = some x∧cs.length=k∧(∀ i u,cs[i]? = some u→w.cell? (a.add (j*k+i))=some u)∧R w cs x) l.length (fun j hj=>by
   obtain⟨cs,g1,g2,g3⟩:=h4 j l[j] (by simp [hj])
   exact⟨cs,l[j],by simp [hj],g1,g2,g3⟩)
  have hk:∀ cs∈css,cs.length=k:=fun cs hcs=>by
   obtain⟨j,hj,rfl⟩:=List.getElem_of_mem hcs
   obtain⟨x,_,g,_⟩:=h2 j _ (List.getElem?_eq_getElem hj)
   exact g
  refine⟨css,h1,hk,fun j u hu=>?_,fun j cs x hcs hx=>?_⟩
  ·obtain⟨q,i,cs,rfl,hq,hi⟩:=flat_get hk hu
   obtain⟨x,_,_,g,_⟩:=h2 q cs hq
   exact g i u hi
  ·obtain⟨y,hy,_,_,g⟩:=h2 j cs hcs
   rw [hx] at hy
   cases hy
   exact g
def OwnAt (R:Rd α) (k:Nat) (w:World) (B:Nat) (e:TypeId) (v:Value) (l:List α):Prop:=
 ∃ css:List (List Value),css.length=l.length∧(∀ cs∈css,cs.length=k)∧w.ownsRow B e k v l.length css.flatten∧∀ (j:Nat) (cs:List Value) (x:α),css[j]? = some cs→l[j]? = some x→R w cs x
theorem OwnAt.nil (w:World):OwnAt R k w B e (.slice none 0 0) []:=⟨[],rfl,fun _ h=>(by cases h),World.ownsRow_nil _ _ _ _,fun j cs x h=>(by simp at h)⟩
theorem OwnAt.form (h:OwnAt R k w B e v l):(v=.slice none 0 0∧l = [])∨∃ g c,v=.slice (some ⟨g,0,none⟩) l.length c∧B≤g∧g<w.heap.size∧l.length≤c∧c≤maxLen:=by
 obtain⟨css,_,_,h3,_⟩:=h
 rcases h3.2 with ⟨h4,h5⟩ | ⟨g,cap,cur,h4,h5,h6,h7,h8,_⟩
 ·exact .inl ⟨h4,List.eq_nil_of_length_eq_zero h5⟩
 ·refine .inr ⟨g,cap,h4,h5,?_,h7,h8⟩
  rcases Nat.lt_or_ge g w.heap.size with h1 | h1
  ·exact h1
  ·rw [Array.getElem?_eq_none h1] at h6;cases h6
theorem OwnAt.at (h:OwnAt R k w B e v l) {g:Nat} (hg:v.ownBlock=some g):B≤g∧g<w.heap.size∧∃ cur,w.heap[g]? = some (.cells cur e (0,0)):=by
 obtain⟨css,_,_,h3,_⟩:=h
 rcases h3.2 with ⟨rfl,_⟩ | ⟨g',cap,cur,rfl,h5,h6,_⟩
 ·cases hg
 ·obtain rfl:g'=g:=by simpa [Value.ownBlock] using hg
  refine⟨h5,?_,cur,h6⟩
  rcases Nat.lt_or_ge g' w.heap.size with h1 | h1
  ·exact h1
  ·rw [Array.getElem?_eq_none h1] at h6;cases h6
theorem OwnAt.row (h:OwnAt R k w B e v l):RowAt R k w v l:=by
 obtain⟨css,h1,h2,h3,h4⟩:=h
 rcases h3.2 with ⟨h5,h6⟩ | ⟨g,cap,cur,h5,_,_,h7,h8,_,hc⟩
 ·exact .inl ⟨h5,List.eq_nil_of_length_eq_zero h6⟩
 ·refine .inr ⟨_,cap,h5,h7,h8,fun j x hx=>?_⟩
  have hj:j<css.length:=by rw [h1];exact (List.getElem?_eq_some_iff.1 hx).1
  have hcs:css[j]? = some css[j]:=List.getElem?_eq_getElem hj
  exact⟨css[j],h2 _ (List.getElem_mem hj),fun i u hu=>h3.cells (by rw [h5];rfl) (j*k+i) u (get_flat h2 hcs hu),h4 j _ x hcs hx⟩
theorem OwnAt.keepRow (hs:Stays R) (h:OwnAt R k w B e v l) (hk:Keeps w w') (ho:∀ xs,w.ownsRow B e k v l.length xs→w'.ownsRow B e k v l.length xs):OwnAt R k w' B e v l:=by
 obtain⟨css,h1,h2,h3,h4⟩:=h
 exact⟨css,h1,h2,ho _ h3,fun j cs x hcs hx=>hs _ _ _ _ hk (h4 j cs x hcs hx)⟩
theorem OwnAt.below (hs:Stays R) (h:OwnAt R k w B e v l) (hb:Below w.heap.size w w'):OwnAt R k w' B e v l:=h.keepRow hs (keeps_below hb) fun _ ho=>own_below' ho hb
theorem OwnAt.mono {B':Nat} (h:OwnAt R k w B e v l) (hB:B'≤B):OwnAt R k w B' e v l:=by
 obtain⟨css,h1,h2,h3,h4⟩:=h
 exact⟨css,h1,h2,h3.mono hB,h4⟩
theorem OwnAt.alloc (hs:Stays R) (h:OwnAt R k w B e v l) (o:Obj):OwnAt R k (w.alloc o) B e v l:=h.below hs ((Below.refl _ _).alloc (Nat.le_refl _) o)
theorem RowAt.one {b:Nat} {cs:Array Value} {fr:Nat × Nat} (hb:w.heap[b]? = some (.cells cs e fr)) (hk:cs.size=k) {x:α} (h:R w cs.toList x):RowAt R k w (.slice (some ⟨b,0,none⟩) 1 1) [x]:=by
 refine .inr ⟨_,1,rfl,Nat.le_refl _,by unfold maxLen;decide,fun j y hy=>?_⟩
 have hj:j<1:=(List.getElem?_eq_some_iff.1 hy).1
 obtain rfl:j=0:=by omega
 simp only [List.getElem?_cons_zero,Option.some.injEq] at hy
 subst hy
 refine⟨cs.toList,by simpa using hk,fun i u hu=>?_,h⟩
 rw [Nat.zero_mul,Nat.zero_add,add_plain',Nat.zero_add]
 have hi:i<cs.size:=by have:=(List.getElem?_eq_some_iff.1 hu).1;simpa using this
 have:w.cell? ⟨b,i,none⟩=cs[i]?:=by unfold World.cell?;simp [hb]
 rw [this]
 simpa using hu
end
theorem own_setLow {w:World} {B n k:Nat} {e:TypeId} {v:Value} {xs:List Value} (h:w.ownsRow B e k v n xs) {p:Addr} (hp:p.block<B) (x:Value):(w.setCell p x).ownsRow B e k v n xs:=by
 refine⟨h.1,?_⟩
 rcases h.2 with h0 | ⟨g,cap,cur,hv,hB,hh,hr⟩
 ·exact .inl h0
 ·exact .inr ⟨g,cap,cur,hv,hB,(Below.heap_setCell w p x g (by omega)).trans hh,hr⟩
def Flat {α:Type} (R:Rd α):Prop:=∀ w w' cs x,R w cs x→R w' cs x
theorem Flat.stays {α:Type} {R:Rd α} (h:Flat R):Stays R:=fun _ _ _ _ _ hR=>h _ _ _ _ hR
section
variable {P : Program} {α : Type} {R : Rd α} {k : Nat} {l m : List α} {B : Nat} {e : TypeId}
theorem OwnAt.setLow (hf:Flat R) {w:World} {v:Value} (h:OwnAt R k w B e v l) {p:Addr} (hp:p.block<B) (x:Value):OwnAt R k (w.setCell p x) B e v l:=by
 obtain⟨css,h1,h2,h3,h4⟩:=h
 exact⟨css,h1,h2,own_setLow h3 hp x,fun j cs y hcs hy=>hf _ _ _ _ (h4 j cs y hcs hy)⟩
theorem nil_of_len {β:Type} {l:List β} (h:l.length=0):l = []:=List.eq_nil_of_length_eq_zero h
theorem run_append_ownAt (w:World) (t ty:TypeId) (i:TypeInfo) (z:Value) (bytes:Nat) (ht:P.underlying t=some (.slice e)) (hi:P.info? e=some i) (hz:i.zero=some z) (hsize:i.size=k) (hby:i.bytes=bytes)
  (hzs:z.cells.size=k) (hsz:0<k) (hf:Flat R) (h1:OneR R) (v:Value) (hv:OwnAt R k w B e v l) (x:Value) (hx:RowAt R k w x m) (hlen:l.length+m.length≤maxLen)
  (hbytes:(l.length+m.length)*bytes≤140737488355328) (hbase:B≤w.heap.size) :
  ∃ v' w',(Builtin.append_ #[t,t] ty #[v,x]).run P w=.ok v' w'∧OwnAt R k w' B e v' (l++m)∧w.grownBy w' v.ownBlock∧(∀ g,v.ownBlock=some g→B≤g)∧(v'.ownBlock=v.ownBlock∨v'.ownBlock=some w.heap.size):=by
 obtain⟨css,c1,c2,c3,c4⟩:=hv
 rcases hx with ⟨rfl,rfl⟩ | ⟨a,c,rfl,hc1,hc2,hc3⟩
 ·exact⟨v,w,run_append_owned_none (P:=P) w B t ty e i k ht hi v _ _ c3,⟨css,by simpa using c1,c2,by simpa using c3,fun j cs y hcs hy=>c4 j cs y hcs (by simpa using hy)⟩,World.grownBy.refl w _,fun g hg=>(c3.lt g hg).1,.inl rfl⟩
 ·obtain⟨_,ds,d1,d2,d3,d4⟩:=RowAt.cells (R:=R) (k:=k) (w:=w) (l:=m) (.inr ⟨a,c,rfl,hc1,hc2,hc3⟩) rfl
  have d6:∀ u∈ds.flatten,u.oneCell'=true:=fun u hu=>by
   obtain⟨cs,hcs,hu'⟩:=List.mem_flatten.1 hu
   obtain⟨j,hj,rfl⟩:=List.getElem_of_mem hcs
   exact h1 w _ m[j] (d4 j _ _ (List.getElem?_eq_getElem hj) (List.getElem?_eq_getElem (by omega))) u hu'
  obtain⟨v',w',hrun,r1,r2,_,r4⟩:=run_append_own_at (P:=P) w B t ty e i z k bytes ht hi hz hsize hby hzs hsz v l.length css.flatten c3 a m.length c ds.flatten (by rw [flat_len d2,d1]) d3 d6 hlen hbytes hbase
  refine⟨v',w',hrun,⟨css++ds,by simp [c1,d1],fun cs hcs=>(List.mem_append.1 hcs).elim (c2 cs) (d2 cs),by rw [List.flatten_append,List.length_append];exact r1,fun j cs y hcs hy=>?_⟩,r2,fun g hg=>(c3.lt g hg).1,r4⟩
  by_cases hj:j<l.length
  ·rw [List.getElem?_append_left (by omega)] at hcs hy
   exact hf _ _ _ _ (c4 j cs y hcs hy)
  ·rw [List.getElem?_append_right (by omega)] at hcs hy
   rw [c1] at hcs
   exact hf _ _ _ _ (d4 _ cs y hcs hy)
theorem wpList_append_ownAt (w:World) {ops:Array Oper} {rest:List Oper} {o:Oper} {a:Act} {Q:Exit→Act→World→Prop} (hg:o.guard=none) (s x:Operand) (t:TypeId)
  (ho:o.op=.call {callee:=.builtin .append,args:=#[s,x],argTypes:=#[t,t]})
  (i:TypeInfo) (z:Value) (bytes:Nat) (ht:P.underlying t=some (.slice e)) (hi:P.info? e=some i) (hz:i.zero=some z) (hsize:i.size=k) (hby:i.bytes=bytes) (hzs:z.cells.size=k) (hsz:0<k) (hf:Flat R) (h1:OneR R)
  (v:Value) (hs:a.eval s=v) (hv:OwnAt R k w B e v l) (xv:Value) (hxv:a.eval x=xv) (hx:RowAt R k w xv m) (hlen:l.length+m.length≤maxLen)
  (hbytes:(l.length+m.length)*bytes≤140737488355328) (hbase:B≤w.heap.size)
  (h:∀ v' w',OwnAt R k w' B e v' (l++m)→w.grownBy w' v.ownBlock→(∀ g,v.ownBlock=some g→B≤g)→(v'.ownBlock=v.ownBlock∨v'.ownBlock=some w.heap.size)→wpList P ops Q rest (a.put o.dst v') w'):wpList P ops Q (o :: rest) a w:=by
 refine wpList_plain hg fun K hK'=>?_
 obtain⟨v',w',hrun,r1,r2,r3,r4⟩:=run_append_ownAt w t o.type i z bytes ht hi hz hsize hby hzs hsz hf h1 v hv xv hx hlen hbytes hbase
 unfold Oper.wp
 simp [execOp,ho,resolve,invoke,builtin,hs,hxv,hrun,Result.andThen]
 exact hK' _ _ (h v' w' r1 r2 r3 r4)
theorem below_of_grown {B:Nat} {W w w':World} (h:Below B W w) (hB:B≤w.heap.size) {r:Option Nat} (hg:w.grownBy w' r) (hr:∀ g,r=some g→B≤g):Below B W w':=h.grown hg hB hr
end
theorem own_empty {α:Type} {R:Rd α} (w:World) (k:Nat) (e:TypeId) {B:Nat} (hB:B≤w.heap.size):OwnAt R k (w.alloc (.cells #[] e)) B e (.slice (some ⟨w.heap.size,0,none⟩) 0 0) []:=
 ⟨[],rfl,fun _ h=>(by cases h),⟨by simp,.inr ⟨w.heap.size,0,#[],rfl,hB,heap_alloc_new w _,Nat.le_refl _,by simp,by simp,by simp⟩⟩,fun j cs x h=>(by simp at h)⟩
theorem flat_string:Flat RString:=fun _ _ _ _ h=>h
theorem one_string:OneR RString:=fun _ _ _ h u hu=>by rw [h] at hu;simp at hu;subst hu;rfl
end Go.Proofs.YtnnceaapodgfbaaGreatDoor
namespace Go.Proofs.YtnnceaapodgfbaaGreatDoor
open Go.RowKit
def MaxOK (m:Int) (w:World):Prop:=w.cell? ⟨Tryz.laysM143_ren.g 1,0,none⟩=some (.int .i64 m)
theorem MaxOK.below {m:Int} {w w':World} (h:MaxOK m w) (hb:Below w.heap.size w w'):MaxOK m w':=by
 have h':w.cell? ⟨Tryz.laysM143_ren.g 1,0,none⟩=some (.int .i64 m):=h
 exact (hb.cell (p:=⟨Tryz.laysM143_ren.g 1,0,none⟩) (World.block_lt_of_cell? w _ h')).trans h'
theorem max_of {w:World} (h:w.ShapedOpen Tryz.prog):∃ m,MaxOK m w:=Tryz.laysM143.s1_3 w h
end Go.Proofs.YtnnceaapodgfbaaGreatDoor
namespace Go.Proofs.YtnnceaapodgfbaaGreatDoor
open Go.RowKit Go.ChangeShapes Go.WideShapes Go.ChangeAt
def Env (w:World):Prop:=TabOK w∧ErrOK w∧∃ m,MaxOK m w
theorem Env.below {w w':World} (h:Env w) (hb:Below w.heap.size w w'):Env w':=⟨h.1.below hb,h.2.1.below hb,by obtain⟨m,hm⟩:=h.2.2;exact⟨m,hm.below hb⟩⟩
theorem star_err : "*" ++ "errors.errorString" = "*errors.errorString":=by decide
theorem row_err (u:TypeId) (h:Tryz.prog.typeName? 3 u=some "*errors.errorString"):u=305:=
 typeName_ptr_named (nm:= "errors.errorString") (by rw [star_err];kernel_rfl) (by kernel_rfl) (by decide) u (by rw [star_err];exact h)
noncomputable def errR:Nat:=(Tryz.prog.globalNamed "strconv.ErrRange").getD 0
noncomputable def errS:Nat:=(Tryz.prog.globalNamed "strconv.ErrSyntax").getD 0
theorem errR1:Tryz.prog.globalNamed "strconv.ErrRange" = some errR:=by kernel_rfl
theorem errS1:Tryz.prog.globalNamed "strconv.ErrSyntax" = some errS:=by kernel_rfl
theorem errR2:(Tryz.prog.globals[errR]?).map (·.type)=some 234:=by kernel_rfl
theorem errS2:(Tryz.prog.globals[errS]?).map (·.type)=some 234:=by kernel_rfl
theorem errCells:Tryz.prog.cellsOf 307=1:=by kernel_rfl
theorem errCells2:Tryz.prog.cellsOf 9=1:=by kernel_rfl
theorem err_of {W:World} {x1 x2 x3 x4:String × DataW Unit} {t1 t2:List UInt8} {d1 d2:DataW Unit} {r:List (String × DataW Unit)} (h1:d1=.iface "*errors.errorString" (.ptr (.agg [.lit (.string t1)]))) (h2:d2=.iface "*errors.errorString" (.ptr (.agg [.lit (.string t2)]))) (h:laidMet Tryz.prog (x1 :: x2 :: x3 :: x4 :: ("strconv.ErrRange",d1) :: ("strconv.ErrSyntax",d2) :: r) W):ErrOK W:=by
 subst h1;subst h2
 have h4:=h.tail.tail.tail.tail
 obtain⟨a0,s0,hv0,_⟩:=laid_sentinel h4 errR1 errR2 Tryz.underlying234 row_err Tryz.underlying305 Tryz.underlying307 rfl rfl Tryz.underlying9 errCells errCells2
 obtain⟨a1,s1,hv1,_⟩:=laid_sentinel h4.tail errS1 errS2 Tryz.underlying234 row_err Tryz.underlying305 Tryz.underlying307 rfl rfl Tryz.underlying9 errCells errCells2
 exact⟨_,_,_,_,hv1,hv0⟩
theorem env_of {W:World} {x1 x2 x4:String × DataW Unit} {t1 t2:List UInt8} {d d1 d2:DataW Unit} {r:List (String × DataW Unit)} (hd:d=Lib.tabData .u64 Lib.pow10Tab) (h1:d1=.iface "*errors.errorString" (.ptr (.agg [.lit (.string t1)]))) (h2:d2=.iface "*errors.errorString" (.ptr (.agg [.lit (.string t2)]))) (h:laidMet Tryz.prog (x1 :: x2 :: ("internal/strconv.uint64pow10",d) :: x4 :: ("strconv.ErrRange",d1) :: ("strconv.ErrSyntax",d2) :: r) W) (hs:W.ShapedOpen Tryz.prog):Env W:=
 ⟨tab_of hd h,err_of h1 h2 h,max_of hs⟩
end Go.Proofs.YtnnceaapodgfbaaGreatDoor
namespace Go.Proofs.YtnnceaapodgfbaaGreatDoor
open Go.RowKit Go.ChangeShapes Go.WideShapes
structure GKey where
 kind:ByteArray
 space:ByteArray
 name:ByteArray
def KeyR:Rd GKey:=fun _ cs x=>cs = [.string x.kind,.string x.space,.string x.name]
def keyB (x:GKey):Nat:=((x.kind.size+1)+((x.space.size+1)+((x.name.size+1)+0)))+1
set_option maxRecDepth 10000 in
theorem opens_key:Opens Tryz.prog 24 KeyR keyB:=by
 intro H enc w base spare held fuel cs x h
 obtain⟨xs,n,_,rfl,hl,hx,hf⟩:=DataW.trod_struct Tryz.underlying24 h
 have hl2:cs.length=3:=hl.trans (by kernel_rfl)
 clear hl h
 match cs,hl2,xs,hx,hf with
 | [c0,c1,c2],_,[x0,x1,x2],_,hf=>
  obtain⟨a0,r0,m0⟩:=(opens_string Tryz.underlying9).at (o:=0) (cs:=[c0,c1,c2]) (ds:=[c0]) (x:=x0) (hf 0 _ rfl) (k:=1) (by kernel_rfl) rfl
  obtain⟨a1,r1,m1⟩:=(opens_string Tryz.underlying9).at (o:=1) (cs:=[c0,c1,c2]) (ds:=[c1]) (x:=x1) (hf 1 _ rfl) (k:=1) (by kernel_rfl) rfl
  obtain⟨a2,r2,m2⟩:=(opens_string Tryz.underlying9).at (o:=2) (cs:=[c0,c1,c2]) (ds:=[c2]) (x:=x2) (hf 2 _ rfl) (k:=1) (by kernel_rfl) rfl
  clear hf
  obtain rfl:c0=.string a0:=by simpa [RString] using r0
  obtain rfl:c1=.string a1:=by simpa [RString] using r1
  obtain rfl:c2=.string a2:=by simpa [RString] using r2
  refine⟨⟨a0,a1,a2⟩,rfl,?_⟩
  simp only [List.map_cons,List.map_nil,Rows.uptoBulk,Rows.uptoBulkAll,keyB]
  omega
structure GLabel where
 key:ByteArray
 val:ByteArray
def LabelR:Rd GLabel:=fun _ cs x=>cs = [.string x.key,.string x.val]
theorem stays_label:Stays LabelR:=fun _ _ _ _ _ h=>h
def labelB (x:GLabel):Nat:=((x.key.size+1)+((x.val.size+1)+0))+1
set_option maxRecDepth 10000 in
theorem opens_label:Opens Tryz.prog 66 LabelR labelB:=by
 intro H enc w base spare held fuel cs x h
 obtain⟨xs,n,_,rfl,hl,hx,hf⟩:=DataW.trod_struct Tryz.underlying66 h
 have hl2:cs.length=2:=hl.trans (by kernel_rfl)
 clear hl h
 match cs,hl2,xs,hx,hf with
 | [c0,c1],_,[x0,x1],_,hf=>
  obtain⟨a0,r0,m0⟩:=(opens_string Tryz.underlying9).at (o:=0) (cs:=[c0,c1]) (ds:=[c0]) (x:=x0) (hf 0 _ rfl) (k:=1) (by kernel_rfl) rfl
  obtain⟨a1,r1,m1⟩:=(opens_string Tryz.underlying9).at (o:=1) (cs:=[c0,c1]) (ds:=[c1]) (x:=x1) (hf 1 _ rfl) (k:=1) (by kernel_rfl) rfl
  clear hf
  obtain rfl:c0=.string a0:=by simpa [RString] using r0
  obtain rfl:c1=.string a1:=by simpa [RString] using r1
  refine⟨⟨a0,a1⟩,rfl,?_⟩
  simp only [List.map_cons,List.map_nil,Rows.uptoBulk,Rows.uptoBulkAll,labelB]
  omega
structure GObject where
 okey:GKey
 labels:List GLabel
 owners:List ByteArray
 holds:List ByteArray
 ending:Bool
 uid:ByteArray
 rev:Int
 doc:ByteArray
def ObjectR:Rd GObject:=fun w cs x=>∃ v1 v2 v3,cs = [.string x.okey.kind,.string x.okey.space,.string x.okey.name,v1,v2,v3,.bool x.ending,.string x.uid,.int .i64 x.rev,.string x.doc]∧RowAt LabelR 2 w v1 x.labels∧StrAt w v2 x.owners∧StrAt w v3 x.holds∧(Lit.int .i64 x.rev).wf=true
theorem stays_object:Stays ObjectR:=fun _ _ _ _ hk ⟨v1,v2,v3,h,g1,g2,g3,g6_0⟩=>⟨v1,v2,v3,h,g1.keep stays_label hk,g2.keep hk,g3.keep hk,g6_0⟩
def objectB (x:GObject):Nat:=(keyB x.okey+(((x.labels.map labelB).sum+1)+((total x.owners+1)+((total x.holds+1)+(1+((x.uid.size+1)+(1+((x.doc.size+1)+0))))))))+1
set_option maxRecDepth 10000 in
theorem opens_object:Opens Tryz.prog 30 ObjectR objectB:=by
 intro H enc w base spare held fuel cs x h
 obtain⟨xs,n,_,rfl,hl,hx,hf⟩:=DataW.trod_struct Tryz.underlying30 h
 have hl2:cs.length=10:=hl.trans (by kernel_rfl)
 clear hl h
 match cs,hl2,xs,hx,hf with
 | [c0,c1,c2,c3,c4,c5,c6,c7,c8,c9],_,[x0,x1,x2,x3,x4,x5,x6,x7],_,hf=>
  obtain⟨a0,r0,m0⟩:=(opens_key).at (o:=0) (cs:=[c0,c1,c2,c3,c4,c5,c6,c7,c8,c9]) (ds:=[c0,c1,c2]) (x:=x0) (hf 0 _ rfl) (k:=3) (by kernel_rfl) rfl
  obtain⟨a1,r1,m1⟩:=(opens_row (k:=2) Tryz.underlying27 (by kernel_rfl) opens_label).at (o:=3) (cs:=[c0,c1,c2,c3,c4,c5,c6,c7,c8,c9]) (ds:=[c3]) (x:=x1) (hf 1 _ rfl) (k:=1) (by kernel_rfl) rfl
  obtain⟨a2,r2,m2⟩:=(opens_strs Tryz.underlying28 Tryz.underlying9 (by kernel_rfl)).at (o:=4) (cs:=[c0,c1,c2,c3,c4,c5,c6,c7,c8,c9]) (ds:=[c4]) (x:=x2) (hf 2 _ rfl) (k:=1) (by kernel_rfl) rfl
  obtain⟨a3,r3,m3⟩:=(opens_strs Tryz.underlying28 Tryz.underlying9 (by kernel_rfl)).at (o:=5) (cs:=[c0,c1,c2,c3,c4,c5,c6,c7,c8,c9]) (ds:=[c5]) (x:=x3) (hf 3 _ rfl) (k:=1) (by kernel_rfl) rfl
  obtain⟨a4,r4,m4⟩:=(opens_bool Tryz.underlying4).at (o:=6) (cs:=[c0,c1,c2,c3,c4,c5,c6,c7,c8,c9]) (ds:=[c6]) (x:=x4) (hf 4 _ rfl) (k:=1) (by kernel_rfl) rfl
  obtain⟨a5,r5,m5⟩:=(opens_string Tryz.underlying9).at (o:=7) (cs:=[c0,c1,c2,c3,c4,c5,c6,c7,c8,c9]) (ds:=[c7]) (x:=x5) (hf 5 _ rfl) (k:=1) (by kernel_rfl) rfl
  obtain⟨a6,r6,m6⟩:=(opens_int Tryz.underlying3).at (o:=8) (cs:=[c0,c1,c2,c3,c4,c5,c6,c7,c8,c9]) (ds:=[c8]) (x:=x6) (hf 6 _ rfl) (k:=1) (by kernel_rfl) rfl
  obtain⟨a7,r7,m7⟩:=(opens_string Tryz.underlying9).at (o:=9) (cs:=[c0,c1,c2,c3,c4,c5,c6,c7,c8,c9]) (ds:=[c9]) (x:=x7) (hf 7 _ rfl) (k:=1) (by kernel_rfl) rfl
  clear hf
  have q0:=r0
  simp only [KeyR,List.cons.injEq,and_true] at q0
  obtain⟨rfl,rfl,rfl⟩:=q0
  obtain⟨v1,r1,s1⟩:=r1
  obtain rfl:c3=v1:=by simpa using r1
  obtain⟨v2,r2,s2⟩:=r2
  obtain rfl:c4=v2:=by simpa using r2
  obtain⟨v3,r3,s3⟩:=r3
  obtain rfl:c5=v3:=by simpa using r3
  obtain rfl:c6=.bool a4:=by simpa [RBool] using r4
  obtain rfl:c7=.string a5:=by simpa [RString] using r5
  obtain⟨r6,w6⟩:=r6
  obtain rfl:c8=.int .i64 a6:=by simpa using r6
  obtain rfl:c9=.string a7:=by simpa [RString] using r7
  refine⟨⟨a0,a1,a2,a3,a4,a5,a6,a7⟩,⟨c3,c4,c5,rfl,s1,s2,s3,w6⟩,?_⟩
  simp only [List.map_cons,List.map_nil,Rows.uptoBulk,Rows.uptoBulkAll,objectB]
  omega
end Go.Proofs.YtnnceaapodgfbaaGreatDoor
namespace Go.Proofs.YtnnceaapodgfbaaGreatDoor
open Go.RowKit Go.ChangeShapes Go.WideShapes
structure GReq where
 key:ByteArray
 kind:Int
 vals:List ByteArray
def ReqR:Rd GReq:=fun w cs x=>∃ v2,cs = [.string x.key,.int .i64 x.kind,v2]∧(Lit.int .i64 x.kind).wf=true∧StrAt w v2 x.vals
theorem stays_req:Stays ReqR:=fun _ _ _ _ hk ⟨v2,h,g1_0,g2⟩=>⟨v2,h,g1_0,g2.keep hk⟩
def reqB (x:GReq):Nat:=((x.key.size+1)+(1+((total x.vals+1)+0)))+1
set_option maxRecDepth 10000 in
theorem opens_req:Opens Tryz.prog 97 ReqR reqB:=by
 intro H enc w base spare held fuel cs x h
 obtain⟨xs,n,_,rfl,hl,hx,hf⟩:=DataW.trod_struct Tryz.underlying97 h
 have hl2:cs.length=3:=hl.trans (by kernel_rfl)
 clear hl h
 match cs,hl2,xs,hx,hf with
 | [c0,c1,c2],_,[x0,x1,x2],_,hf=>
  obtain⟨a0,r0,m0⟩:=(opens_string Tryz.underlying9).at (o:=0) (cs:=[c0,c1,c2]) (ds:=[c0]) (x:=x0) (hf 0 _ rfl) (k:=1) (by kernel_rfl) rfl
  obtain⟨a1,r1,m1⟩:=(opens_int Tryz.underlying3).at (o:=1) (cs:=[c0,c1,c2]) (ds:=[c1]) (x:=x1) (hf 1 _ rfl) (k:=1) (by kernel_rfl) rfl
  obtain⟨a2,r2,m2⟩:=(opens_strs Tryz.underlying28 Tryz.underlying9 (by kernel_rfl)).at (o:=2) (cs:=[c0,c1,c2]) (ds:=[c2]) (x:=x2) (hf 2 _ rfl) (k:=1) (by kernel_rfl) rfl
  clear hf
  obtain rfl:c0=.string a0:=by simpa [RString] using r0
  obtain⟨r1,w1⟩:=r1
  obtain rfl:c1=.int .i64 a1:=by simpa using r1
  obtain⟨v2,r2,s2⟩:=r2
  obtain rfl:c2=v2:=by simpa using r2
  refine⟨⟨a0,a1,a2⟩,⟨c2,rfl,w1,s2⟩,?_⟩
  simp only [List.map_cons,List.map_nil,Rows.uptoBulk,Rows.uptoBulkAll,reqB]
  omega
end Go.Proofs.YtnnceaapodgfbaaGreatDoor
namespace Go.Proofs.YtnnceaapodgfbaaGreatDoor
open Go.RowKit Go.ChangeShapes Go.WideShapes
structure GView where
 kind:ByteArray
 space:ByteArray
 reqs:List GReq
def ViewR:Rd GView:=fun w cs x=>∃ v2,cs = [.string x.kind,.string x.space,v2]∧RowAt ReqR 3 w v2 x.reqs
def viewB (x:GView):Nat:=((x.kind.size+1)+((x.space.size+1)+(((x.reqs.map reqB).sum+1)+0)))+1
set_option maxRecDepth 10000 in
theorem opens_view:Opens Tryz.prog 80 ViewR viewB:=by
 intro H enc w base spare held fuel cs x h
 obtain⟨xs,n,_,rfl,hl,hx,hf⟩:=DataW.trod_struct Tryz.underlying80 h
 have hl2:cs.length=3:=hl.trans (by kernel_rfl)
 clear hl h
 match cs,hl2,xs,hx,hf with
 | [c0,c1,c2],_,[x0,x1,x2],_,hf=>
  obtain⟨a0,r0,m0⟩:=(opens_string Tryz.underlying9).at (o:=0) (cs:=[c0,c1,c2]) (ds:=[c0]) (x:=x0) (hf 0 _ rfl) (k:=1) (by kernel_rfl) rfl
  obtain⟨a1,r1,m1⟩:=(opens_string Tryz.underlying9).at (o:=1) (cs:=[c0,c1,c2]) (ds:=[c1]) (x:=x1) (hf 1 _ rfl) (k:=1) (by kernel_rfl) rfl
  obtain⟨a2,r2,m2⟩:=(opens_row (k:=3) Tryz.underlying78 (by kernel_rfl) opens_req).at (o:=2) (cs:=[c0,c1,c2]) (ds:=[c2]) (x:=x2) (hf 2 _ rfl) (k:=1) (by kernel_rfl) rfl
  clear hf
  obtain rfl:c0=.string a0:=by simpa [RString] using r0
  obtain rfl:c1=.string a1:=by simpa [RString] using r1
  obtain⟨v2,r2,s2⟩:=r2
  obtain rfl:c2=v2:=by simpa using r2
  refine⟨⟨a0,a1,a2⟩,⟨c2,rfl,s2⟩,?_⟩
  simp only [List.map_cons,List.map_nil,Rows.uptoBulk,Rows.uptoBulkAll,viewB]
  omega
end Go.Proofs.YtnnceaapodgfbaaGreatDoor
namespace Go.Proofs.YtnnceaapodgfbaaGreatDoor
open Go
section
variable {P : Program} {ops : Array Oper} {md : Region.Mode}
inductive Behind (md:Region.Mode) (ops:Array Oper) (i:Nat):Nat→Prop
 | edge {t:Nat} {o:Oper} {e:Edge} (ho:ops[t]? = some o) (he:e∈o.after) (hb:Region.binds md e=true) (hi:e.on=i):Behind md ops i t
 | step {t:Nat} {o:Oper} {e:Edge} (ho:ops[t]? = some o) (he:e∈o.after) (hb:Region.binds md e=true) (h:Behind md ops i e.on):Behind md ops i t
end
end Go.Proofs.YtnnceaapodgfbaaGreatDoor
namespace Go.Proofs.YtnnceaapodgfbaaGreatDoor
open Go
section
variable {P : Program} {ops : Array Oper} {md : Region.Mode} {I : World → Prop}
def gives (P:Program) (R:Value→World→Prop):Result Next→Prop
 | .ok (.value v) w'=>R v w'
 | .ok .skip w'=>R undef w'
 | .ok (.enter f args) w'=>Calls P f args w' fun e w''=>∃ v,e=.returned v∧R v w''
 | _=>False
theorem gives_upon {o:Oper} {a:Act} {R:Value→World→Prop} {K:Act→World→Prop} {Q:Exit→Act→World→Prop} (h:∀ v w,R v w→K (a.put o.dst v) w) :
  ∀ {r:Result Next},gives P R r→o.upon P a K Q r
 | .ok (.value v) w',hr=>h _ _ hr
 | .ok .skip w',hr=>h _ _ hr
 | .ok (.enter f args) w',hr=>Calls.mono hr fun e w'' he=>by
   obtain⟨v,rfl,hR⟩:=he
   exact h _ _ hR
def YieldsIn (P:Program) (ops:Array Oper) (I:World→Prop) (o:Oper) (v:Value) (a:Act):Prop:=
 (Region.wanted o (yielded ops a.tmps)=true∧∀ w,I w→gives P (fun u w'=>u=v∧I w') ((execOp a.eval o).run P w))∨
 (Region.wanted o (yielded ops a.tmps)=false∧v=undef)
theorem YieldsIn.of_same {o:Oper} {v:Value} {a a':Act} (hy:YieldsIn P ops I o v a) (he:execOp a'.eval o=execOp a.eval o)
  (hw:Region.wanted o (yielded ops a'.tmps)=Region.wanted o (yielded ops a.tmps)):YieldsIn P ops I o v a':=by
 unfold YieldsIn at *
 rw [he,hw]
 exact hy
theorem YieldsIn.wpOp {i:Nat} {o:Oper} {v:Value} {a:Act} {w:World} (hi:ops[i]? = some o) (hy:YieldsIn P ops I o v a) (hI:I w) {K:Act→World→Prop} {Q:Exit→Act→World→Prop}
  (h:∀ w',I w'→K (a.put o.dst v) w'):wpOp P ops Q i K a w:=by
 unfold Go.wpOp
 simp only [hi]
 rcases hy with ⟨hw,hv⟩ | ⟨hw,rfl⟩
 ·simp only [hw,if_true]
  refine .inl ?_
  unfold Oper.wp
  exact gives_upon (R:=fun u w'=>u=v∧I w') (fun u w' hR=>by obtain⟨rfl,hI'⟩:=hR;exact h _ hI') (hv w hI)
 ·simp only [hw,Bool.false_eq_true,if_false]
  exact h _ hI
def wpHold (P:Program) (ops:Array Oper) (I:World→Prop) (Q:Act→Prop):List Oper→Act→Prop
 | [],a=>Q a
 | o :: rest,a=>∃ v,YieldsIn P ops I o v a∧wpHold P ops I Q rest (a.put o.dst v)
def wpAnyV (P:Program) (md:Region.Mode) (ops:Array Oper) (I:World→Prop) (n:Nat) (L:Array Bool→Act→Prop):Nat→Array Bool→Act→Prop
 | 0,listed,a=>L listed a
 | f+1,listed,a=>
  Region.ready md ops listed≠[]∧∀ i∈Region.ready md ops listed,i<n∧∃ o v,ops[i]? = some o∧YieldsIn P ops I o v a∧wpAnyV P md ops I n L f (listed.setIfInBounds i true) (a.put o.dst v)
theorem wpAny_of_hold {n g:Nat} {L:Array Bool→Act→Prop} {Q':Exit→Act→World→Prop} (hL:∀ listed a w,L listed a→I w→wpAny P md ops Q' g listed a w) :
  ∀ (f:Nat) (listed:Array Bool) (a:Act) (w:World),I w→wpAnyV P md ops I n L f listed a→wpAny P md ops Q' (f+g) listed a w
 | 0,listed,a,w,hI,h=>by rw [Nat.zero_add];exact hL _ _ _ h hI
 | f+1,listed,a,w,hI,h=>by
  rw [show f+1+g=(f+g)+1 by omega]
  refine⟨fun h0=>absurd h0 h.1,fun i hi=>?_⟩
  obtain⟨_,o,v,ho,hy,hK⟩:=h.2 i hi
  exact hy.wpOp ho hI fun w' hI'=>wpAny_of_hold hL f _ _ w' hI' hK
theorem wpAnyV_first {n i:Nat} {oi:Oper} {v:Value} {L:Array Bool→Act→Prop} (hi:ops[i]? = some oi) (hsel:∀ (j:Nat) (o:Oper) cs b,ops[j]? = some o→o.op≠.select cs b)
  (htw:∀ (listed:Array Bool) (i:Nat),HeadInv md ops n listed→i<n→listed.getD i true=false→∀ t,n≤t→t∉Region.ready md ops listed) (hin:i<n)
  (hdone:∀ listed a,L listed a→∀ j∈Region.ready md ops listed,n≤j) :
  ∀ (f:Nat) (listed:Array Bool) (a:Act),HeadInv md ops n listed→
   (∀ j oj,ops[j]? = some oj→j≠i→listed.getD j true=false→(∀ e∈oj.after,Region.binds md e=true→e.on≠i)→oi.apart ops oj=true)→
   i∈Region.ready md ops listed→YieldsIn P ops I oi v a→
   wpAnyV P md ops I n L f (listed.setIfInBounds i true) (a.put oi.dst v)→wpAnyV P md ops I n L (f+1) listed a:=by
 intro f
 induction f with
 | zero=>
  intro listed a inv _ hr hy H
  have hun:=(mem_ready.1 hr).1
  refine⟨fun h=>(by rw [h] at hr;cases hr),fun j hj=>?_⟩
  have hjn:j<n:=by
   rcases Nat.lt_or_ge j n with h | h
   ·exact h
   ·exact absurd hj (htw _ i inv hin hun j h)
  refine⟨hjn,?_⟩
  by_cases hji:j=i
  ·subst hji;exact⟨oi,v,hi,hy,H⟩
  ·have:=hdone _ _ H j (ready_mono hj hji)
   omega
 | succ f ih=>
  intro listed a inv hfree hr hy H
  have hun:=(mem_ready.1 hr).1
  refine⟨fun h=>(by rw [h] at hr;cases hr),fun j hj=>?_⟩
  have hjn:j<n:=by
   rcases Nat.lt_or_ge j n with h | h
   ·exact h
   ·exact absurd hj (htw _ i inv hin hun j h)
  refine⟨hjn,?_⟩
  by_cases hji:j=i
  ·subst hji;exact⟨oi,v,hi,hy,H⟩
  ·obtain⟨oj,u,hoj,hyj,hK⟩:=(H.2 j (ready_mono hj hji)).2
   obtain⟨hjun,oj',hoj',hall⟩:=mem_ready.1 hj
   have:oj'=oj:=Option.some.inj (hoj'.symm.trans hoj)
   subst this
   have hnot:∀ e∈oj'.after,Region.binds md e=true→e.on≠i:=fun e he hb heq=>by
    have h1:=hall e he hb
    rw [heq,getD_both hun] at h1
    cases h1
   have hap:=hfree j oj' hoj hji hjun hnot
   obtain⟨h1,h2,h3⟩:=Oper.apart_spec hap
   have hfree':∀ k ok,ops[k]? = some ok→k≠i→(listed.setIfInBounds j true).getD k true=false→
     (∀ e∈ok.after,Region.binds md e=true→e.on≠i)→oi.apart ops ok=true:=fun k ok hk hki hun' hno=>by
    refine hfree k ok hk hki ?_ hno
    by_cases hjk:j=k
    ·subst hjk;exact hjun
    ·rw [getD_set_ne true hjk] at hun';exact hun'
   have hyj':YieldsIn P ops I oj' u a:=hyj.of_same (execOp_put oj' (fun cs b=>hsel j oj' cs b hoj) a oi.dst v h1).symm (wanted_put oj' a oi.dst v h1).symm
   have hyi':YieldsIn P ops I oi v (a.put oj'.dst u):=hy.of_same (execOp_put oi (fun cs b=>hsel i oi cs b hi) a oj'.dst u h3) (wanted_put oi a oj'.dst u h3)
   refine⟨oj',u,hoj,hyj',ih (listed.setIfInBounds j true) _ (inv.set hj hjn) hfree' (ready_mono hr (Ne.symm hji)) hyi' ?_⟩
   rw [Array.setIfInBounds_comm _ _ hji,←Act.put_comm a v u h2]
   exact hK
theorem wpAnyV_lex {n g:Nat} {Lq:Act→Prop} (hsel:Region.noSelect ops=true)
  (htw:∀ (listed:Array Bool) (i:Nat),HeadInv md ops n listed→i<n→listed.getD i true=false→∀ t,n≤t→t∉Region.ready md ops listed) :
  ∀ (l:List Oper) (k:Nat) (listed:Array Bool) (a:Act),(∀ j,j<l.length→l[j]? = ops[k+j]?)→k+l.length=n→HeadInv md ops n listed→
  Region.lexHead md ops g l.length k listed=true→wpHold P ops I Lq l a→
  wpAnyV P md ops I n (fun listed' a'=>Region.seqB md ops g n listed'=true∧Lq a') l.length listed a
 | [],k,listed,a,_,hk,_,hB,h=>by
  have:k=n:=by simpa using hk
  subst this
  exact⟨by simpa [Region.lexHead] using hB,h⟩
 | o :: l,k,listed,a,hl,hk,inv,hB,h=>by
  have h0:ops[k]? = some o:=by simpa using (hl 0 (by simp)).symm
  simp only [List.length_cons,Region.lexHead,Bool.and_eq_true] at hB
  obtain⟨⟨hr,hf⟩,hB'⟩:=hB
  have hkn:k<n:=by simp only [List.length_cons] at hk;omega
  have hr':k∈Region.ready md ops listed:=by simpa using hr
  obtain⟨v,hy,hK⟩:=h
  exact wpAnyV_first h0 (Region.noSelect_spec hsel) htw hkn (fun listed' a' hL=>seqB_ready hL.1) l.length listed a inv (Region.free_spec h0 hf) hr' hy
   (wpAnyV_lex hsel htw l (k+1) _ _ (fun j hj=>by have:=hl (j+1) (by simp;omega);simpa [Nat.add_assoc,Nat.add_comm 1 j] using this) (by simp only [List.length_cons] at hk;omega) (inv.set hr' hkn) hB' hK)
theorem wp_region_hold {id:Nat} {Q:Exit→Act→World→Prop} {a:Act} {w:World} {l:List Oper} (n:Nat) (I:World→Prop) (hm:P.follows .mixedOrders=true) (hB:Region.lexTailB .any l.toArray n=true)
  (hI:I w.drew) (h:wpHold P l.toArray I (fun a'=>∀ w',I w'→wpList P l.toArray Q (l.drop n) a' w') (l.take n) a):(Code.region id l.toArray true).wp P Q a w:=by
 simp only [Region.lexTailB,Bool.and_eq_true,decide_eq_true_eq] at hB
 obtain⟨⟨⟨⟨hsel,hn⟩,hs⟩,hc⟩,hlex⟩:=hB
 have hn':n<l.length:=by simpa using hn
 have htl:(l.take n).length=n:=by simp;omega
 have hdl:(l.drop n).length=l.toArray.size - n:=by simp
 have inv0:HeadInv .any l.toArray n (Array.replicate l.toArray.size false):=
  ⟨by simp,fun j oj _ hl=>(by rw [getD_replicate_false] at hl;cases hl),fun t _ ht=>getD_in (by simpa using ht) (getD_replicate_false _ _)⟩
 have H:=wpAnyV_lex (md:=.any) (g:=l.toArray.size - n) (n:=n) hsel (fun listed i inv hi hun=>tail_waits hs hc hn inv _ i rfl hi hun) (l.take n) 0 _ a (fun j hj=>by
  have hj':j<n:=by rw [htl] at hj;exact hj
  simp [hj']) (by simpa using htl) inv0 (by rw [htl];exact hlex) h
 refine wp_region_any hm ?_
 have:=wpAny_of_hold (Q':=Q) (g:=l.toArray.size - n) (fun listed a' w' hL hI'=>by
  have:=wpAny_of_seq (md:=.any) (Q':=Q) (l.drop n) n listed a' w' (fun j=>by simp [List.getElem?_drop]) (by rw [hdl];exact hL.1) (hL.2 w' hI')
  rwa [hdl] at this) _ _ _ w.drew hI H
 rw [htl,show n+(l.toArray.size - n)=l.toArray.size by omega] at this
 exact this
theorem below_then {a b c:World} (h:RowKit.Below a.heap.size a b) (k:RowKit.Below b.heap.size b c):RowKit.Below a.heap.size a c:=h.trans (k.mono h.size)
theorem wpHold_nil {Q:Act→Prop} {a:Act} (h:Q a):wpHold P ops I Q [] a:=h
theorem wpHold_pure {Q:Act→Prop} {a:Act} {o:Oper} {rest:List Oper} {v:Value} (hg:o.guard=none) (h:∀ w,(execOp a.eval o).run P w=.ok (.value v) w) (k:wpHold P ops I Q rest (a.put o.dst v)) :
  wpHold P ops I Q (o :: rest) a:=
 ⟨v,.inl ⟨by simp [Region.wanted,hg],fun w hI=>by rw [h w];exact⟨rfl,hI⟩⟩,k⟩
theorem wpHold_read {Q:Act→Prop} {a:Act} {o:Oper} {rest:List Oper} {v:Value} (hg:o.guard=none) (h:∀ w,I w→(execOp a.eval o).run P w=.ok (.value v) w) (k:wpHold P ops I Q rest (a.put o.dst v)) :
  wpHold P ops I Q (o :: rest) a:=
 ⟨v,.inl ⟨by simp [Region.wanted,hg],fun w hI=>by rw [h w hI];exact⟨rfl,hI⟩⟩,k⟩
theorem wpHold_call {Q:Act→Prop} {a:Act} {o:Oper} {rest:List Oper} {v:Value} {f:FuncId} {args:Array Value} (hg:o.guard=none) (h:∀ w,(execOp a.eval o).run P w=.ok (.enter f args) w)
  (hc:∀ w,I w→Calls P f args w fun e w'=>e=.returned v∧I w') (k:wpHold P ops I Q rest (a.put o.dst v)):wpHold P ops I Q (o :: rest) a:=
 ⟨v,.inl ⟨by simp [Region.wanted,hg],fun w hI=>by rw [h w];exact (hc w hI).mono fun e w' h'=>⟨v,h'.1,rfl,h'.2⟩⟩,k⟩
theorem wpHold_pure' {Q:Act→Prop} {a:Act} {o:Oper} {rest:List Oper} {v:Value} (hg:Region.wanted o (yielded ops a.tmps)=true) (h:∀ w,(execOp a.eval o).run P w=.ok (.value v) w) (k:wpHold P ops I Q rest (a.put o.dst v)) :
  wpHold P ops I Q (o :: rest) a:=
 ⟨v,.inl ⟨hg,fun w hI=>by rw [h w];exact⟨rfl,hI⟩⟩,k⟩
theorem wpHold_read' {Q:Act→Prop} {a:Act} {o:Oper} {rest:List Oper} {v:Value} (hg:Region.wanted o (yielded ops a.tmps)=true) (h:∀ w,I w→(execOp a.eval o).run P w=.ok (.value v) w) (k:wpHold P ops I Q rest (a.put o.dst v)) :
  wpHold P ops I Q (o :: rest) a:=
 ⟨v,.inl ⟨hg,fun w hI=>by rw [h w hI];exact⟨rfl,hI⟩⟩,k⟩
theorem wpHold_call' {Q:Act→Prop} {a:Act} {o:Oper} {rest:List Oper} {v:Value} {f:FuncId} {args:Array Value} (hg:Region.wanted o (yielded ops a.tmps)=true) (h:∀ w,(execOp a.eval o).run P w=.ok (.enter f args) w)
  (hc:∀ w,I w→Calls P f args w fun e w'=>e=.returned v∧I w') (k:wpHold P ops I Q rest (a.put o.dst v)):wpHold P ops I Q (o :: rest) a:=
 ⟨v,.inl ⟨hg,fun w hI=>by rw [h w];exact (hc w hI).mono fun e w' h'=>⟨v,h'.1,rfl,h'.2⟩⟩,k⟩
theorem wpHold_skip {Q:Act→Prop} {a:Act} {o:Oper} {rest:List Oper} (hg:Region.wanted o (yielded ops a.tmps)=false) (k:wpHold P ops I Q rest (a.put o.dst undef)):wpHold P ops I Q (o :: rest) a:=
 ⟨undef,.inr ⟨hg,rfl⟩,k⟩
end
end Go.Proofs.YtnnceaapodgfbaaGreatDoor
namespace Go.Proofs.YtnnceaapodgfbaaGreatDoor
open Go
section
variable {P : Program} {ops : Array Oper} {md : Region.Mode}
def putAll:List Oper→(Nat→Value)→Nat→Act→Act
 | [],_,_,a=>a
 | o :: r,u,k,a=>putAll r u (k+1) (a.put o.dst (u k))
def slotOf (a:Act):Option Tmp→Value
 | some d=>a.tmps.getD d undef
 | none=>undef
theorem put_same (a:Act) (d:Option Tmp) (v w:Value):(a.put d v).put d w=a.put d w:=by
 cases d with
 | none=>rfl
 | some d=>simp [Act.put]
theorem put_own (a:Act) (d:Option Tmp):a.put d (slotOf a d)=a:=by
 cases d with
 | none=>rfl
 | some d=>
  unfold Act.put slotOf
  simp only
  congr 1
  apply Array.ext
  ·simp
  ·intro i h1 h2
   rw [Array.getElem_setIfInBounds]
   split
   ·rename_i h
    subst h
    simp [Array.getD,h2]
   ·rfl
def apartDsts (l:List Oper):Prop:=l.Pairwise fun x y=>∀ d,x.dst=some d→y.dst≠some d
theorem putAll_put:∀ (l:List Oper) (u:Nat→Value) (k:Nat) (a:Act) (d:Option Tmp) (v:Value),(∀ o∈l,∀ t,d=some t→o.dst≠some t)→(putAll l u k a).put d v=putAll l u k (a.put d v)
 | [],_,_,_,_,_,_=>rfl
 | o :: r,u,k,a,d,v,h=>by
  show (putAll r u (k+1) (a.put o.dst (u k))).put d v=putAll r u (k+1) ((a.put d v).put o.dst (u k))
  rw [putAll_put r u (k+1) _ d v (fun o' ho=>h o' (List.mem_cons_of_mem _ ho)),←Act.put_comm a v (u k) (h o (List.mem_cons_self ..))]
theorem putAll_congr:∀ (l:List Oper) (u u':Nat→Value) (k:Nat) (a:Act),(∀ j,k≤j→u j=u' j)→putAll l u k a=putAll l u' k a
 | [],_,_,_,_,_=>rfl
 | o :: r,u,u',k,a,h=>by
  show putAll r u (k+1) (a.put o.dst (u k))=putAll r u' (k+1) (a.put o.dst (u' k))
  rw [h k (Nat.le_refl _)]
  exact putAll_congr r u u' (k+1) _ (fun j hj=>h j (by omega))
theorem putAll_set:∀ (l:List Oper) (u:Nat→Value) (k i:Nat) (a:Act) (o:Oper) (v:Value),apartDsts l→l[i]? = some o→(putAll l u k a).put o.dst v=putAll l (fun j=>if j=k+i then v else u j) k a
 | [],_,_,_,_,_,_,_,h=>by simp at h
 | x :: r,u,k,0,a,o,v,hd,h=>by
  obtain rfl:x=o:=by simpa using h
  show (putAll r u (k+1) (a.put x.dst (u k))).put x.dst v=putAll r _ (k+1) (a.put x.dst (if k=k+0 then v else u k))
  rw [if_pos (by omega),putAll_put r u (k+1) _ x.dst v (fun o' ho t ht=>(List.pairwise_cons.1 hd).1 o' ho t ht),put_same]
  exact putAll_congr r _ _ (k+1) _ (fun j hj=>by rw [if_neg (by omega)])
 | x :: r,u,k,i+1,a,o,v,hd,h=>by
  show (putAll r u (k+1) (a.put x.dst (u k))).put o.dst v=putAll r _ (k+1) (a.put x.dst (if k=k+(i+1) then v else u k))
  rw [if_neg (by omega),putAll_set r u (k+1) i _ o v (List.pairwise_cons.1 hd).2 (by simpa using h)]
  exact putAll_congr r _ _ (k+1) _ (fun j _=>by simp [show k+1+i=k+(i+1) by omega])
theorem putAll_own:∀ (l:List Oper) (k:Nat) (a:Act) (u:Nat→Value),(∀ j o,l[j]? = some o→u (k+j)=slotOf a o.dst)→putAll l u k a=a
 | [],_,_,_,_=>rfl
 | x :: r,k,a,u,h=>by
  show putAll r u (k+1) (a.put x.dst (u k))=a
  rw [show u k=slotOf a x.dst from h 0 x rfl,put_own]
  exact putAll_own r (k+1) a u (fun j o ho=>by rw [show k+1+j=k+(j+1) by omega];exact h (j+1) o (by simpa using ho))
def unl (listed:Array Bool):Nat→Nat
 | 0=>0
 | n+1=>unl listed n+if listed.getD n true=true then 0 else 1
theorem unl_set {listed:Array Bool} {i:Nat}:∀ {n:Nat},i<n→listed.getD i true=false→i<listed.size→unl (listed.setIfInBounds i true) n+1=unl listed n
 | 0,h,_,_=>by omega
 | n+1,h,hu,hs=>by
  unfold unl
  by_cases hin:i=n
  ·subst hin
   rw [hu,getD_set_true_own hs]
   have:unl (listed.setIfInBounds i true) i=unl listed i:=unl_far (Nat.le_refl _)
   rw [this]
   simp
  ·rw [getD_set_ne true hin]
   have:=unl_set (n:=n) (by omega) hu hs
   omega
where
 unl_far {i:Nat}:∀ {n:Nat},n≤i→unl (listed.setIfInBounds i true) n=unl listed n
  | 0,_=>rfl
  | n+1,h=>by
   unfold unl
   rw [unl_far (n:=n) (by omega),getD_set_ne true (by omega)]
 getD_set_true_own {i:Nat} (hs:i<listed.size):(listed.setIfInBounds i true).getD i true=true:=by
  simp [Array.getD,hs]
theorem unl_zero {listed:Array Bool}:∀ {n:Nat},unl listed n=0→∀ j,j<n→listed.getD j true=true
 | 0,_,j,h=>by omega
 | n+1,h0,j,h=>by
  unfold unl at h0
  by_cases hj:j=n
  ·subst hj
   by_cases hl:listed.getD j true=true
   ·exact hl
   ·rw [if_neg hl] at h0;omega
  ·exact unl_zero (n:=n) (by omega) j (by omega)
theorem unl_least {listed:Array Bool} {n:Nat} (hu:unl listed n≠0):∃ i,i<n∧listed.getD i true=false∧∀ j,j<i→listed.getD j true=true:=by
 induction n with
 | zero=>exact absurd rfl hu
 | succ n ih=>
  by_cases h:unl listed n=0
  ·refine⟨n,by omega,?_,unl_zero h⟩
   unfold unl at hu
   rw [h] at hu
   cases hl:listed.getD n true with
   | false=>rfl
   | true=>rw [hl] at hu;simp at hu
  ·obtain⟨i,hi,h1,h2⟩:=ih h
   exact⟨i,by omega,h1,h2⟩
theorem getD_false {listed:Array Bool} {i:Nat} (hi:i<listed.size) (h:listed.getD i true=true):listed.getD i false=true:=by
 simp [Array.getD,hi] at h ⊢
 exact h
theorem ready_ex {n:Nat} {listed:Array Bool} (inv:HeadInv md ops n listed) (hback:∀ i o,ops[i]? = some o→∀ e∈o.after,Region.binds md e=true→e.on<i) (hn:n≤ops.size) (hu:unl listed n≠0) :
  ∃ i,i<n∧listed.getD i true=false∧i∈Region.ready md ops listed:=by
 obtain⟨i,hi,h1,h2⟩:=unl_least hu
 refine⟨i,hi,h1,mem_ready.2 ⟨h1,ops[i]'(by omega),by simp,fun e he hb=>?_⟩⟩
 have h3:=hback i _ (by simp) e he hb
 exact getD_false (by rw [inv.size];omega) (h2 _ h3)
def canon (n m:Nat):Array Bool:=(Array.range m).map fun j=>decide (j<n)
theorem eq_canon {n:Nat} {listed:Array Bool} (inv:HeadInv md ops n listed) (hu:unl listed n=0):listed=canon n ops.size:=by
 apply Array.ext
 ·simp [canon,inv.size]
 ·intro i h1 h2
  have h3:(canon n ops.size)[i]=decide (i<n):=by simp [canon]
  rw [h3]
  by_cases h:i<n
  ·have:=unl_zero hu i h
   simp [Array.getD,h1] at this
   simp [this,h]
  ·have:=inv.tail i (by omega) (by rw [←inv.size];exact h1)
   simp [Array.getD,h1] at this
   simp [this,h]
def upd (u:Nat→Value) (i:Nat) (v:Value):Nat→Value:=fun j=>if j=i then v else u j
theorem wpAny_rel {n g:Nat} {hs:List Oper} {a0:Act} {I:World→Prop} {R:Nat→(Nat→Value)→World→Prop} {deps:Nat→List Nat} {Q:Exit→Act→World→Prop}
  (hops:∀ j,j<n→hs[j]? = ops[j]?) (hn:n<ops.size) (hap:apartDsts hs)
  (hs1:Region.sinkB md ops n=true) (hc1:Region.chainB md ops n=true)
  (hback:∀ i o,ops[i]? = some o→∀ e∈o.after,Region.binds md e=true→e.on<i)
  (hdeps:∀ i o,hs[i]? = some o→∀ j∈deps i,j<n∧∃ e∈o.after,Region.binds md e=true∧e.on=j)
  (hloc:∀ j u u' w,(∀ k,(k=j∨k∈deps j)→u k=u' k)→R j u w→R j u' w)
  (obl:∀ i o,hs[i]? = some o→∀ (u:Nat→Value) w,I w→(∀ j∈deps i,R j u w)→
   (Region.wanted o (yielded ops (putAll hs u 0 a0).tmps)=true∧gives P (fun v w'=>R i (upd u i v) w'∧I w'∧∀ j u,j≠i→R j u w→R j u w') ((execOp (putAll hs u 0 a0).eval o).run P w))∨
   (Region.wanted o (yielded ops (putAll hs u 0 a0).tmps)=false∧R i (upd u i undef) w))
  (hend:∀ (u:Nat→Value) w,I w→(∀ j,j<n→R j u w)→wpAny P md ops Q g (canon n ops.size) (putAll hs u 0 a0) w) :
  ∀ (f:Nat) (listed:Array Bool) (u:Nat→Value) (w:World),unl listed n=f→HeadInv md ops n listed→I w→(∀ j,j<n→listed.getD j false=true→R j u w)→
   wpAny P md ops Q (f+g) listed (putAll hs u 0 a0) w:=by
 intro f
 induction f with
 | zero=>
  intro listed u w hf inv hI hR
  rw [Nat.zero_add,eq_canon inv hf]
  refine hend u w hI fun j hj=>hR j hj (getD_false (by rw [inv.size];omega) (unl_zero hf j hj))
 | succ f ih=>
  intro listed u w hf inv hI hR
  obtain⟨k,hk,hku,hkr⟩:=ready_ex inv hback (by omega) (by omega)
  rw [show f+1+g=(f+g)+1 by omega]
  refine⟨fun h=>(by rw [h] at hkr;cases hkr),fun i hi=>?_⟩
  have hin:i<n:=by
   rcases Nat.lt_or_ge i n with h | h
   ·exact h
   ·exact absurd hi (tail_waits hs1 hc1 hn inv _ k rfl hk hku i h)
  obtain⟨hiu,o,ho,hall⟩:=mem_ready.1 hi
  have ho':hs[i]? = some o:=(hops i hin).trans ho
  have hRd:∀ j∈deps i,R j u w:=fun j hj=>by
   obtain⟨hjn,e,he,hb,hon⟩:=hdeps i o ho' j hj
   exact hR j hjn (by rw [←hon];exact hall e he hb)
  have next:∀ v w',R i (upd u i v) w'→I w'→(∀ j u,j≠i→R j u w→R j u w')→wpAny P md ops Q (f+g) (listed.setIfInBounds i true) ((putAll hs u 0 a0).put o.dst v) w':=fun v w' hv hI' hst=>by
   rw [putAll_set hs u 0 i a0 o v hap ho']
   have hil:i<listed.size:=by rw [inv.size];omega
   refine ih _ _ w' (by have:=unl_set hin hiu hil;omega) (inv.set hi hin) hI' fun j hj hl=>?_
   have hup:(fun j=>if j=0+i then v else u j)=upd u i v:=by funext j;simp [upd]
   rw [hup]
   by_cases hji:j=i
   ·subst hji;exact hv
   ·rw [getD_set_ne false (fun h=>hji h.symm)] at hl
    refine hloc j u _ w' (fun q hq=>?_) (hst _ _ hji (hR j hj hl))
    unfold upd
    rw [if_neg ?_]
    rintro rfl
    rcases hq with rfl | hq
    ·exact hji rfl
    ·have hjo:∃ oj,hs[j]? = some oj:=by
      have hlen:=hops j hj
      have:j<ops.size:=by omega
      exact⟨ops[j],by rw [hlen];simp [this]⟩
     obtain⟨oj,hoj⟩:=hjo
     obtain⟨_,e,he,hb,hon⟩:=hdeps j oj hoj q hq
     have h1:=inv.closed j oj ((hops j hj).symm.trans hoj) hl e he hb
     rw [hon,getD_both hiu] at h1
     cases h1
  unfold wpOp
  simp only [ho]
  rcases obl i o ho' u w hI hRd with ⟨hw,hg⟩ | ⟨hw,hv⟩
  ·rw [if_pos hw]
   refine .inl ?_
   unfold Oper.wp
   exact gives_upon (R:=fun v w'=>R i (upd u i v) w'∧I w'∧∀ j u,j≠i→R j u w→R j u w') (fun v w' h=>next v w' h.1 h.2.1 h.2.2) hg
  ·rw [if_neg (by rw [hw];simp)]
   exact next undef w hv hI (fun _ _ _ h=>h)
def relB (md:Region.Mode) (l:List Oper) (n:Nat) (deps:Nat→List Nat):Bool:=
 decide (n<l.length) && Region.sinkB md l.toArray n && Region.chainB md l.toArray n &&
 ((List.range l.length).all fun i=>match l[i]? with | some o=>o.after.all fun e=>!Region.binds md e || decide (e.on<i) | none=>true) &&
 ((List.range n).all fun i=>(List.range i).all fun j=>match l[i]?,l[j]? with | some x,some y=>(match y.dst with | some d=>x.dst != some d | none=>true) | _,_=>true) &&
 ((List.range n).all fun i=>match l[i]? with | some o=>(deps i).all fun j=>decide (j<n) && o.after.any fun e=>Region.binds md e && e.on == j | none=>true) &&
 Region.seqB md l.toArray (l.length - n) n (canon n l.length)
theorem wp_region_rel {id:Nat} {Q:Exit→Act→World→Prop} {a:Act} {w:World} {l:List Oper} (n:Nat) (I:World→Prop) (R:Nat→(Nat→Value)→World→Prop) (deps:Nat→List Nat)
  (hm:P.follows .mixedOrders=true) (hB:relB .any l n deps=true) (hloc:∀ j u u' w,(∀ k,(k=j∨k∈deps j)→u k=u' k)→R j u w→R j u' w) (hI:I w.drew)
  (obl:∀ i o,(l.take n)[i]? = some o→∀ (u:Nat→Value) w,I w→(∀ j∈deps i,R j u w)→
   (Region.wanted o (yielded l.toArray (putAll (l.take n) u 0 a).tmps)=true∧gives P (fun v w'=>R i (upd u i v) w'∧I w'∧∀ j u,j≠i→R j u w→R j u w') ((execOp (putAll (l.take n) u 0 a).eval o).run P w))∨
   (Region.wanted o (yielded l.toArray (putAll (l.take n) u 0 a).tmps)=false∧R i (upd u i undef) w))
  (htail:∀ (u:Nat→Value) w,I w→(∀ j,j<n→R j u w)→wpList P l.toArray Q (l.drop n) (putAll (l.take n) u 0 a) w):(Code.region id l.toArray true).wp P Q a w:=by
 simp only [relB,Bool.and_eq_true,decide_eq_true_eq,List.all_eq_true,List.mem_range] at hB
 obtain⟨⟨⟨⟨⟨⟨hn,hs1⟩,hc1⟩,hback⟩,hap⟩,hdeps⟩,hseq⟩:=hB
 have hsz:l.toArray.size=l.length:=by simp
 refine wp_region_any hm ?_
 have hown:putAll (l.take n) (fun j=>slotOf a (((l.take n)[j]?).bind (·.dst))) 0 a=a:=putAll_own _ 0 a _ fun j o ho=>by simp only [Nat.zero_add];rw [ho];rfl
 have hu0:unl (Array.replicate l.toArray.size false) n=n:=by
  have key:∀ m,m≤l.length→unl (Array.replicate l.toArray.size false) m=m:=by
   intro m
   induction m with
   | zero=>intro _;rfl
   | succ m ih=>
    intro h
    unfold unl
    rw [ih (by omega),if_neg (by simp [Array.getD,show m<l.length by omega])]
  exact key n (by omega)
 have inv0:HeadInv .any l.toArray n (Array.replicate l.toArray.size false):=
  ⟨by simp,fun j oj _ hl=>(by rw [getD_replicate_false] at hl;cases hl),fun t _ ht=>getD_in (by simpa using ht) (getD_replicate_false _ _)⟩
 have H:=wpAny_rel (P:=P) (ops:=l.toArray) (md:=.any) (n:=n) (g:=l.length - n) (hs:=l.take n) (a0:=a) (I:=I) (R:=R) (deps:=deps) (Q:=Q)
  (fun j hj=>by simp [List.getElem?_take_of_lt hj]) (by simpa using hn)
  (List.pairwise_iff_getElem.2 fun i j hi hj hij d hd=>by
   have hi':i<l.length:=by simp at hi;omega
   have hj':j<l.length:=by simp at hj;omega
   have hjn:j<n:=by simp at hj;omega
   have:=hap j hjn i hij
   rw [List.getElem?_eq_getElem hj',List.getElem?_eq_getElem hi'] at this
   simp only [List.getElem_take] at hd ⊢
   simp only [hd] at this
   simpa using this)
  hs1 hc1
  (fun i o ho e he hb=>by
   have ho':l[i]? = some o:=by simpa using ho
   have hil:i<l.length:=(List.getElem?_eq_some_iff.1 ho').1
   have:=hback i hil
   rw [ho'] at this
   have:=Array.all_eq_true'.1 this e he
   simpa [hb] using this)
  (fun i o ho j hj=>by
   have hin:i<n:=by have:=(List.getElem?_eq_some_iff.1 ho).1;simp at this;omega
   have ho':l[i]? = some o:=by rw [List.getElem?_take_of_lt hin] at ho;exact ho
   have:=hdeps i hin
   rw [ho'] at this
   have:=List.all_eq_true.1 this j hj
   simp only [Bool.and_eq_true,decide_eq_true_eq] at this
   obtain⟨e,he,hb⟩:=Array.any_eq_true'.1 this.2
   simp only [Bool.and_eq_true,beq_iff_eq] at hb
   exact⟨this.1,e,he,hb.1,hb.2⟩)
  hloc obl
  (fun u w' hI' hR=>by
   have:=wpAny_of_seq (md:=.any) (Q':=Q) (l.drop n) n (canon n l.toArray.size) (putAll (l.take n) u 0 a) w' (fun j=>by simp [List.getElem?_drop]) (by rw [List.length_drop,hsz];exact hseq) (htail u w' hI' hR)
   rwa [List.length_drop] at this)
  n (Array.replicate l.toArray.size false) (fun j=>slotOf a (((l.take n)[j]?).bind (·.dst))) w.drew hu0 inv0 hI (fun j _ hl=>by rw [getD_replicate_false] at hl;cases hl)
 rw [hown,show n+(l.length - n)=l.length by omega] at H
 rw [hsz]
 exact H
def mask (ds:List Nat) (j:Nat) (u:Nat→Value):Nat→Value:=fun k=>if k=j∨k∈ds then u k else undef
theorem mask_congr {ds:List Nat} {j:Nat} {u u':Nat→Value} (h:∀ k,(k=j∨k∈ds)→u k=u' k):mask ds j u=mask ds j u':=by
 funext k
 unfold mask
 split
 ·rename_i hk;exact h k hk
 ·rfl
def relObl (P : Program) (ops : Array Oper) (W : World) (R : Nat → (Nat → Value) → World → Prop) (deps : Nat → List Nat) (hs : List Oper) (a0 : Act) : List Oper → Nat → Prop
  | [], _ => True
  | o :: r, i => (∀ (u : Nat → Value) w, RowKit.Below W.heap.size W w → (∀ j ∈ deps i, R j (mask (deps j) j u) w) →
      (Region.wanted o (yielded ops (putAll hs u 0 a0).tmps) = true ∧ gives P (fun v w' => R i (mask (deps i) i (upd u i v)) w' ∧ RowKit.Below w.heap.size w w') ((execOp (putAll hs u 0 a0).eval o).run P w)) ∨
      (Region.wanted o (yielded ops (putAll hs u 0 a0).tmps) = false ∧ R i (mask (deps i) i (upd u i undef)) w)) ∧ relObl P ops W R deps hs a0 r (i + 1)
theorem relObl_get {W:World} {R:Nat→(Nat→Value)→World→Prop} {deps:Nat→List Nat} {hs:List Oper} {a0:Act}:∀ (l:List Oper) (k:Nat),relObl P ops W R deps hs a0 l k→∀ j o,l[j]? = some o→
  (∀ (u:Nat→Value) w,RowKit.Below W.heap.size W w→(∀ i∈deps (k+j),R i (mask (deps i) i u) w)→
   (Region.wanted o (yielded ops (putAll hs u 0 a0).tmps)=true∧gives P (fun v w'=>R (k+j) (mask (deps (k+j)) (k+j) (upd u (k+j) v)) w'∧RowKit.Below w.heap.size w w') ((execOp (putAll hs u 0 a0).eval o).run P w))∨
   (Region.wanted o (yielded ops (putAll hs u 0 a0).tmps)=false∧R (k+j) (mask (deps (k+j)) (k+j) (upd u (k+j) undef)) w))
 | [],_,_,j,o,h=>by simp at h
 | x :: r,k,h,j,o,ho=>by
  cases j with
  | zero=>
   simp only [List.getElem?_cons_zero,Option.some.injEq] at ho
   subst ho
   exact h.1
  | succ j=>
   have:=relObl_get r (k+1) h.2 j o (by simpa using ho)
   rw [show k+1+j=k+(j+1) by omega] at this
   exact this
theorem gives_mono {P:Program} {R R':Value→World→Prop} (h:∀ v w,R v w→R' v w):∀ {r:Result Next},gives P R r→gives P R' r
 | .ok (.value _) _,hr=>h _ _ hr
 | .ok .skip _,hr=>h _ _ hr
 | .ok (.enter _ _) _,hr=>Calls.mono hr fun _ _ ⟨v,h1,h2⟩=>⟨v,h1,h _ _ h2⟩
theorem wp_region_relB {id:Nat} {Q:Exit→Act→World→Prop} {a:Act} {w:World} {l:List Oper} (n:Nat) (R:Nat→(Nat→Value)→World→Prop) (deps:Nat→List Nat)
  (hm:P.follows .mixedOrders=true) (hB:relB .any l n deps=true) (hst:∀ j u w w',RowKit.Below w.heap.size w w'→R j u w→R j u w')
  (obl:relObl P l.toArray w.drew R deps (l.take n) a (l.take n) 0)
  (htail:∀ (u:Nat→Value) w',RowKit.Below w.drew.heap.size w.drew w'→(∀ j,j<n→R j (mask (deps j) j u) w')→wpList P l.toArray Q (l.drop n) (putAll (l.take n) u 0 a) w'):(Code.region id l.toArray true).wp P Q a w:=by
 refine wp_region_rel n (fun w'=>RowKit.Below w.drew.heap.size w.drew w') (fun j u w=>R j (mask (deps j) j u) w) deps hm hB (fun j u u' w h hR=>by rw [←mask_congr h];exact hR) (RowKit.Below.refl _ _) (fun i o ho u w' hI hd=>?_) htail
 have h:=relObl_get (l.take n) 0 obl i o ho u w' hI (by rw [Nat.zero_add];exact hd)
 rw [Nat.zero_add] at h
 rcases h with ⟨h1,h2⟩ | h
 ·exact .inl ⟨h1,gives_mono (fun v w'' ⟨g1,g2⟩=>⟨g1,below_then hI g2,fun j u _ hj=>hst j _ _ _ g2 hj⟩) h2⟩
 ·exact .inr h
def owes (P:Program) (ops:Array Oper) (Ri:Value→World→Prop) (A:Act) (o:Oper) (w:World):Prop:=
 (Region.wanted o (yielded ops A.tmps)=true∧gives P (fun v w'=>Ri v w'∧RowKit.Below w.heap.size w w') ((execOp A.eval o).run P w))∨(Region.wanted o (yielded ops A.tmps)=false∧Ri undef w)
theorem owes_here {Ri:Value→World→Prop} {A:Act} {o:Oper} {w:World} (v:Value) (hg:o.guard=none) (h:(execOp A.eval o).run P w=.ok (.value v) w) (hR:Ri v w):owes P ops Ri A o w:=
 .inl ⟨by simp [Region.wanted,hg],by rw [h];exact⟨hR,RowKit.Below.refl _ _⟩⟩
theorem owes_call {Ri:Value→World→Prop} {A:Act} {o:Oper} {w:World} (f:FuncId) (args:Array Value) (hg:o.guard=none) (h:(execOp A.eval o).run P w=.ok (.enter f args) w)
  (hc:Calls P f args w fun e w'=>∃ v,e=.returned v∧Ri v w'∧RowKit.Below w.heap.size w w'):owes P ops Ri A o w:=
 .inl ⟨by simp [Region.wanted,hg],by rw [h];exact hc⟩
theorem owes_makes {Ri:Value→World→Prop} {A:Act} {o:Oper} {w w':World} (v:Value) (hg:o.guard=none) (h:(execOp A.eval o).run P w=.ok (.value v) w') (hR:Ri v w') (hb:RowKit.Below w.heap.size w w'):owes P ops Ri A o w:=
 .inl ⟨by simp [Region.wanted,hg],by rw [h];exact⟨hR,hb⟩⟩
theorem else_of {c:Prop} [Decidable c] {A B:Prop} (h:¬c) (q:B):if c then A else B:=by rw [if_neg h];exact q
theorem then_of {c:Prop} [Decidable c] {A B:Prop} (h:c) (q:A):if c then A else B:=by rw [if_pos h];exact q
def owesK (P:Program) (ops:Array Oper) (Ri:Value→World→Prop) (Ki:World→World→Prop) (A:Act) (o:Oper) (w:World):Prop:=
 (Region.wanted o (yielded ops A.tmps)=true∧gives P (fun v w'=>Ri v w'∧Ki w w') ((execOp A.eval o).run P w))∨(Region.wanted o (yielded ops A.tmps)=false∧Ri undef w)
def relOblK (P:Program) (ops:Array Oper) (I:World→Prop) (K:Nat→World→World→Prop) (R:Nat→(Nat→Value)→World→Prop) (deps:Nat→List Nat) (hs:List Oper) (a0:Act):List Oper→Nat→Prop
 | [],_=>True
 | o :: r,i=>(∀ (u:Nat→Value) w,I w→(∀ j∈deps i,R j (mask (deps j) j u) w)→owesK P ops (fun v w'=>R i (mask (deps i) i (upd u i v)) w') (K i) (putAll hs u 0 a0) o w)∧relOblK P ops I K R deps hs a0 r (i+1)
theorem relOblK_get {I:World→Prop} {K:Nat→World→World→Prop} {R:Nat→(Nat→Value)→World→Prop} {deps:Nat→List Nat} {hs:List Oper} {a0:Act}:∀ (l:List Oper) (k:Nat),relOblK P ops I K R deps hs a0 l k→∀ j o,l[j]? = some o→
  (∀ (u:Nat→Value) w,I w→(∀ i∈deps (k+j),R i (mask (deps i) i u) w)→owesK P ops (fun v w'=>R (k+j) (mask (deps (k+j)) (k+j) (upd u (k+j) v)) w') (K (k+j)) (putAll hs u 0 a0) o w)
 | [],_,_,j,o,h=>by simp at h
 | x :: r,k,h,j,o,ho=>by
  cases j with
  | zero=>
   simp only [List.getElem?_cons_zero,Option.some.injEq] at ho
   subst ho
   exact h.1
  | succ j=>
   have:=relOblK_get r (k+1) h.2 j o (by simpa using ho)
   rw [show k+1+j=k+(j+1) by omega] at this
   exact this
theorem owesK_here {Ri:Value→World→Prop} {Ki:World→World→Prop} {A:Act} {o:Oper} {w:World} (v:Value) (hg:o.guard=none) (h:(execOp A.eval o).run P w=.ok (.value v) w) (hR:Ri v w) (hk:Ki w w):owesK P ops Ri Ki A o w:=
 .inl ⟨by simp [Region.wanted,hg],by rw [h];exact⟨hR,hk⟩⟩
theorem owesK_call {Ri:Value→World→Prop} {Ki:World→World→Prop} {A:Act} {o:Oper} {w:World} (f:FuncId) (args:Array Value) (hg:o.guard=none) (h:(execOp A.eval o).run P w=.ok (.enter f args) w)
  (hc:Calls P f args w fun e w'=>∃ v,e=.returned v∧Ri v w'∧Ki w w'):owesK P ops Ri Ki A o w:=
 .inl ⟨by simp [Region.wanted,hg],by rw [h];exact hc⟩
theorem owesK_makes {Ri:Value→World→Prop} {Ki:World→World→Prop} {A:Act} {o:Oper} {w w':World} (v:Value) (hg:o.guard=none) (h:(execOp A.eval o).run P w=.ok (.value v) w') (hR:Ri v w') (hk:Ki w w'):owesK P ops Ri Ki A o w:=
 .inl ⟨by simp [Region.wanted,hg],by rw [h];exact⟨hR,hk⟩⟩
end
end Go.Proofs.YtnnceaapodgfbaaGreatDoor
namespace Go.Proofs.YtnnceaapodgfbaaGreatDoor
open Go.RowKit
structure Touch (g:Nat) (w W:World):Prop where
 os:W.os=w.os
 tape:W.tape=w.tape
 output:W.output=w.output
 size:W.heap.size=w.heap.size
 other:∀ b,b≠g→W.heap[b]? = w.heap[b]?
section
variable {g B : Nat} {a w W : World}
theorem Touch.below (h:Touch g w W) (hb:Below B a w) (hg:B≤g):Below B a W:=
 hb.trans ⟨h.os,h.tape,h.output,by rw [h.size];exact Nat.le_refl _,fun k hk=>h.other k (by omega)⟩
theorem Touch.block (h:Touch g w W) {b:Nat} {x:Obj} (hx:w.heap[b]? = some x) (hne:b≠g):W.heap[b]? = some x:=(h.other b hne).trans hx
theorem below_block (h:Below w.heap.size w W) {b:Nat} {x:Obj} (hx:w.heap[b]? = some x):W.heap[b]? = some x:=by
 have hb:b<w.heap.size:=by
  rcases Nat.lt_or_ge b w.heap.size with h1 | h1
  ·exact h1
  ·rw [Array.getElem?_eq_none h1] at hx;cases hx
 exact (h.block b hb).trans hx
theorem touch_setRow (w:World) (g:Nat) (cs:Array Value):Touch g w (w.setRow g cs):=⟨rfl,rfl,rfl,by simp,fun b hb=>setRow_other w g b cs hb⟩
theorem OwnAt.touch {α:Type} {R:Rd α} {k:Nat} {e:TypeId} {v:Value} {l:List α} (hf:Flat R) (h:OwnAt R k w B e v l) (ht:Touch g w W) (hne:∀ q,v.ownBlock=some q→q≠g):OwnAt R k W B e v l:=by
 obtain⟨css,h1,h2,h3,h4⟩:=h
 refine⟨css,h1,h2,⟨h3.1,?_⟩,fun j cs y hcs hy=>hf _ _ _ _ (h4 j cs y hcs hy)⟩
 rcases h3.2 with h5 | ⟨q,cap,cur,rfl,hB,hh,hr⟩
 ·exact .inl h5
 ·exact .inr ⟨q,cap,cur,rfl,hB,(ht.other q (hne q rfl)).trans hh,hr⟩
end
section
variable {P : Program} {ops : Array Oper} {rest : List Oper} {o : Oper} {a : Act} {w : World} {Q : Exit → Act → World → Prop}
theorem at_last {l:List Oper} {K:Act→World→Prop} (hK:∀ a w,wpList P ops Q l a w→K a w) (h:wpList P ops Q l a w):K a w:=hK _ _ h
theorem wpList_store_box (hgd:o.guard=none) (ty:TypeId) (x y:Operand) (ho:o.op=.store ty x y) (g:Nat) (cells:Array Value) (hx:a.eval x=.pointer (some ⟨g,0,none⟩)) (hy:a.eval y=.agg cells)
  (t:TypeId) (old:Array Value) (hg:w.heap[g]? = some (.cells old t (0,0))) (hi:(P.info? ty).map (·.size)=some cells.size) (hold:old.size=cells.size) (h1:cells.all (·.oneCell')=true)
  (h:∀ W,W.heap[g]? = some (.cells cells t (0,0))→Touch g w W→wpList P ops Q rest (a.put o.dst undef) W):wpList P ops Q (o :: rest) a w:=
 wpList_store_row hgd ty x y ho g cells hx hy t old hg hi hold h1 (h _ (setRow_heap w g old cells t (0,0) hg) (touch_setRow w g cells))
theorem wpList_copy_box {o2:Oper} (hgd:o.guard=none) (ty:TypeId) (x:Operand) (ho:o.op=.load ty x) (hgd2:o2.guard=none) (y z:Operand) (ho2:o2.op=.store ty y z) (g1 g2:Nat) (hx:a.eval x=.pointer (some ⟨g1,0,none⟩))
  (t1:TypeId) (cells:Array Value) (fr:Nat × Nat) (d:TypeDesc) (hg1:w.heap[g1]? = some (.cells cells t1 fr)) (hy:(a.put o.dst (.agg cells)).eval y=.pointer (some ⟨g2,0,none⟩)) (hz:(a.put o.dst (.agg cells)).eval z=.agg cells)
  (t:TypeId) (old:Array Value) (hg:w.heap[g2]? = some (.cells old t (0,0))) (hu:P.underlying ty=some d) (hd:(match d with | .struct _ | .array _ _=>true | _=>false)=true)
  (hi:(P.info? ty).map (·.size)=some cells.size) (hold:old.size=cells.size) (h1:cells.all (·.oneCell')=true)
  (h:∀ W,W.heap[g2]? = some (.cells cells t (0,0))→Touch g2 w W→wpList P ops Q rest ((a.put o.dst (.agg cells)).put o2.dst undef) W):wpList P ops Q (o :: o2 :: rest) a w:=
 wpList_load_row hgd ty x ho g1 hx t1 cells fr d hg1 hu hd hi (wpList_store_box hgd2 ty y z ho2 g2 cells hy hz t old hg hi hold h1 h)
theorem touch_setCell {g i:Nat} {cs:Array Value} {t:TypeId} {v:Value} (hg:w.heap[g]? = some (.cells cs t (0,0))):(w.setCell ⟨g,i,none⟩ v).heap[g]? = some (.cells (cs.setIfInBounds i v) t (0,0))∧Touch g w (w.setCell ⟨g,i,none⟩ v):=by
 rw [setCell_eq_setRow w g i cs t (0,0) v hg]
 exact⟨setRow_heap w g _ _ t _ hg,touch_setRow w g _⟩
theorem results_two_box {fn:Func} {p q:Tmp} {ty:TypeId} (h:fn.results=#[.cell p ty,.tmp q]) (tmps:Array Value) (w:World) (g:Nat) (t:TypeId) (cs:Array Value) (fr:Nat × Nat) (d:TypeDesc)
  (hp:tmps.getD p undef=.pointer (some ⟨g,0,none⟩)) (hg:w.heap[g]? = some (.cells cs t fr))
  (hu:P.underlying ty=some d) (hd:(match d with | .struct _ | .array _ _=>true | _=>false)=true) (hi:(P.info? ty).map (·.size)=some cs.size) :
  (results fn tmps).run P w=.ok (.tuple #[.agg cs,tmps.getD q undef]) w:=by
 have hp':tmps[p]?.getD undef=.pointer (some ⟨g,0,none⟩):=by simpa using hp
 simp [results,h,hp',asAddr,run_loadVar_row w g t ty cs fr d hg hu hd hi]
end
theorem flat_set {β:Type} {k:Nat}:∀ {css:List (List β)},(∀ cs∈css,cs.length=k)→∀ {j i:Nat} {cs:List β} (u:β),css[j]? = some cs→i<k→css.flatten.set (j*k+i) u=(css.set j (cs.set i u)).flatten
 | [],_,j,i,cs,u,h,_=>by simp at h
 | c :: r,hk,j,i,cs,u,h,hi=>by
  have hc:c.length=k:=hk c (List.mem_cons_self ..)
  cases j with
  | zero=>
   simp only [List.getElem?_cons_zero,Option.some.injEq] at h
   subst h
   rw [List.flatten_cons,List.set_cons_zero,List.flatten_cons,Nat.zero_mul,Nat.zero_add,List.set_append_left _ _ (by omega)]
  | succ j=>
   rw [List.flatten_cons,List.set_cons_succ,List.flatten_cons,List.set_append_right _ _ (by rw [Nat.add_mul];omega),show (j+1)*k+i - c.length=j*k+i by rw [Nat.add_mul];omega,
    flat_set (fun cs hcs=>hk cs (List.mem_cons_of_mem _ hcs)) u (by simpa using h) hi]
theorem OwnAt.store {α:Type} {R:Rd α} {k:Nat} {l:List α} {B:Nat} {e:TypeId} (hf:Flat R) {w:World} {g c n:Nat} (h:OwnAt R k w B e (.slice (some ⟨g,0,none⟩) n c) l) {j i:Nat} {x x':α} (hj:l[j]? = some x) (hi:i<k) (u:Value) (hR:∀ cs,R w cs x→R w (cs.set i u) x') :
  OwnAt R k (w.setCell ⟨g,j*k+i,none⟩ u) B e (.slice (some ⟨g,0,none⟩) n c) (l.set j x')∧Touch g w (w.setCell ⟨g,j*k+i,none⟩ u):=by
 obtain⟨css,h1,h2,h3,h4⟩:=h
 have hjl:=(List.getElem?_eq_some_iff.1 hj).1
 have hcs:css[j]? = some (css[j]'(by omega)):=List.getElem?_eq_getElem _
 have hck:(css[j]'(by omega)).length=k:=h2 _ (List.getElem_mem _)
 rcases h3.2 with ⟨h5,_⟩ | ⟨g',cap,cur,hv,hB,hh,hle,hm,hz,ht⟩
 ·cases h5
 ·cases hv
  obtain⟨t1,t2⟩:=touch_setCell (i:=j*k+i) (v:=u) hh
  refine⟨⟨css.set j ((css[j]'(by omega)).set i u),by simp [h1],fun cs hcs'=>?_,?_,fun q cs y hq hy=>?_⟩,t2⟩
  ·rcases List.mem_or_eq_of_mem_set hcs' with h6 | h6
   ·exact h2 cs h6
   ·rw [h6,List.length_set];exact hck
  ·rw [List.length_set]
   refine⟨?_,.inr ⟨g,c,_,rfl,hB,t1,hle,hm,by simpa using hz,?_⟩⟩
   ·rw [←flat_set h2 u hcs hi,List.length_set];exact h3.1
   ·rw [←flat_set h2 u hcs hi,←ht,Array.toList_setIfInBounds,List.take_set]
  ·by_cases hqj:j=q
   ·subst hqj
    rw [List.getElem?_set,if_pos rfl,if_pos (by omega)] at hq hy
    cases hq;cases hy
    exact hf _ _ _ _ (hR _ (h4 j _ x hcs hj))
   ·rw [List.getElem?_set,if_neg hqj] at hq hy
    exact hf _ _ _ _ (h4 q cs y hq hy)
end Go.Proofs.YtnnceaapodgfbaaGreatDoor
namespace Go.Proofs.YtnnceaapodgfbaaGreatDoor
open Go.RowKit
def SeqEach {α:Type} (F:Fence) (n:Nat) (P:Program) (gf:Nat) (lb:Array Value) (enc:α→Value) (xs:List α) (bs b3 n0:Nat) (w:World):Prop:=
 ∀ (l:Nat) (J:List α→World→Prop) (W:World),(∀ k,k<n0→W.heap[k]? = w.heap[k]?)→(∀ pre A B,J pre A→Touch bs A B→J pre B)→
  (∀ pre x W1,J pre W1→pre.length<xs.length→YieldAt F (n - 1) P l #[enc x] W1 fun e W'=>e=.returned (.bool true)∧J (pre++[x]) W'∧∀ k,k<n0→k≠b3→W'.heap[k]? = W1.heap[k]?)→
  J [] W→CallsIn F n P gf (#[.func (.yield l) #[] #[]]++lb) W fun e W'=>(∃ v,e=.returned v)∧J xs W'
def eachPost {α:Type} (I:List α→World→Prop) (xs:List α) (b3:Nat) (W:World):Exit→Act→World→Prop
 | .normal,_,W'=>I xs W'∧W.heap.size≤W'.heap.size∧∀ k,k<W.heap.size→k≠b3→W'.heap[k]? = W.heap[k]?
 | _,_,_=>False
theorem below_putObj {B:Nat} (W:World) (l:Nat) (o:Obj) (h:B≤l):Below B W (W.putObj l o):=
 ⟨rfl,rfl,rfl,by simp,fun k hk=>World.putObj_heap_other (by omega)⟩
theorem wpIn_range_each {α:Type} {F:Fence} {n:Nat} {P:Program} {g:Operand} {p:Tmp} {assign body:Code} {Q:Exit→Act→World→Prop} {a:Act} {w:World}
  (hro:F.round=none) (h1:1≤n) {gf:Nat} {lb:Array Value} (hg:a.eval g=.func (.func gf) #[] lb) (hFg:F.fn gf) (eg:∀ args w,(callFunc gf args).run P w=.ok (.enter gf args) w)
  {enc:α→Value} {xs:List α} {bs b3:Nat} (hbs:bs<w.heap.size) (hb3:b3<w.heap.size) (hseq:SeqEach F (n - 1) P gf lb enc xs bs b3 w.heap.size w)
  (I:List α→World→Prop) (hI:∀ pre A B,I pre A→Below w.heap.size A B→I pre B) (hIs:∀ pre A B,I pre A→Touch bs A B→I pre B) (h0:I [] w) (a₁:α→Act)
  (hassign:∀ (l:Nat) (x:α) (W:World) (K:Act→World→Prop),K (a₁ x) W→
   assign.wpIn (F.inRound l) (n - 1 - 1) P (Exit.then K (fun _ _ _=>False)) {tmps:=a.tmps.setIfInBounds p (enc x),defers:=[]} W)
  (hbody:∀ (l:Nat) (pre:List α) (x:α) (W:World),I pre W→pre.length<xs.length→body.wpIn (F.inRound l) (n - 1 - 1) P (eachPost I (pre++[x]) b3 W) (a₁ x) W)
  (hdone:∀ (D:Nat) (W:World),I xs W→W.heap[D]? = some (.deferred (some []))→w.heap.size≤D→Q .normal {a with defers:={target:=.collected D,args:=#[]} :: a.defers} W) :
  (Code.rangeFunc g #[p] assign body).wpIn F n P Q a w:=by
 refine wpIn_rangeFunc ?_
 intro fn hfn
 rw [hro]
 obtain⟨rec,hrec⟩:∃ rec:LoopState→Loop,rec=fun st=>{state:=st,pending:=none,fn,tmps:=a.tmps,params:=#[p],assign,body,defers:=w.heap.size}:=⟨_,rfl⟩
 obtain⟨W1,hW1⟩:∃ W1,(w.alloc (.deferred (some []))).alloc (.loop (rec .ready))=W1:=⟨_,rfl⟩
 have hL1:W1.heap[w.heap.size+1]? = some (.loop (rec .ready)):=by
  rw [←hW1];have:=World.alloc_heap_new (w.alloc (.deferred (some []))) (.loop (rec .ready));rwa [World.size_alloc] at this
 have hK1:W1.heap[w.heap.size]? = some (.deferred (some [])):=by
  rw [←hW1];exact (Below.heap_alloc _ _ _ (by simp)).trans (World.alloc_heap_new w _)
 have hB1:Below w.heap.size w W1:=by
  rw [←hW1];exact ((Below.refl _ w).alloc (Nat.le_refl _) _).alloc (by simp) _
 refine⟨w.heap.size+1,[{target:=.collected w.heap.size,args:=#[]}],W1,{target:=.fn (.func gf) lb,args:=#[.func (.yield (w.heap.size+1)) #[] #[]]},W1,gf,
  #[.func (.yield (w.heap.size+1)) #[] #[]]++lb,W1,?_,?_,?_,?_,fun _=>h1,?_⟩
 ·rw [←hW1,hrec];exact run_enterLoop_outer _ _ _ _ _
 ·simp only [resolve,hg]
  simp [go_sem]
 ·intro f' hf';simp [Target.leads] at hf';subst hf';exact hFg
 ·simp [invoke,go_sem,eg]
 ·refine (hseq (w.heap.size+1) (fun pre W=>I pre W∧W.heap[w.heap.size+1]? = some (.loop (rec .ready))∧W.heap[w.heap.size]? = some (.deferred (some []))) W1
   (fun k hk=>hB1.block k hk) (fun pre A B h ht=>⟨hIs pre A B h.1 ht,(ht.other _ (by omega)).trans h.2.1,(ht.other _ (by omega)).trans h.2.2⟩) ?_ ⟨hI _ _ _ h0 hB1,hL1,hK1⟩).mono ?_
  ·rintro pre x W ⟨hi,hl,hk⟩ hlen
   have hlt:w.heap.size+1<W.heap.size:=(Array.getElem?_eq_some_iff.1 hl).1
   have hy:=run_yield (P:=P) (args:=#[enc x]) hl (by rw [hrec];rfl)
   rw [hrec] at hy
   have hz:(Array.zip #[p] #[enc x]).foldl (fun (t:Array Value) (q:Tmp × Value)=>t.setIfInBounds q.1 q.2) a.tmps=a.tmps.setIfInBounds p (enc x):=by simp
   simp only [] at hy
   rw [hz] at hy
   refine⟨fn,_,assign,body,hy,roundIn_of_wpIn hfn ?_⟩
   refine hassign _ x W _ ?_
   refine⟨_,run_beginRound hl (by rw [hrec]),?_⟩
   obtain⟨W2,hW2⟩:∃ W2,W.putObj (w.heap.size+1) (.loop {rec .ready with state:=.busy})=W2:=⟨_,rfl⟩
   have hl2:W2.heap[w.heap.size+1]? = some (.loop {rec .ready with state:=.busy}):=by rw [←hW2];exact World.putObj_heap_same hlt
   have hk2:W2.heap[w.heap.size]? = some (.deferred (some [])):=by rw [←hW2];exact (World.putObj_heap_other (by omega)).trans hk
   have hB2:Below w.heap.size W W2:=by rw [←hW2];exact below_putObj W _ _ (by omega)
   have hs2:W2.heap.size=W.heap.size:=by rw [←hW2];simp
   rw [hW2]
   refine wpIn_mono (hbody _ pre x _ (hI _ _ _ hi hB2) hlen) ?_
   rintro e a3 W3 hp
   cases e with
   | normal=>
    obtain⟨hi3,hs3,hk3⟩:=hp
    have hl3:W3.heap[w.heap.size+1]? = some (.loop {rec .ready with state:=.busy}):=(hk3 _ (by omega) (by omega)).trans hl2
    have hd3:W3.heap[w.heap.size]? = some (.deferred (some [])):=(hk3 _ (by omega) (by omega)).trans hk2
    have he:=run_endRound (P:=P) none hl3
    refine⟨_,_,he,rfl,⟨hI _ _ _ hi3 (below_putObj W3 _ _ (by omega)),?_,(World.putObj_heap_other (by omega)).trans hd3⟩,fun k hk hne=>?_⟩
    ·rw [World.putObj_heap_same (Array.getElem?_eq_some_iff.1 hl3).1,hrec];rfl
    ·rw [World.putObj_heap_other (by omega),hk3 k (by omega) hne]
     exact hB2.block k hk
   | ret=>exact hp.elim
   | exit id=>exact hp.elim
   | goto t=>exact hp.elim
   | panic ch=>exact hp.elim
   | outgrown=>exact hp.elim
  ·rintro e W2 ⟨⟨v,rfl⟩,hi,hl,hk⟩
   have he:=run_endLoop (P:=P) hl (by rw [hrec];simp)
   rw [hrec] at he
   refine⟨none,_,he,hdone _ _ (hI _ _ _ hi (below_putObj W2 _ _ (by omega))) ((World.putObj_heap_other (by omega)).trans hk) (Nat.le_refl _)⟩
end Go.Proofs.YtnnceaapodgfbaaGreatDoor
namespace Go.Proofs.YtnnceaapodgfbaaGreatDoor
open Go Go.Lib
end Go.Proofs.YtnnceaapodgfbaaGreatDoor
namespace Go.Proofs.YtnnceaapodgfbaaGreatDoor
open Go Go.Lib
def splitL (c:UInt8):List UInt8→List (List UInt8)
 | []=>[[]]
 | x :: r=>if x=c then [] :: splitL c r else match splitL c r with
  | h :: t=>(x :: h) :: t
  | []=>[[x]]
theorem splitL_one (c:UInt8):∀ p:List UInt8,c∉p→splitL c p = [p]
 | [],_=>rfl
 | x :: r,h=>by
  rw [splitL,if_neg (fun e=>h (by rw [e];exact List.mem_cons_self ..)),splitL_one c r fun hm=>h (List.mem_cons_of_mem _ hm)]
theorem splitL_cut (c:UInt8) (s:List UInt8):∀ p:List UInt8,c∉p→splitL c (p++c :: s)=p :: splitL c s
 | [],_=>by rw [List.nil_append,splitL,if_pos rfl]
 | x :: r,h=>by
  rw [List.cons_append,splitL,if_neg (fun e=>h (by rw [e];exact List.mem_cons_self ..)),splitL_cut c s r fun hm=>h (List.mem_cons_of_mem _ hm)]
end Go.Proofs.YtnnceaapodgfbaaGreatDoor
namespace Go.Proofs.YtnnceaapodgfbaaGreatDoor
open Go.RowKit
attribute [local go_sem] Oper.semAt_some
theorem splitL_miss {c:UInt8} {l:List UInt8} (h:Lib.indexByte l c = -1):splitL c l = [l]:=by
 refine splitL_one c l fun hm=>?_
 obtain⟨k,hk⟩:=List.getElem?_of_mem hm
 exact Lib.indexByte_none h k hk
def partsB (c:UInt8) (s:ByteArray):List ByteArray:=(splitL c s.data.toList).map fun l=>⟨l.toArray⟩
theorem partsB_miss {c:UInt8} {s:ByteArray} (h:Lib.indexByte s.data.toList c = -1):partsB c s = [s]:=by
 unfold partsB
 rw [splitL_miss h]
 simp
theorem partsB_hit {c:UInt8} {s:ByteArray} {i:Nat} (h:Lib.indexByte s.data.toList c=(i:Int)):partsB c s=s.extract 0 i :: partsB c (s.extract (i+1) s.size):=by
 obtain⟨h1,h2⟩:=Lib.indexByte_some h
 have h3:s.data.toList=s.data.toList.take i++c :: s.data.toList.drop (i+1):=by
  obtain⟨hl,he⟩:=List.getElem?_eq_some_iff.1 h1
  rw [←he,←List.drop_eq_getElem_cons hl,List.take_append_drop]
 have h4:c∉s.data.toList.take i:=fun hm=>by
  obtain⟨k,hk⟩:=List.getElem?_of_mem hm
  have hki:k<i:=by have:=(List.getElem?_eq_some_iff.1 hk).1;simp at this;omega
  rw [List.getElem?_take_of_lt hki] at hk
  exact h2 k hki hk
 unfold partsB
 rw [h3,splitL_cut c _ _ h4,List.map_cons]
 congr 1
 ·apply ByteArray.ext
  rw [ByteArray.data_extract]
  apply Array.toList_inj.1
  simp
 ·congr 2
  rw [Lib.extract_to_end]
def leftS (b:Nat) (W:World):Nat:=match W.cell? ⟨b,0,none⟩ with
 | some (.string r)=>r.size+1
 | _=>0
set_option maxRecDepth 100000 in
set_option maxHeartbeats 2000000 in
theorem splitSeq_each (n:Nat) (hn:1≤n) (s:ByteArray) (c:UInt8) (bs bsep bsv b3 n0:Nat) (w:World) (hbs:w.heap[bs]? = some (.cells #[.string s] 9 (0,0))) (hsep:w.heap[bsep]? = some (.cells #[.string ⟨#[c]⟩] 9 (0,0)))
  (hsv:w.heap[bsv]? = some (.cells #[.int .i64 0] 3 (0,0))) (h1:bs<n0∧bs≠b3) (h2:bsep<n0∧bsep≠b3∧bsep≠bs) (h3:bsv<n0∧bsv≠b3∧bsv≠bs) (hs:s.size≤8388608) :
  SeqEach Fence.wide n Tryz.prog 176 #[.pointer (some ⟨bsep,0,none⟩),.pointer (some ⟨bs,0,none⟩),.pointer (some ⟨bsv,0,none⟩)] Value.string (partsB c s) bs b3 n0 w:=by
 intro l J W hW hJt hY h0
 have wbs:=cell_block ((hW bs h1.1).trans hbs)
 have wsep:=cell_block ((hW bsep h2.1).trans hsep)
 have wsv:=cell_block ((hW bsv h3.1).trans hsv)
 refine callsIn_of_wp Tryz.func176 rfl trivial ?_ rfl
 simp only [Tryz.ntmps176,List.size_toArray,List.length_cons,List.length_nil,Nat.reduceAdd,Nat.reduceSub,Array.replicate_succ,Array.replicate_zero,List.push_toArray,List.append_toArray,List.nil_append,List.cons_append]
 gi_wp2
 gi_loopw [7] (fun p wr=>∃ (pre:List ByteArray) (r:ByteArray),pre++partsB c r=partsB c s∧J pre wr∧wr.heap[bs]? = some (.cells #[.string r] 9 (0,0))∧wr.heap[bsep]? = some (.cells #[.string ⟨#[c]⟩] 9 (0,0))∧wr.heap[bsv]? = some (.cells #[.int .i64 0] 3 (0,0))∧r.size≤8388608) (fun p wr=>leftS bs wr)
 case atStart=>exact⟨[],s,rfl,h0,(hW bs h1.1).trans hbs,(hW bsep h2.1).trans hsep,(hW bsv h3.1).trans hsv,hs⟩
 case round=>
  clear wbs wsep wsv
  obtain⟨pre,r,hpre,hJ,xbs,xsep,xsv,hr⟩:=hrel
  have wbs:=cell_block xbs
  have wsep:=cell_block xsep
  have wsv:=cell_block xsv
  have hpl:(partsB c s).length=pre.length+(partsB c r).length:=by rw [←hpre,List.length_append]
  by_cases hi:Lib.indexByte r.data.toList c = -1
  ·have hp1:=partsB_miss hi
   have Hpre:Hid (pre++[r]=partsB c s):=Lib.hid (by rw [←hp1,hpre])
   have q0:Lib.indexByte r.data.toList c<0:=by omega
   obtain⟨fn,tmps,assign,body,hy,hR⟩:=hY pre r wr hJ (by rw [hpl,hp1];simp)
   have HR:=Lib.hid hR
   clear hi hp1 hpl hpre hR
   gi_wp2_with (refine⟨trivial,?_⟩;gi_at_call 171;refine (callsIn_wide.2 (Tryz.strings_Index_one _ _ _)).mono ?_;rintro e w' ⟨rfl,rfl⟩)
   refine HR.out.mono ?_
   rintro e W' ⟨rfl,hJ',hk⟩
   gi_wp2
   go_end0
   exact⟨⟨_,rfl⟩,by rw [←Hpre.out];exact hJ'⟩
  ·have hge:=Lib.indexByte_ge r.data.toList c
   obtain⟨i,hi2⟩:∃ i:Nat,Lib.indexByte r.data.toList c=(i:Int):=⟨(Lib.indexByte r.data.toList c).toNat,by omega⟩
   have q0:¬(i:Int)<0:=by omega
   have hir:i<r.size:=by
    have:=(List.getElem?_eq_some_iff.1 (Lib.indexByte_some hi2).1).1
    simpa using this
   have q1:(0:Int)≤(i:Int):=by omega
   have q2:(i:Int)≤(r.size:Int):=by omega
   have q3:(i:Int)+1≤(r.size:Int):=by omega
   have q4:(0:Int)≤(i:Int)+1:=by omega
   have Hi:=Lib.hid hi2
   have hp1:partsB c r=r.extract 0 i :: partsB c (r.extract (i+1) r.size):=partsB_hit hi2
   have Hpre:Hid ((pre++[r.extract 0 i])++partsB c (r.extract (i+1) r.size)=partsB c s):=Lib.hid (by rw [←hpre,hp1,List.append_assoc];rfl)
   obtain⟨fn,tmps,assign,body,hy,hR⟩:=hY pre (r.extract 0 i) wr hJ (by rw [hpl,hp1];simp)
   have HR:=Lib.hid hR
   clear hi hge hi2 hp1 hpl hpre hR hY hJ
   gi_wp2_with (refine⟨trivial,?_⟩;gi_at_call 171;refine (callsIn_wide.2 (Tryz.strings_Index_one _ _ _)).mono ?_;rintro e w' ⟨rfl,rfl⟩;rw [Hi.out])
   refine HR.out.mono ?_
   rintro e W' ⟨rfl,hJ',hk⟩
   clear wbs wsep wsv hy
   have ybs:=(hk bs h1.1 h1.2).trans xbs
   have ysep:=(hk bsep h2.1 h2.2.1).trans xsep
   have ysv:=(hk bsv h3.1 h3.2.1).trans xsv
   have wbs:=cell_block ybs
   have fbs:=free_block ybs
   have wsep:=cell_block ysep
   have wsv:=cell_block ysv
   gi_wp2
   go_roundw
   case rel=>
    have t:=touch_setCell (i:=0) (v:=.string (r.extract (i+1) r.size)) ybs
    refine⟨pre++[r.extract 0 i],r.extract (i+1) r.size,Hpre.out,hJt _ _ _ hJ' t.2,t.1,(t.2.other _ h2.2.2).trans ysep,(t.2.other _ h3.2.2).trans ysv,?_⟩
    rw [ByteArray.size_extract];omega
   case measure=>
    have t:=touch_setCell (i:=0) (v:=.string (r.extract (i+1) r.size)) ybs
    unfold leftS
    rw [cell_block t.1 0,cell_block xbs 0]
    show (r.extract (i+1) r.size).size+1<r.size+1
    rw [ByteArray.size_extract];omega
end Go.Proofs.YtnnceaapodgfbaaGreatDoor
namespace Go.Proofs.YtnnceaapodgfbaaGreatDoor.NameP
def edge (c:Nat):Bool:=decide (97≤c∧c≤122) || decide (65≤c∧c≤90) || decide (48≤c∧c≤57)
def low (c:Nat):Bool:=edge c && (decide (c<65) || decide (90<c))
def dash (c:Nat):Bool:=c == 45
def wordIn (c:Nat):Bool:=c == 45 || c == 95 || c == 46
def made (e v:Nat→Bool) (l:List UInt8):Bool:=
 match l with
 | []=>false
 | x :: r=>e x.toNat && e ((x :: r).getLast (by simp)).toNat && (x :: r).all fun c=>e c.toNat || v c.toNat
def isName (l:List UInt8):Bool:=made low dash l
def isWord (l:List UInt8):Bool:=made edge wordIn l
def judge (n most:Nat) (is:Bool):Int:=if most<n then 2 else if is then 0 else 6
def check (l:List UInt8):Int:=judge l.length 63 (isName l)
def checkVal (l:List UInt8):Int:=judge l.length 63 (l.isEmpty || isWord l)
end Go.Proofs.YtnnceaapodgfbaaGreatDoor.NameP
namespace Go.Proofs.YtnnceaapodgfbaaGreatDoor
open Go.RowKit
theorem byteRanges (c:Nat):c<48∨(48≤c∧c≤57)∨(57<c∧c<65)∨(65≤c∧c≤90)∨(90<c∧c<97)∨(97≤c∧c≤122)∨122<c:=by omega
set_option maxHeartbeats 800000 in
theorem isEdge_any (c:Nat) (w:World) (_h8:c<256) :
  Calls Tryz.prog 147 #[.int .u8 (c:Int)] w fun e w'=>e=.returned (.bool (NameP.edge c))∧w=w':=by
 rcases byteRanges c with h | ⟨h,h'⟩ | ⟨h,h'⟩ | ⟨h,h'⟩ | ⟨h,h'⟩ | ⟨h,h'⟩ | h
 all_goals
  go_enter Tryz.func147,Tryz.ntmps147
  go_wp2
  go_ret
  exact⟨congrArg (fun b=>Ending.returned (.bool b)) (by unfold NameP.edge;rw [Bool.eq_iff_iff];simp;omega),rfl⟩
set_option maxHeartbeats 800000 in
theorem isLow_any (c:Nat) (w:World) (h8:c<256) :
  Calls Tryz.prog 145 #[.int .u8 (c:Int)] w fun e w'=>e=.returned (.bool (NameP.low c))∧w=w':=by
 cases he:NameP.edge c with
 | false=>
  have He:=Lib.hid he;clear he
  go_enter Tryz.func145,Tryz.ntmps145
  go_wp2_with fail
  refine (isEdge_any c _ h8).mono ?_
  rintro e w' ⟨rfl,rfl⟩
  rw [He.out]
  go_wp2
  go_ret
  exact⟨congrArg (fun b=>Ending.returned (.bool b)) (by simp [NameP.low,He.out]),rfl⟩
 | true=>
  have He:=Lib.hid he;clear he
  by_cases h1:c<65
  ·go_enter Tryz.func145,Tryz.ntmps145
   go_wp2_with fail
   refine (isEdge_any c _ h8).mono ?_
   rintro e w' ⟨rfl,rfl⟩
   rw [He.out]
   go_wp2
   go_ret
   exact⟨congrArg (fun b=>Ending.returned (.bool b)) (by unfold NameP.low;rw [He.out,Bool.eq_iff_iff];simp;omega),rfl⟩
  ·by_cases h2:90<c
   ·go_enter Tryz.func145,Tryz.ntmps145
    go_wp2_with fail
    refine (isEdge_any c _ h8).mono ?_
    rintro e w' ⟨rfl,rfl⟩
    rw [He.out]
    go_wp2
    go_ret
    exact⟨congrArg (fun b=>Ending.returned (.bool b)) (by unfold NameP.low;rw [He.out,Bool.eq_iff_iff];simp;omega),rfl⟩
   ·go_enter Tryz.func145,Tryz.ntmps145
    go_wp2_with fail
    refine (isEdge_any c _ h8).mono ?_
    rintro e w' ⟨rfl,rfl⟩
    rw [He.out]
    go_wp2
    go_ret
    exact⟨congrArg (fun b=>Ending.returned (.bool b)) (by unfold NameP.low;rw [He.out,Bool.eq_iff_iff];simp;omega),rfl⟩
theorem dash_any (c:Nat) (w:World) (_h8:c<256) :
  Calls Tryz.prog 146 #[.int .u8 (c:Int)] w fun e w'=>e=.returned (.bool (NameP.dash c))∧w=w':=by
 by_cases h:c=45
 ·subst h
  go_enter Tryz.func146,Tryz.ntmps146
  go_wp2
  go_ret
  exact⟨rfl,rfl⟩
 ·have hc:((c:Int) == 45)=false:=by rw [beq_eq_false_iff_ne];omega
  have Hc:=Lib.hid h;clear h
  go_enter Tryz.func146,Tryz.ntmps146
  go_wp2
  go_ret
  exact⟨congrArg (fun b=>Ending.returned (.bool b)) (by simp [NameP.dash];exact Hc.out),rfl⟩
theorem wordIn_any (c:Nat) (w:World) (_h8:c<256) :
  Calls Tryz.prog 148 #[.int .u8 (c:Int)] w fun e w'=>e=.returned (.bool (NameP.wordIn c))∧w=w':=by
 by_cases h:c=45
 ·subst h
  go_enter Tryz.func148,Tryz.ntmps148
  go_wp2
  go_ret
  exact⟨rfl,rfl⟩
 ·have hc:((c:Int) == 45)=false:=by rw [beq_eq_false_iff_ne];omega
  by_cases h2:c=95
  ·subst h2
   go_enter Tryz.func148,Tryz.ntmps148
   go_wp2
   go_ret
   exact⟨rfl,rfl⟩
  ·have hc2:((c:Int) == 95)=false:=by rw [beq_eq_false_iff_ne];omega
   by_cases h3:c=46
   ·subst h3
    go_enter Tryz.func148,Tryz.ntmps148
    go_wp2
    go_ret
    exact⟨rfl,rfl⟩
   ·have hc3:((c:Int) == 46)=false:=by rw [beq_eq_false_iff_ne];omega
    have Hc:=Lib.hid (And.intro h (And.intro h2 h3));clear h h2 h3
    go_enter Tryz.func148,Tryz.ntmps148
    go_wp2
    go_ret
    exact⟨congrArg (fun b=>Ending.returned (.bool b)) (by have:=Hc.out;simp [NameP.wordIn];exact⟨⟨this.1,this.2.1⟩,this.2.2⟩),rfl⟩
end Go.Proofs.YtnnceaapodgfbaaGreatDoor
namespace Go.Proofs.YtnnceaapodgfbaaGreatDoor
open Go.RowKit
structure Tells (f:FuncId) (p:Nat→Bool):Prop where
 enter:∀ (a:Array Value) (w:World),(callFunc f a).run Tryz.prog w=.ok (.enter f a) w
 calls:∀ (c:Nat) (w:World),c<256→Calls Tryz.prog f #[.int .u8 (c:Int)] w fun e w'=>e=.returned (.bool (p c))∧w=w'
theorem low_tells:Tells 145 NameP.low:=⟨run_callFunc_body Tryz.func145 (by kernel_rfl) (by kernel_rfl),fun c w h=>isLow_any c w h⟩
theorem edge_tells:Tells 147 NameP.edge:=⟨run_callFunc_body Tryz.func147 (by kernel_rfl) (by kernel_rfl),fun c w h=>isEdge_any c w h⟩
theorem dash_tells:Tells 146 NameP.dash:=⟨run_callFunc_body Tryz.func146 (by kernel_rfl) (by kernel_rfl),fun c w h=>dash_any c w h⟩
theorem wordIn_tells:Tells 148 NameP.wordIn:=⟨run_callFunc_body Tryz.func148 (by kernel_rfl) (by kernel_rfl),fun c w h=>wordIn_any c w h⟩
theorem made_nil {e v:Nat→Bool} {s:ByteArray} (h:s.toList = []):NameP.made e v s.data.toList=false:=by
 rw [ByteArray.toList_eq] at h;rw [h];rfl
theorem made_cons {p q:Nat→Bool} (s:ByteArray) (h:1≤s.size) :
  NameP.made p q s.data.toList=(p s[0].toNat && p s[s.size - 1].toNat && s.data.toList.all fun c=>p c.toNat || q c.toNat):=by
 have hl:s.data.toList.length=s.size:=by simp
 have h0:s.data.toList[0]? = some s[0]:=by rw [List.getElem?_eq_getElem (by omega)];rfl
 have h1:s.data.toList.getLast? = some s[s.size - 1]:=by
  rw [List.getLast?_eq_getElem?,hl,List.getElem?_eq_getElem (by omega)];rfl
 cases hd:s.data.toList with
 | nil=>rw [hd] at hl;simp at hl;omega
 | cons x r=>
  rw [hd] at h0 h1
  simp only [List.getElem?_cons_zero,Option.some.injEq] at h0
  rw [List.getLast?_eq_some_getLast (by simp)] at h1
  simp only [Option.some.injEq] at h1
  unfold NameP.made
  rw [←h0,←h1]
theorem all_snocM {s:ByteArray} {k:Nat} {f:UInt8→Bool} (h:k<s.size) (ha:Hid ((s.data.toList.take k).all f=true)) (hk:f s[k]=true):Hid ((s.data.toList.take (k+1)).all f=true):=by
 show _=_
 rw [take_snoc s k h,List.all_append,ha.out]
 simp [hk]
theorem all_not {s:ByteArray} {k:Nat} {f:UInt8→Bool} (h:k<s.size) (hk:f s[k]=false):s.data.toList.all f=false:=by
 rw [List.all_eq_false]
 refine⟨s[k],?_,by rw [hk];simp⟩
 have:s[k]=s.data.toList[k]'(by simpa using h):=rfl
 rw [this]
 exact List.getElem_mem _
set_option maxRecDepth 100000 in
set_option maxHeartbeats 1600000 in
theorem made_any {ef vf:FuncId} {p q:Nat→Bool} (hp:Tells ef p) (hq:Tells vf q) (s:ByteArray) (w:World) (hs:s.size≤1099511627776) :
  Calls Tryz.prog 144 #[.string s,.func (.func ef) #[] #[],.func (.func vf) #[] #[]] w fun e w'=>e=.returned (.bool (NameP.made p q s.data.toList))∧w=w':=by
 by_cases h0:s.size=0
 ·have hl:s.toList = []:=by rw [ByteArray.toList_eq];exact List.eq_nil_of_length_eq_zero (by simpa using h0)
  have Hm:=Lib.hid (made_nil (e:=p) (v:=q) hl)
  have hle:s.toList.isEmpty=true:=by rw [hl];rfl
  clear h0
  go_enter Tryz.func144,Tryz.ntmps144
  go_wp2
  go_ret
  exact⟨by rw [Hm.out];rfl,rfl⟩
 ·have h1:1≤s.size:=by omega
  have hne:(!s.toList.isEmpty)=true:=by
   rw [ByteArray.toList_eq]
   have hl:s.data.toList.length=s.size:=by simp
   cases hd:s.data.toList with | nil=>rw [hd] at hl;simp at hl;omega | cons x r=>rfl
  have hne2:s.toList.isEmpty=false:=by simpa using hne
  have HM:=Lib.hid (made_cons (p:=p) (q:=q) s h1)
  clear h0
  have c0:s[0].toNat<256:=s[0].toNat_lt
  have cl:s[s.size - 1].toNat<256:=s[s.size - 1].toNat_lt
  have i0:(0:Int)<(s.size:Int):=by omega
  have i1:(0:Int)≤(s.size:Int) - 1:=by omega
  have i2:(s.size:Int) - 1<(s.size:Int):=by omega
  have i3:((s.size:Int) - 1).toNat=s.size - 1:=by omega
  have ep:=hp.enter
  have eq:=hq.enter
  cases h2:p s[0].toNat with
  | false=>
   have H2:=Lib.hid h2;clear h2
   go_enter Tryz.func144,Tryz.ntmps144
   go_wp2_with fail
   refine (hp.calls _ _ c0).mono ?_
   rintro e w' ⟨rfl,rfl⟩
   rw [H2.out]
   go_wp2_with fail
   go_ret
   exact⟨congrArg (fun b=>Ending.returned (.bool b)) (by rw [HM.out,H2.out];rfl),rfl⟩
  | true=>
   have H2:=Lib.hid h2;clear h2
   cases h3:p s[s.size - 1].toNat with
   | false=>
    have H3:=Lib.hid h3;clear h3
    go_enter Tryz.func144,Tryz.ntmps144
    go_wp2_with fail
    refine (hp.calls _ _ c0).mono ?_
    rintro e w' ⟨rfl,rfl⟩
    rw [H2.out]
    go_wp2_with fail
    refine (hp.calls _ _ cl).mono ?_
    rintro e w' ⟨rfl,rfl⟩
    rw [H3.out]
    go_wp2_with fail
    go_ret
    exact⟨congrArg (fun b=>Ending.returned (.bool b)) (by rw [HM.out,H2.out,H3.out];rfl),rfl⟩
   | true=>
    have H3:=Lib.hid h3;clear h3
    go_enter Tryz.func144,Tryz.ntmps144
    go_wp2_with fail
    refine (hp.calls _ _ c0).mono ?_
    rintro e w' ⟨rfl,rfl⟩
    rw [H2.out]
    go_wp2_with fail
    refine (hp.calls _ _ cl).mono ?_
    rintro e w' ⟨rfl,rfl⟩
    rw [H3.out]
    go_wp2_with fail
    go_loop [29] (fun i=>∃ k:Nat,k≤s.size∧i=.int .i64 k∧Hid (((s.data.toList.take k).all fun c=>p c.toNat || q c.toNat)=true)) (fun i=>s.size - (intOf i).toNat)
    case atStart=>exact⟨0,Nat.zero_le _,rfl,by show _=_;simp⟩
    case round=>
     obtain⟨k,hk,rfl,HA⟩:=hrel
     by_cases hlt:k<s.size
     ·have ck:s[k].toNat<256:=s[k].toNat_lt
      have j0:(0:Int)≤(k:Int):=by omega
      have j1:(k:Int)<(s.size:Int):=by omega
      cases h4:p s[k].toNat with
      | true=>
       have H4:=Lib.hid h4;clear h4
       go_wp2_with fail
       refine (hp.calls _ _ ck).mono ?_
       rintro e w' ⟨rfl,rfl⟩
       rw [H4.out]
       go_wp2_with fail
       go_round
       case rel=>exact⟨k+1,by omega,by go_num,all_snocM hlt HA (by rw [H4.out];rfl)⟩
       case measure=>simp [intOf];omega
      | false=>
       have H4:=Lib.hid h4;clear h4
       cases h5:q s[k].toNat with
       | true=>
        have H5:=Lib.hid h5;clear h5
        go_wp2_with fail
        refine (hp.calls _ _ ck).mono ?_
        rintro e w' ⟨rfl,rfl⟩
        rw [H4.out]
        go_wp2_with fail
        refine (hq.calls _ _ ck).mono ?_
        rintro e w' ⟨rfl,rfl⟩
        rw [H5.out]
        go_wp2_with fail
        go_round
        case rel=>exact⟨k+1,by omega,by go_num,all_snocM hlt HA (by rw [H4.out,H5.out];rfl)⟩
        case measure=>simp [intOf];omega
       | false=>
        have H5:=Lib.hid h5;clear h5
        go_wp2_with fail
        refine (hp.calls _ _ ck).mono ?_
        rintro e w' ⟨rfl,rfl⟩
        rw [H4.out]
        go_wp2_with fail
        refine (hq.calls _ _ ck).mono ?_
        rintro e w' ⟨rfl,rfl⟩
        rw [H5.out]
        go_wp2_with fail
        go_ret
        exact⟨congrArg (fun b=>Ending.returned (.bool b)) (by rw [HM.out,all_not hlt (by rw [H4.out,H5.out];rfl)];simp),rfl⟩
     ·go_wp2_with fail
      go_ret
      refine⟨congrArg (fun b=>Ending.returned (.bool b)) ?_,rfl⟩
      have:=HA.out
      rw [List.take_of_length_le (by simp;omega)] at this
      rw [HM.out,H2.out,H3.out,this];rfl
set_option maxHeartbeats 800000 in
theorem judge_any (s:ByteArray) (most:Nat) (b:Bool) (w:World) (_hs:s.size≤1099511627776) (_hm:most≤1000) :
  Calls Tryz.prog 116 #[.string s,.int .i64 (most:Int),.bool b] w fun e w'=>e=.returned (.int .i64 (NameP.judge s.size most b))∧w=w':=by
 by_cases h:most<s.size
 ·go_enter Tryz.func116,Tryz.ntmps116
  go_wp2
  go_ret
  exact⟨congrArg (fun b=>Ending.returned (.int .i64 b)) (by unfold NameP.judge;rw [if_pos h]),rfl⟩
 ·cases b
  all_goals
   go_enter Tryz.func116,Tryz.ntmps116
   go_wp2
   go_ret
   exact⟨congrArg (fun b=>Ending.returned (.int .i64 b)) (by unfold NameP.judge;rw [if_neg h];rfl),rfl⟩
theorem isName_any (s:ByteArray) (w:World) (hs:s.size≤1099511627776) :
  Calls Tryz.prog 115 #[.string s] w fun e w'=>e=.returned (.bool (NameP.isName s.data.toList))∧w=w':=by
 go_enter Tryz.func115,Tryz.ntmps115
 go_wp2_with fail
 refine (made_any low_tells dash_tells s _ hs).mono ?_
 rintro e w' ⟨rfl,rfl⟩
 go_wp2_with fail
 go_ret
 exact⟨rfl,rfl⟩
theorem check_any (s:ByteArray) (w:World) (hs:s.size≤1099511627776) :
  Calls Tryz.prog 89 #[.string s] w fun e w'=>e=.returned (.int .i64 (NameP.check s.data.toList))∧w=w':=by
 go_enter Tryz.func89,Tryz.ntmps89
 go_wp2_with fail
 refine (isName_any s _ hs).mono ?_
 rintro e w' ⟨rfl,rfl⟩
 go_wp2_with fail
 refine (judge_any s 63 _ _ hs (by omega)).mono ?_
 rintro e w' ⟨rfl,rfl⟩
 go_wp2_with fail
 go_ret
 exact⟨by simp [NameP.check],rfl⟩
theorem isWord_any (s:ByteArray) (w:World) (hs:s.size≤1099511627776) :
  Calls Tryz.prog 117 #[.string s] w fun e w'=>e=.returned (.bool (NameP.isWord s.data.toList))∧w=w':=by
 go_enter Tryz.func117,Tryz.ntmps117
 go_wp2_with fail
 refine (made_any edge_tells wordIn_tells s _ hs).mono ?_
 rintro e w' ⟨rfl,rfl⟩
 go_wp2_with fail
 go_ret
 exact⟨rfl,rfl⟩
end Go.Proofs.YtnnceaapodgfbaaGreatDoor
namespace Go.Proofs.YtnnceaapodgfbaaGreatDoor
open Go.RowKit
attribute [local go_sem] Oper.semAt_some
namespace NameP
def part (l:List UInt8):Bool:=decide (l.length≤63) && isName l
def keyGood (l:List UInt8):Bool:=
 if (Lib.cut l [47]).2.2=true then (splitL 46 (Lib.cut l [47]).1).all part && (decide ((Lib.cut l [47]).2.1.length≤63) && isWord (Lib.cut l [47]).2.1)
 else decide ((Lib.cut l [47]).1.length≤63) && isWord (Lib.cut l [47]).1
def checkKey (l:List UInt8):Int:=judge l.length 64 (keyGood l)
end NameP
set_option maxRecDepth 100000 in
theorem splitSeq0_any (s:ByteArray) (c:UInt8) (w:World) :
  Calls Tryz.prog 143 #[.string s,.string ⟨#[c]⟩,.int .i64 0] w fun e w'=>e=.returned (.func (.func 176) #[] #[.pointer (some ⟨w.heap.size+1,0,none⟩),.pointer (some ⟨w.heap.size,0,none⟩),.pointer (some ⟨w.heap.size+2,0,none⟩)])∧
   w'=((w.alloc (.cells #[.string s] 9)).alloc (.cells #[.string ⟨#[c]⟩] 9)).alloc (.cells #[.int .i64 0] 3):=by
 go_enter Tryz.func143,Tryz.ntmps143
 go_wp2_with fail
 go_ret
 exact⟨by simp,rfl⟩
set_option maxRecDepth 100000 in
theorem splitSeq_any (s:ByteArray) (c:UInt8) (w:World) :
  Calls Tryz.prog 114 #[.string s,.string ⟨#[c]⟩] w fun e w'=>e=.returned (.func (.func 176) #[] #[.pointer (some ⟨w.heap.size+1,0,none⟩),.pointer (some ⟨w.heap.size,0,none⟩),.pointer (some ⟨w.heap.size+2,0,none⟩)])∧
   w'=((w.alloc (.cells #[.string s] 9)).alloc (.cells #[.string ⟨#[c]⟩] 9)).alloc (.cells #[.int .i64 0] 3):=by
 go_enter Tryz.func114,Tryz.ntmps114
 go_wp2_with fail
 refine (splitSeq0_any _ _ _).mono ?_
 rintro E w' ⟨rfl,rfl⟩
 go_wp2_with fail
 go_ret
 exact⟨rfl,rfl⟩
theorem all_snoc1 {α:Type} (f:α→Bool) (l:List α) (x:α):(l++[x]).all f=(l.all f && f x):=by simp
theorem below_drewN (B:Nat) (w:World) (k:Nat):Below B w (w.drewN k):=⟨rfl,rfl,rfl,Nat.le_refl _,fun _ _=>rfl⟩
theorem cut_len (s:ByteArray) (l:List UInt8) (h:s.size≤8388608):(Lib.cut s.data.toList l).1.length≤8388608∧(Lib.cut s.data.toList l).2.1.length≤8388608:=by
 have h1:s.data.toList.length=s.size:=by simp
 unfold Lib.cut
 split
 ·refine⟨?_,?_⟩<;>simp<;>omega
 ·refine⟨?_,?_⟩<;>simp<;>omega
def partB (x:ByteArray):Bool:=NameP.part x.data.toList
set_option maxRecDepth 100000 in
set_option maxHeartbeats 4000000 in
theorem checkKey_any (s:ByteArray) (m:Int) (w:World) (hs:s.size≤8388608) (hm:MaxOK m w) :
  Calls Tryz.prog 87 #[.string s] w fun e w'=>e=.returned (.int .i64 (NameP.checkKey s.data.toList))∧Below w.heap.size w w':=by
 obtain⟨R,HR⟩:∃ R,Hid (NameP.checkKey s.data.toList=R):=⟨_,Lib.hid rfl⟩
 rw [HR.out]
 refine (callsIn_wide (n:=3)).1 ?_
 refine callsIn_of_wp_marks Tryz.func87 rfl trivial ?_ rfl
 simp only [Tryz.ntmps87,List.size_toArray,List.length_cons,List.length_nil,Nat.reduceAdd,Nat.reduceSub,Array.replicate_succ,Array.replicate_zero,List.push_toArray,List.append_toArray,List.nil_append,List.cons_append]
 gi_wp2_with fail
 refine⟨trivial,?_⟩
 gi_at_call 113
 obtain⟨W0,hW0⟩:∃ W0,w.alloc (Obj.cells #[Value.bool true] 4)=W0:=⟨_,rfl⟩
 have b0:W0.heap[w.heap.size]? = some (.cells #[.bool true] 4 (0,0)):=by rw [←hW0];exact heap_alloc_at rfl
 have z0:W0.heap.size=w.heap.size+1:=by rw [←hW0];exact World.size_alloc _ _
 have B0:Below w.heap.size w W0:=by rw [←hW0];exact (Below.refl _ w).alloc (Nat.le_refl _) _
 rw [hW0]
 refine (callsIn_wide.2 (Tryz.strings_Cut s ⟨#[47]⟩ m W0 (by omega) (hm.below B0))).mono ?_
 rintro E w1 ⟨rfl,nd,hw1⟩
 have b1:w1.heap[w.heap.size]? = some (.cells #[.bool true] 4 (0,0)):=by rw [hw1];exact b0
 have z1:w1.heap.size=w.heap.size+1:=by rw [hw1];exact z0
 have B1:=Lib.hid (B0.trans (below_drewN (w.heap.size) W0 nd))
 rw [←hw1] at B1
 clear hw1 b0 z0 B0 hW0
 have hcut:(Lib.cut s.data.toList [47]).1.length≤8388608∧(Lib.cut s.data.toList [47]).2.1.length≤8388608:=cut_len s [47] (by omega)
 have hgood:∀ b,b=NameP.keyGood s.data.toList→NameP.judge s.size 64 b=R:=fun b hb=>by
  rw [←HR.out,hb]
  show _=NameP.judge s.data.toList.length 64 _
  congr 1
 have hco:(Lib.cut s.data.toList (⟨#[47]⟩:ByteArray).data.toList)=Lib.cut s.data.toList [47]:=rfl
 rw [hco]
 obtain⟨ca,cb,ct,hc⟩:∃ ca cb ct,Lib.cut s.data.toList [47]=(ca,cb,ct):=⟨_,_,_,rfl⟩
 unfold NameP.keyGood at hgood
 rw [hc] at hgood hcut
 rw [hc]
 obtain⟨hca,hcb⟩:ca.length≤8388608∧cb.length≤8388608:=hcut
 clear hco hc
 obtain⟨A,HA⟩:∃ A:ByteArray,Hid ((⟨ca.toArray⟩:ByteArray)=A):=⟨_,Lib.hid rfl⟩
 obtain⟨B,HB⟩:∃ B:ByteArray,Hid ((⟨cb.toArray⟩:ByteArray)=B):=⟨_,Lib.hid rfl⟩
 have hA:A.data.toList=ca:=by rw [←HA.out]
 have hB:B.data.toList=cb:=by rw [←HB.out]
 have hAs:A.size≤8388608:=by rw [←HA.out];show ca.toArray.size≤_;simpa using hca
 have hBs:B.size≤8388608:=by rw [←HB.out];show cb.toArray.size≤_;simpa using hcb
 simp only [HA.out,HB.out]
 have c1:=cell_block b1 0
 cases ct with
 | false=>
  have hR1:∀ b,b=(decide (A.size≤63) && NameP.isWord A.data.toList)→NameP.judge s.size 64 b=R:=fun b hb=>hgood b (by rw [hb,hA,if_neg (by simp),show A.size=ca.length by rw [←hA];simp])
  have HR1:=Lib.hid hR1
  clear hR1 hgood HA HB hA hB
  by_cases h63:A.size≤63
  ·have q0:(A.size:Int)≤63:=by omega
   have HR2:Hid (NameP.judge s.size 64 (NameP.isWord A.data.toList)=R):=Lib.hid (HR1.out _ (by rw [decide_eq_true h63,Bool.true_and]))
   clear h63
   gi_wp2_with (refine⟨trivial,?_⟩;gi_at_call 117;refine (callsIn_wide.2 (isWord_any _ _ (by omega))).mono ?_;rintro e w' ⟨rfl,rfl⟩)
   refine⟨trivial,?_⟩
   gi_at_call 116
   refine (callsIn_wide.2 (judge_any s 64 _ _ (by omega) (by decide))).mono ?_
   rintro e w' ⟨rfl,rfl⟩
   gi_wp2
   exact⟨_,results_tmp rfl _ _ _,by simpa using HR2.out,B1.out⟩
  ·have q0:¬(A.size:Int)≤63:=by omega
   have HR2:Hid (NameP.judge s.size 64 false=R):=Lib.hid (HR1.out _ (by rw [decide_eq_false h63,Bool.false_and]))
   clear h63
   gi_wp2_with fail
   refine⟨trivial,?_⟩
   gi_wp2_with fail
   refine⟨trivial,?_⟩
   gi_at_call 116
   refine (callsIn_wide.2 (judge_any s 64 _ _ (by omega) (by decide))).mono ?_
   rintro e w' ⟨rfl,rfl⟩
   gi_wp2
   exact⟨_,results_tmp rfl _ _ _,by simpa using HR2.out,B1.out⟩
 | true=>
  have hR1:∀ b,b=((partsB 46 A).all partB && (decide (B.size≤63) && NameP.isWord B.data.toList))→NameP.judge s.size 64 b=R:=fun b hb=>hgood b (by
   rw [hb,hB,if_pos rfl,show B.size=cb.length by rw [←hB];simp]
   congr 1
   unfold partsB partB
   rw [List.all_map,hA]
   rfl)
  have HR1:=Lib.hid hR1
  clear hR1 hgood HA HB hA hB
  gi_wp2_with fail
  refine⟨trivial,?_⟩
  gi_at_call 114
  refine (callsIn_wide.2 (splitSeq_any A 46 w1)).mono ?_
  rintro e w2 ⟨rfl,hw2⟩
  have z2:w2.heap.size=w.heap.size+4:=by rw [hw2,World.size_alloc,World.size_alloc,World.size_alloc,z1]
  have b2:w2.heap[w.heap.size]? = some (.cells #[.bool true] 4 (0,0)):=by rw [hw2];exact heap_alloc_old (heap_alloc_old (heap_alloc_old b1))
  have s2:w2.heap[w.heap.size+1]? = some (.cells #[.string A] 9 (0,0)):=by rw [hw2];exact heap_alloc_old (heap_alloc_old (heap_alloc_at z1.symm))
  have p2:w2.heap[w.heap.size+2]? = some (.cells #[.string ⟨#[46]⟩] 9 (0,0)):=by rw [hw2];exact heap_alloc_old (heap_alloc_at (by rw [World.size_alloc,z1]))
  have v2:w2.heap[w.heap.size+3]? = some (.cells #[.int .i64 0] 3 (0,0)):=by rw [hw2];exact heap_alloc_at (by rw [World.size_alloc,World.size_alloc,z1])
  have B2:Below w.heap.size w w2:=by rw [hw2];exact ((B1.out.alloc (by omega) _).alloc (by rw [World.size_alloc];omega) _).alloc (by rw [World.size_alloc,World.size_alloc];omega) _
  rw [z1]
  clear hw2
  gi_wp2_with fail
  refine wpIn_range_each (α:=ByteArray) rfl (by omega) (gf:=176) (lb:=#[.pointer (some ⟨w.heap.size+2,0,none⟩),.pointer (some ⟨w.heap.size+1,0,none⟩),.pointer (some ⟨w.heap.size+3,0,none⟩)]) rfl trivial (enters_of Tryz.func176 (by kernel_rfl) rfl)
   (enc:=Value.string) (xs:=partsB 46 A) (bs:=w.heap.size+1) (b3:=w.heap.size) (by omega) (by omega)
   (splitSeq_each _ (by omega) A 46 (w.heap.size+1) (w.heap.size+2) (w.heap.size+3) w.heap.size w2.heap.size w2 s2 p2 v2 ⟨by omega,by omega⟩ ⟨by omega,by omega,by omega⟩ ⟨by omega,by omega,by omega⟩ hAs)
   (fun pre W=>W.heap[w.heap.size]? = some (.cells #[.bool (pre.all partB)] 4 (0,0))∧Below w.heap.size w W)
   (fun pre X Y h hb=>⟨(hb.block _ (by omega)).trans h.1,h.2.trans (hb.mono (by omega))⟩)
   (fun pre X Y h ht=>⟨(ht.other _ (by omega)).trans h.1,ht.below h.2 (by omega)⟩)
   ⟨b2,B2⟩ (fun x=>{tmps:=#[Value.string s,undef,Value.int IntKind.i64 0,Value.pointer (some ⟨w.heap.size,0,none⟩),Value.string A,Value.string B,Value.bool true,Value.string x,Value.tuple #[Value.string A,Value.string B,Value.bool true],Value.string s,Value.tuple #[Value.string A,Value.string B,Value.bool true],Value.string A,Value.string B,Value.bool true,Value.bool true,Value.bool false,undef,Value.string A,Value.func (Fn.func 176) #[] #[Value.pointer (some ⟨w.heap.size+1+1,0,none⟩),Value.pointer (some ⟨w.heap.size+1,0,none⟩),Value.pointer (some ⟨w.heap.size+1+2,0,none⟩)],Value.string x,undef,undef,undef,undef,undef,undef,undef,undef,undef,undef,undef,undef,undef,undef,undef,undef,undef,undef,undef,undef,undef,undef],defers:=[]}) ?assign ?body ?done
  case assign=>
   intro l x W K hK
   gi_wp2
   exact hK
  case body=>
   rintro l pre x W ⟨hb,hB⟩ _
   obtain⟨g,Hg⟩:∃ g,Hid (pre.all partB=g):=⟨_,Lib.hid rfl⟩
   have Hb:=Lib.hid hb
   rw [Hg.out] at hb
   have HBl:=Lib.hid hB
   have c1:=cell_block hb 0
   have f1:=free_block hb 0
   have fin:∀ (a:Act) (v:Bool),v=(pre++[x]).all partB→eachPost (fun pre W=>W.heap[w.heap.size]? = some (.cells #[.bool (pre.all partB)] 4 (0,0))∧Below w.heap.size w W) (pre++[x]) w.heap.size W .normal a (W.setCell ⟨w.heap.size,0,none⟩ (.bool v)):=fun _ v hv=>by
    have t:=touch_setCell (i:=0) (v:=.bool v) Hb.out
    refine⟨⟨?_,t.2.below HBl.out (Nat.le_refl _)⟩,by rw [t.2.size];exact Nat.le_refl _,fun k hk hne=>t.2.other k hne⟩
    rw [t.1,hv];rfl
   have Hfin:=Lib.hid fin
   clear hb fin hB
   cases g with
   | false=>
    have Hv:Hid (false=(pre++[x]).all partB):=Lib.hid (by rw [all_snoc1,Hg.out,Bool.false_and])
    gi_wp2_with (refine⟨trivial,?_⟩)
    exact Hfin.out _ _ Hv.out
   | true=>
    by_cases h63:x.size≤63
    ·have q0:(x.size:Int)≤63:=by omega
     have Hv:Hid (NameP.isName x.data.toList=(pre++[x]).all partB):=Lib.hid (by
      rw [all_snoc1,Hg.out,Bool.true_and]
      unfold partB NameP.part
      rw [decide_eq_true (by simpa using h63),Bool.true_and])
     clear h63
     gi_wp2_with (refine⟨trivial,?_⟩;gi_at_call 115;refine (CallsIn.inRound l (callsIn_wide.2 (isName_any x _ (by omega)))).mono ?_;rintro e w' ⟨rfl,rfl⟩)
     exact Hfin.out _ _ Hv.out
    ·have q0:¬(x.size:Int)≤63:=by omega
     have Hv:Hid (false=(pre++[x]).all partB):=Lib.hid (by
      rw [all_snoc1,Hg.out,Bool.true_and]
      unfold partB NameP.part
      rw [decide_eq_false (by simpa using h63),Bool.false_and])
     clear h63
     gi_wp2_with (refine⟨trivial,?_⟩)
     exact Hfin.out _ _ Hv.out
  case done=>
   rintro D W ⟨hb,hB⟩ hK hD
   obtain⟨g,Hg⟩:∃ g,Hid ((partsB 46 A).all partB=g):=⟨_,Lib.hid rfl⟩
   rw [Hg.out] at hb
   have HBl:=Lib.hid hB
   have c1:W.cell? ⟨w.heap.size,0,none⟩=some (.bool g):=cell_block hb 0
   clear hb hB
   cases g with
   | false=>
    have HR2:Hid (NameP.judge s.size 64 false=R):=Lib.hid (HR1.out _ (by rw [Hg.out,Bool.false_and]))
    gi_wp2_with fail
    refine⟨trivial,?_⟩
    gi_wp2_with fail
    refine⟨trivial,?_⟩
    gi_at_call 116
    refine (callsIn_wide.2 (judge_any s 64 _ _ (by omega) (by decide))).mono ?_
    rintro e w' ⟨rfl,rfl⟩
    gi_wp2
    refine⟨by simp,.inl ⟨_,_,rfl,run_takeDeferred hK,?_⟩⟩
    exact⟨_,results_tmp rfl _ _ _,by simpa using HR2.out,HBl.out.trans (below_putObj W _ _ (by omega))⟩
   | true=>
    by_cases h63:B.size≤63
    ·have q0:(B.size:Int)≤63:=by omega
     have HR2:Hid (NameP.judge s.size 64 (NameP.isWord B.data.toList)=R):=Lib.hid (HR1.out _ (by rw [Hg.out,decide_eq_true h63,Bool.true_and,Bool.true_and]))
     clear h63
     gi_wp2_with (refine⟨trivial,?_⟩;gi_at_call 117;refine (callsIn_wide.2 (isWord_any _ _ (by omega))).mono ?_;rintro e w' ⟨rfl,rfl⟩)
     refine⟨trivial,?_⟩
     gi_at_call 116
     refine (callsIn_wide.2 (judge_any s 64 _ _ (by omega) (by decide))).mono ?_
     rintro e w' ⟨rfl,rfl⟩
     gi_wp2
     refine⟨by simp,.inl ⟨_,_,rfl,run_takeDeferred hK,?_⟩⟩
     exact⟨_,results_tmp rfl _ _ _,by simpa using HR2.out,HBl.out.trans (below_putObj W _ _ (by omega))⟩
    ·have q0:¬(B.size:Int)≤63:=by omega
     have HR2:Hid (NameP.judge s.size 64 false=R):=Lib.hid (HR1.out _ (by rw [Hg.out,decide_eq_false h63,Bool.true_and,Bool.false_and]))
     clear h63
     gi_wp2_with fail
     refine⟨trivial,?_⟩
     gi_wp2_with fail
     refine⟨trivial,?_⟩
     gi_at_call 116
     refine (callsIn_wide.2 (judge_any s 64 _ _ (by omega) (by decide))).mono ?_
     rintro e w' ⟨rfl,rfl⟩
     gi_wp2
     refine⟨by simp,.inl ⟨_,_,rfl,run_takeDeferred hK,?_⟩⟩
     exact⟨_,results_tmp rfl _ _ _,by simpa using HR2.out,HBl.out.trans (below_putObj W _ _ (by omega))⟩
end Go.Proofs.YtnnceaapodgfbaaGreatDoor
namespace Go.Proofs.YtnnceaapodgfbaaGreatDoor
open Go.RowKit
theorem ret_i64 {a b:Int} (h:a=b):Ending.returned (.int .i64 a)=.returned (.int .i64 b):=by rw [h]
set_option maxHeartbeats 800000 in
theorem checkVal_any (s:ByteArray) (w:World) (hs:s.size≤1099511627776) :
  Calls Tryz.prog 88 #[.string s] w fun e w'=>e=.returned (.int .i64 (NameP.checkVal s.data.toList))∧w=w':=by
 by_cases h0:s.size=0
 ·have hl:s.toList = []:=by rw [ByteArray.toList_eq];exact List.eq_nil_of_length_eq_zero (by simpa using h0)
  have hle:s.toList.isEmpty=true:=by rw [hl];rfl
  have Hs:Hid (NameP.judge s.size 63 true=NameP.checkVal s.data.toList):=by
   show _=_
   rw [ByteArray.toList_eq] at hl
   simp [NameP.checkVal,hl,h0]
  clear h0
  go_enter Tryz.func88,Tryz.ntmps88
  go_wp2_with fail
  refine (judge_any s 63 _ _ hs (by omega)).mono ?_
  rintro e w' ⟨rfl,rfl⟩
  go_wp2_with fail
  go_ret
  exact⟨ret_i64 Hs.out,rfl⟩
 ·have hl:s.data.toList.length=s.size:=by simp
  have hne2:s.toList.isEmpty=false:=by
   rw [ByteArray.toList_eq]
   cases hd:s.data.toList with | nil=>rw [hd] at hl;simp at hl;omega | cons x r=>rfl
  have hne:(!s.toList.isEmpty)=true:=by rw [hne2];rfl
  have Hs:Hid (NameP.judge s.size 63 (NameP.isWord s.data.toList)=NameP.checkVal s.data.toList):=by
   show _=_
   rw [ByteArray.toList_eq] at hne2
   unfold NameP.checkVal
   rw [hl,hne2];rfl
  clear h0 hl
  go_enter Tryz.func88,Tryz.ntmps88
  go_wp2_with fail
  refine (isWord_any s _ hs).mono ?_
  rintro e w' ⟨rfl,rfl⟩
  go_wp2_with fail
  refine (judge_any s 63 _ _ hs (by omega)).mono ?_
  rintro e w' ⟨rfl,rfl⟩
  go_wp2_with fail
  go_ret
  exact⟨ret_i64 Hs.out,rfl⟩
end Go.Proofs.YtnnceaapodgfbaaGreatDoor
namespace Go.Proofs.YtnnceaapodgfbaaGreatDoor
open Go.RowKit
def lessB (a b:ByteArray):Bool:=Op.bytesLess a.toList b.toList
theorem toList_inj {a b:ByteArray} (h:a.toList=b.toList):a=b:=by
 rw [ByteArray.toList_eq,ByteArray.toList_eq] at h
 cases a;cases b
 simp only [ByteArray.mk.injEq]
 exact Array.toList_inj.1 h
def cmpB (a b:ByteArray):Int:=if lessB a b=true then -1 else if (a.toList == b.toList)=true then 0 else 1
end Go.Proofs.YtnnceaapodgfbaaGreatDoor
