/- Texts of ours joined. -/
import Derived.Test.YtnnceaapodgfbaaGreatDoorShelf
import Derived.WalkSpells
import Derived.Deep.DeepCutAuto
import Derived.Test.YtnnceaapodgfbaaGreatDoorAz3
set_option linter.unusedVariables false
set_option linter.unusedSimpArgs false
namespace Go.Proofs.YtnnceaapodgfbaaGreatDoor
open Go.RowKit
set_option maxRecDepth 100000 in
theorem cloneStr_any (v:Value) (xs:List Value) (w:World) (h:RowAt RVal 1 w v xs) (hl:xs.length≤1073741824) :
  Calls Tryz.prog 78 #[v] w fun e w'=>∃ v',e=.returned v'∧OwnAt RVal 1 w' w.heap.size 9 v' xs∧Below w.heap.size w w':=by
 obtain⟨i0,hi0,hz0,hz1,hz2⟩:=info_parts Tryz.infoStr
 have hrow:=h
 have hn:=fun (w:World) (a:Option Addr) (n c:Nat)=>Lib.run_eql_slice_nil (P:=Tryz.prog) w 28 9 a n c 0 0 Tryz.underlying28
 rcases h with ⟨rfl,rfl⟩ | ⟨a,c,rfl,_,_,_⟩
 ·go_enter Tryz.func78,Tryz.ntmps78
  go_wp2_with fail
  go_ret
  exact⟨_,rfl,OwnAt.nil _,Below.refl _ _⟩
 ·have Hrow:=Lib.hid hrow
  clear hrow
  go_enter Tryz.func78,Tryz.ntmps78
  go_wp2_with (at_builtin;refine wpList_append_ownAt (R:=RVal) (k:=1) (e:=9) (B:=w.heap.size) (l:=[]) (m:=xs) _ (by rfl) _ _ _ (by rfl) i0 _ 16 Tryz.underlying28 hi0 hz0 hz1 hz2 rfl (by omega) flat_val one_val _ (by rfl) (own_empty w 1 _ (Nat.le_refl _)) _ (by rfl) (Hrow.out.below stays_val ((Below.refl _ _).alloc (Nat.le_refl _) _)) (by unfold maxLen;simp;omega) (by simp;omega) (by simp) ?_)
  intro v' w' hv' hg hr _
  have hb:Below w.heap.size w w':=below_of_grown ((Below.refl _ _).alloc (Nat.le_refl _) _) (by simp) hg hr
  go_wp2_with fail
  go_ret
  exact⟨_,rfl,by simpa using hv',hb⟩
set_option maxRecDepth 100000 in
set_option maxHeartbeats 3200000 in
theorem insStr_any (v:Value) (xs:List Value) (B k:Nat) (x:Value) (g2:Nat) (w:World) (h:OwnAt RVal 1 w B 9 v xs) (hk:k≤xs.length) (hx:x.oneCell'=true) (h2:w.heap[g2]? = some (.cells #[x] 9 (0,0))) (hBw:B≤w.heap.size) (hl:xs.length≤1048576) :
  Calls Tryz.prog 160 #[v,.int .i64 (k:Int),.slice (some ⟨g2,0,none⟩) 1 1] w fun e w'=>∃ v',e=.returned v'∧OwnAt RVal 1 w' B 9 v' (xs.take k++x :: xs.drop k)∧Below B w w'∧SameBut 9 w w':=by
 obtain⟨i0,hi0,hz0,hz1,hz2⟩:=info_parts Tryz.infoStr
 have mixed:Tryz.prog.follows .mixedOrders=true:=by kernel_rfl
 have hsz:(Tryz.prog.info? 9).map (·.size)=some 1:=by rw [hi0];simp [hz1]
 have hon:=putin_ones (k:=k) h.ones hx
 have ho:=own_raw h
 have h1c:=h.ones
 have hvs:∀ (j:Nat) (u:Value),[x][j]? = some u→w.cell? ⟨g2,0+j,none⟩=some u:=fun j u hu=>by
  rw [Nat.zero_add,cell_block h2]
  simpa using hu
 have h1v:∀ u∈[x],u.oneCell'=true:=fun u hu=>by rw [List.mem_singleton.1 hu];exact hx
 have hg2w:g2<w.heap.size:=by
  rcases Nat.lt_or_ge g2 w.heap.size with h9 | h9
  ·exact h9
  ·rw [Array.getElem?_eq_none h9] at h2;cases h2
 rcases Nat.lt_or_ge k xs.length with hkl | hkl
 ·rcases ho.2 with ⟨_,h0⟩ | ⟨g,c,cur,rfl,hB,hh,hlc,hc,hcs,htk⟩
  ·omega
  ·have hcur:∀ (j:Nat) (y:Value),xs[j]? = some y→cur[j]? = some y:=fun j y hy=>by
    have:=ho.cells (g:=g) rfl j y hy
    rw [add_plain',Nat.zero_add,cell_block hh] at this
    exact this
   have hcell:∀ (j:Nat) (u:Value),xs[j]? = some u→w.cell? ⟨g,j,none⟩=some u:=fun j u hu=>by rw [cell_block hh];exact hcur j u hu
   have hgw:g<w.heap.size:=by
    rcases Nat.lt_or_ge g w.heap.size with h9 | h9
    ·exact h9
    ·rw [Array.getElem?_eq_none h9] at hh;cases hh
   have hdl:(xs.drop k).length=xs.length - k:=by rw [List.length_drop]
   obtain⟨n,hn⟩:∃ n,xs.length=n:=⟨_,rfl⟩
   have q1:¬((k:Int)=(n:Int)):=by omega
   have q1b:((k:Int) == (n:Int))=false:=by rw [beq_eq_false_iff_ne];omega
   have w1:IntKind.i64.wrap ((k:Int)+1)=(k:Int)+1:=by rw [IntKind.wrap_i64];omega
   have w2:IntKind.i64.wrap ((n:Int)+1)=(n:Int)+1:=by rw [IntKind.wrap_i64];omega
   have w3:IntKind.i64.wrap ((n:Int)+1 - (k:Int))=(n:Int)+1 - (k:Int):=by rw [IntKind.wrap_i64];omega
   have p1:(0:Int)≤(k:Int)+1:=by omega
   have p2:k≤n:=by omega
   have p3:((k:Int)+1).toNat=k+1:=by omega
   have p4:(k:Int)≤(n:Int):=by omega
   have p5:¬(c=k):=by omega
   have p7:(k:Int)≤(n:Int)+1:=by omega
   have p8:k+1≤n+1:=by omega
   have p9:((n:Int)+1).toNat=n+1:=by omega
   rw [hn] at hlc hdl hkl hk hl
   rcases Nat.lt_or_ge n c with hroom | hroom
   ·-- there is room: the cells behind move up
    have hng:g≠g2:=fun e=>by
     rw [e,h2] at hh
     cases hh
     have h9:(1:Nat)=c*1:=hcs
     omega
    have p6:¬(c=k+1):=by omega
    have q2:¬((c:Int)<(n:Int)+1):=by omega
    have hsome:∀ j,j<c→(w.cell? ⟨g,j,none⟩).isSome=true:=fun j hj=>by rw [cell_block hh];simp;omega
    have hfz:∀ j,w.frozen? ⟨g,j,none⟩=false:=fun j=>free_block hh j
    have hov:∀ lb cb,(callFunc 184 #[.slice (some ⟨g2,0,none⟩) 1 1,.slice (some ⟨g,k+1,none⟩) lb cb]).run Tryz.prog w=.ok (.value (.bool false)) w:=fun lb cb=>by
     rw [run_callFunc_extern Tryz.func184 (by kernel_rfl) (by kernel_rfl) (by kernel_rfl) (e:=Extern.SlicesOverlaps.overlaps #[28,28] #[4]) (by kernel_rfl),
      Lib.run_overlaps_apart w 28 4 9 Tryz.underlying28 1 Tryz.sizeOf9 ⟨g2,0,none⟩ ⟨g,k+1,none⟩ 1 1 lb cb (fun e=>hng e.symm) 9 9 1 c (by unfold World.shape?;rw [h2];rfl) (by unfold World.shape?;rw [hh];simp;omega) (by omega) (free_block h2 _) (free_block h2 _)]
     rfl
    have hcp1:∀ ty dc sc,(Builtin.copy_ #[28,28] ty #[.slice (some ⟨g,k+1,none⟩) (n - k) dc,.slice (some ⟨g,k,none⟩) (n+1 - k) sc]).run Tryz.prog w.drew=.ok (goInt (xs.drop k).length) (w.drew.setCells g (k+1) (xs.drop k)):=fun ty dc sc=>
     run_copy_cells w.drew _ _ ty 9 g (k+1) (n - k) dc ⟨g,k,none⟩ (n+1 - k) sc (xs.drop k) Tryz.underlying28 hsz (by rw [hdl];simp only [Nat.min_def];split<;>omega)
      (fun j u hj=>by rw [Addr.add_lit];exact hcell (k+j) u (by rwa [List.getElem?_drop] at hj))
      (fun j hj=>hsome _ (by omega)) (fun j _=>hfz _) (fun u hu=>h1c u (List.mem_of_mem_drop hu))
    obtain⟨cur1,r1,r2,r3,r4,r6,r5⟩:=setCells_row g 9 (xs.drop k) (k+1) cur w.drew hh (by rw [hdl];omega)
    obtain⟨W1,hW1⟩:∃ W1,W1=w.drew.setCells g (k+1) (xs.drop k):=⟨_,rfl⟩
    rw [←hW1] at hcp1 r1 r5
    have hcp2:∀ (W:World),(∀ p,W.cell? p=W1.cell? p)→(∀ p,W.frozen? p=W1.frozen? p)→∀ ty dc,(Builtin.copy_ #[28,28] ty #[.slice (some ⟨g,k,none⟩) (n+1 - k) dc,.slice (some ⟨g2,0,none⟩) 1 1]).run Tryz.prog W=.ok (goInt [x].length) (W.setCells g k [x]):=fun W hWc hWf ty dc=>
     run_copy_cells W _ _ ty 9 g k (n+1 - k) dc ⟨g2,0,none⟩ 1 1 [x] Tryz.underlying28 hsz (by simp only [List.length_cons,List.length_nil,Nat.min_def];split<;>omega)
      (fun j u hj=>by
       rw [Addr.add_lit,hWc,hW1,setCells_cell g _ _ _ _ (fun e=>hng e.symm)]
       exact hvs j u hj)
      (fun j hj=>by rw [hWc,cell_block r1];simp at hj ⊢;omega) (fun j _=>by rw [hWf];exact free_block r1 _) h1v
    obtain⟨cur2,s1,s2,s3,s4,s6,s5⟩:=setCells_row g 9 [x] k cur1 W1 r1 (by simp;omega)
    have hown:OwnAt RVal 1 (W1.setCells g k [x]) B 9 (.slice (some ⟨g,0,none⟩) (n+1) c) (xs.take k++x :: xs.drop k):=by
     have hI:=own_of_cells (xs:=xs.take k++x :: xs.drop k) (c:=c) (B:=B) s1 hB (by rw [putin_len (by omega)];omega) hc (by rw [s2,r2,hcs,Nat.mul_one]) (fun j y hj=>by
      rw [putin_get (by omega)] at hj
      by_cases h5:j<k
      ·rw [if_pos h5] at hj
       rw [s3 j h5,r3 j (by omega)]
       exact hcur j y hj
      ·rw [if_neg h5] at hj
       by_cases h6:j=k
       ·rw [if_pos h6] at hj
        cases hj
        subst h6
        have:=s4 0 _ rfl
        rwa [Nat.add_zero] at this
       ·rw [if_neg h6] at hj
        rw [s6 j (by simp;omega)]
        have:=r4 (j - (k+1)) y (by rw [List.getElem?_drop,show k+(j - (k+1))=j - 1 by omega];exact hj)
        rwa [show k+1+(j - (k+1))=j by omega] at this) hon
     rw [putin_len (by omega),hn] at hI
     exact hI
    have hbel:Below B w (W1.setCells g k [x]):=Touch.below s5 (Touch.below r5 (Below.refl _ w).drew hB) hB
    have hsame:SameBut 9 w (W1.setCells g k [x]):=fun b cs t fr hb ht=>by
     have hbg:b≠g:=fun e=>by rw [e,hh] at hb;cases hb;exact ht rfl
     exact (s5.other b hbg).trans ((r5.other b hbg).trans hb)
    have Hsame:=Lib.hid hsame
    have Hown:=Lib.hid hown
    have Hbel:=Lib.hid hbel
    clear hW1 hsame
    clear hown hbel hcell hcur hsome hfz r1 r2 r3 r4 r5 r6 s1 s2 s3 s4 s5 s6 hon ho h1c hvs h1v hdl htk hcs
    rw [hn]
    go_enter Tryz.func160,Tryz.ntmps160
    go_wp2_with (simp only [hov])
    go_region_law_o (refine step_copy_runI rfl _ _ 28 28 rfl _ _ (by simp [Act.eval,Act.put]) (by simp [Act.eval,Act.put]) (hcp1 _ _ _) ?_)
    go_wp2_with (at_builtin;refine wpList_copy_runI _ rfl _ _ 28 28 rfl _ _ rfl rfl (hcp2 _ (fun _=>rfl) (fun _=>rfl) _ _) ?_)
    go_ret
    exact⟨_,rfl,Hown.out,Hbel.out,Hsame.out⟩
   ·-- no room: a new row
    obtain rfl:c=n:=by omega
    have p6:(c:Int)<(c:Int)+1:=by omega
    have hkk:(c:Int)+1 - (k:Int)=((c+1 - k:Nat):Int):=by omega
    have hik:k+(c+1 - k)=c+1:=by omega
    obtain⟨G,hG⟩:∃ G,G=grownCap w (c+1) c 9:=⟨_,rfl⟩
    have hold:(Builtin.firstCells i0.size k (.slice (some ⟨g,0,none⟩) k c)).run Tryz.prog w.drew=.ok (xs.take k).toArray w.drew:=by
     rw [hz1]
     exact run_firstCells_some w.drew 1 k ⟨g,0,none⟩ k c (xs.take k) (by rw [List.length_take];omega) (fun j u hj=>by
      rw [Addr.add_lit,Nat.zero_add]
      rw [List.getElem?_take] at hj
      split at hj
      ·exact hcell j u hj
      ·cases hj)
    obtain⟨ROW,hROW⟩:∃ ROW:Array Value,ROW=(xs.take k).toArray++Builtin.zeroCells (.string ⟨#[]⟩:Value).cells (c+1 - k)++Builtin.zeroCells (.string ⟨#[]⟩:Value).cells (G - (c+1)):=⟨_,rfl⟩
    have hrz:∀ ty,(Builtin.append_ #[28,3] ty #[.slice (some ⟨g,0,none⟩) k c,.int .i64 ((c:Int)+1 - (k:Int))]).run Tryz.prog w=.ok (.slice (some ⟨w.heap.size,0,none⟩) (c+1) G) (w.drew.alloc (.cells ROW 9)):=fun ty=>by
     have h9:=Lib.run_append_grow_zeros w 28 3 ty 9 i0 _ .i64 .i64 Tryz.underlying28 Tryz.underlying3 hi0 hz0 (some ⟨g,0,none⟩) k c (xs.take k) hold (c+1 - k) (by omega) (by omega) (by omega) (by omega) (by rw [hz2];omega) (by rw [hz2,hik];exact growslice_fits (by omega) (by omega))
     rw [hik] at h9
     rw [hkk,hROW,hG]
     exact h9
    have hGn:c+1≤G:=by rw [hG];exact grownCap_ge w _ _ _
    have hGm:G≤maxLen:=by rw [hG];exact grownCap_le_maxLen w (c+1) c 9 (by unfold maxLen;omega)
    have hG63:G≤9223372036854775807:=by unfold maxLen at hGm;omega
    have hRs:ROW.size=G:=by rw [hROW,Array.size_append,Array.size_append,size_zeroCells,size_zeroCells];simp [Value.cells];omega
    have hlow:∀ (j:Nat) (y:Value),j<k→xs[j]? = some y→ROW[j]? = some y:=fun j y hj hy=>by
     rw [hROW,Array.append_assoc,Array.getElem?_append_left (by simp;omega)]
     simp only [List.getElem?_toArray]
     rw [List.getElem?_take_of_lt hj]
     exact hy
    obtain⟨W1,hW1⟩:∃ W1,W1=w.drew.alloc (.cells ROW 9):=⟨_,rfl⟩
    rw [←hW1] at hrz
    have b1:W1.heap[w.heap.size]? = some (.cells ROW 9 (0,0)):=by rw [hW1];exact heap_alloc_new w.drew _
    have hb1:Below w.heap.size w W1:=by rw [hW1];exact (Below.refl _ w).drew.alloc (Nat.le_refl _) _
    have hcpA:∀ (W:World),(∀ p,W.cell? p=W1.cell? p)→(∀ p,W.frozen? p=W1.frozen? p)→∀ ty dc,(Builtin.copy_ #[28,28] ty #[.slice (some ⟨w.heap.size,k,none⟩) (c+1 - k) dc,.slice (some ⟨g2,0,none⟩) 1 1]).run Tryz.prog W=.ok (goInt [x].length) (W.setCells w.heap.size k [x]):=fun W hWc hWf ty dc=>
     run_copy_cells W _ _ ty 9 w.heap.size k (c+1 - k) dc ⟨g2,0,none⟩ 1 1 [x] Tryz.underlying28 hsz (by simp only [List.length_cons,List.length_nil,Nat.min_def];split<;>omega)
      (fun j u hj=>by rw [Addr.add_lit,hWc];exact (hb1.cell (p:=⟨g2,0+j,none⟩) hg2w).trans (hvs j u hj))
      (fun j hj=>by rw [hWc,cell_block b1];simp at hj ⊢;omega) (fun j _=>by rw [hWf];exact free_block b1 _) h1v
    obtain⟨cur1,r1,r2,r3,r4,r6,r5⟩:=setCells_row w.heap.size 9 [x] k ROW W1 b1 (by simp;omega)
    obtain⟨W2,hW2⟩:∃ W2,W2=W1.setCells w.heap.size k [x]:=⟨_,rfl⟩
    rw [←hW2] at r1 r5
    have hcpB:∀ (W:World),(∀ p,W.cell? p=W2.cell? p)→(∀ p,W.frozen? p=W2.frozen? p)→∀ ty dc sc,(Builtin.copy_ #[28,28] ty #[.slice (some ⟨w.heap.size,k+1,none⟩) (c - k) dc,.slice (some ⟨g,k,none⟩) (c - k) sc]).run Tryz.prog W=.ok (goInt (xs.drop k).length) (W.setCells w.heap.size (k+1) (xs.drop k)):=fun W hWc hWf ty dc sc=>
     run_copy_cells W _ _ ty 9 w.heap.size (k+1) (c - k) dc ⟨g,k,none⟩ (c - k) sc (xs.drop k) Tryz.underlying28 hsz (by rw [hdl];simp only [Nat.min_def];split<;>omega)
      (fun j u hj=>by
       rw [Addr.add_lit,hWc,hW2,setCells_cell _ _ _ _ _ (by show g≠w.heap.size;omega)]
       exact (hb1.cell (p:=⟨g,k+j,none⟩) hgw).trans (hcell (k+j) u (by rwa [List.getElem?_drop] at hj)))
      (fun j hj=>by rw [hWc,cell_block r1];simp at hj ⊢;omega) (fun j _=>by rw [hWf];exact free_block r1 _) (fun u hu=>h1c u (List.mem_of_mem_drop hu))
    obtain⟨W3,hW3⟩:∃ W3,W3=W2.drew:=⟨_,rfl⟩
    have r1':W3.heap[w.heap.size]? = some (.cells cur1 9 (0,0)):=by rw [hW3];exact r1
    obtain⟨cur2,s1,s2,s3,s4,s6,s5⟩:=setCells_row w.heap.size 9 (xs.drop k) (k+1) cur1 W3 r1' (by rw [hdl];omega)
    have hown:OwnAt RVal 1 (W3.setCells w.heap.size (k+1) (xs.drop k)) B 9 (.slice (some ⟨w.heap.size,0,none⟩) (c+1) G) (xs.take k++x :: xs.drop k):=by
     have hI:=own_of_cells (xs:=xs.take k++x :: xs.drop k) (c:=G) (B:=B) s1 hBw (by rw [putin_len (by omega)];omega) hGm (by rw [s2,r2,hRs]) (fun j y hj=>by
      rw [putin_get (by omega)] at hj
      by_cases h5:j<k
      ·rw [if_pos h5] at hj
       rw [s3 j (by omega),r3 j h5]
       exact hlow j y h5 hj
      ·rw [if_neg h5] at hj
       by_cases h6:j=k
       ·rw [if_pos h6] at hj
        cases hj
        subst h6
        rw [s3 j (by omega)]
        have:=r4 0 _ rfl
        rwa [Nat.add_zero] at this
       ·rw [if_neg h6] at hj
        have:=s4 (j - (k+1)) y (by rw [List.getElem?_drop,show k+(j - (k+1))=j - 1 by omega];exact hj)
        rwa [show k+1+(j - (k+1))=j by omega] at this) hon
     rw [putin_len (by omega),hn] at hI
     exact hI
    have hbel:Below B w (W3.setCells w.heap.size (k+1) (xs.drop k)):=Touch.below s5 (by rw [hW3];exact (Touch.below r5 (hb1.mono hBw) hBw).drew) hBw
    have hsame:SameBut 9 w (W3.setCells w.heap.size (k+1) (xs.drop k)):=sameBut_below (Touch.below s5 (by rw [hW3];exact (Touch.below r5 hb1 (Nat.le_refl _)).drew) (Nat.le_refl _))
    have Hsame:=Lib.hid hsame
    have Hown:=Lib.hid hown
    have Hbel:=Lib.hid hbel
    clear hsame
    have HW2:=Lib.hid hW2
    subst hW3
    clear hW1 hW2
    have m1:¬(G=k):=by omega
    have m2:¬(G=k+1):=by omega
    clear hown hbel hcell hcur r1 r2 r3 r4 r5 r6 r1' s1 s2 s3 s4 s5 s6 hon ho h1c hvs h1v hdl htk hcs hold hlow hRs hkk hik hb1 b1 hG hROW
    rw [hn]
    go_enter Tryz.func160,Tryz.ntmps160
    go_wp2_with (first
     | (at_builtin;refine Lib.wpList_append_run _ rfl _ _ _ _ rfl _ _ rfl rfl _ _ (hrz _) ?_)
     | (at_builtin;refine wpList_copy_runI _ rfl _ _ 28 28 rfl _ _ rfl rfl (hcpA _ (fun _=>rfl) (fun _=>rfl) _ _) ?_))
    rw [←HW2.out]
    go_region_law_o (refine step_copy_runI rfl _ _ 28 28 rfl (.slice (some ⟨w.heap.size,k+1,none⟩) (c - k) (G - (k+1))) (.slice (some ⟨g,k,none⟩) (c - k) (c - k)) (by simp [Act.eval,Act.put]) (by simp [Act.eval,Act.put]) (hcpB W2.drew (fun _=>rfl) (fun _=>rfl) 3 (G - (k+1)) (c - k)) ?_)
    go_wp2_with fail
    go_ret
    exact⟨_,rfl,Hown.out,Hbel.out,Hsame.out⟩
 ·obtain rfl:k=xs.length:=by omega
  have hend:xs.take xs.length++x :: xs.drop xs.length=xs++[x]:=by rw [List.take_length,List.drop_length]
  rw [hend]
  obtain⟨a,c,rfl,hcl,hcm⟩:=h.row.len
  have H:=Lib.hid h
  have Hrow:Hid (RowAt RVal 1 w (.slice (some ⟨g2,0,none⟩) 1 1) [x]):=Lib.hid (RowAt.one h2 rfl ⟨rfl,hx⟩)
  have hb:Below B w w:=Below.refl _ _
  unfold maxLen at hcm
  obtain⟨n,Hn⟩:∃ n,Hid (xs.length=n):=⟨_,Lib.hid rfl⟩
  rw [Hn.out] at hcl ⊢
  have Hs:Hid (OwnAt RVal 1 w B 9 (.slice a n c) xs):=by rw [←Hn.out];exact H
  have hl2:n≤1048576:=by rw [←Hn.out];exact hl
  have hxl:xs.length≤1048576:=hl
  clear h ho h1c hvs h1v hon hend h2 hkl hk H hl
  have hform:a=none∨∃ g,a=some ⟨g,0,none⟩:=by
   rcases Hs.out.form with ⟨h9,_⟩ | ⟨g,c',h9,_⟩
   ·cases h9;exact .inl rfl
   ·injection h9 with h9;exact .inr ⟨g,h9⟩
  rcases hform with rfl | ⟨g,rfl⟩
  ·obtain⟨rfl,rfl⟩:n=0∧c=0:=by
    rcases Hs.out.form with ⟨h9,_⟩ | ⟨g,c',h9,_⟩
    ·cases h9;exact⟨rfl,rfl⟩
    ·cases h9
   go_enter Tryz.func160,Tryz.ntmps160
   go_wp2_with (at_builtin;refine wpList_append_ownAt (R:=RVal) (k:=1) (e:=9) (B:=B) (l:=xs) (m:=[x]) _ (by rfl) _ _ _ (by rfl) i0 _ 16 Tryz.underlying28 hi0 hz0 hz1 hz2 rfl (by omega) flat_val one_val _ (by rfl) Hs.out _ (by rfl) Hrow.out (by unfold maxLen;simp;omega) (by simp;omega) hBw ?_)
   intro v' w' hv' hg hr _
   have hb2:Below B w w':=below_of_grown hb hBw hg hr
   have hb3:SameBut 9 w w':=Hs.out.sameBut hg
   go_wp2_with fail
   go_ret
   exact⟨_,rfl,hv',hb2,hb3⟩
  ·by_cases hcn:c=n
   ·subst hcn
    have p1:(0:Int)≤(c:Int):=by omega
    go_enter Tryz.func160,Tryz.ntmps160
    go_wp2_with (at_builtin;refine wpList_append_ownAt (R:=RVal) (k:=1) (e:=9) (B:=B) (l:=xs) (m:=[x]) _ (by rfl) _ _ _ (by rfl) i0 _ 16 Tryz.underlying28 hi0 hz0 hz1 hz2 rfl (by omega) flat_val one_val _ (by rfl) Hs.out _ (by rfl) Hrow.out (by unfold maxLen;simp;omega) (by simp;omega) hBw ?_)
    intro v' w' hv' hg hr _
    have hb2:Below B w w':=below_of_grown hb hBw hg hr
    have hb3:SameBut 9 w w':=Hs.out.sameBut hg
    go_wp2_with fail
    go_ret
    exact⟨_,rfl,hv',hb2,hb3⟩
   ·have p1:(0:Int)≤(n:Int):=by omega
    go_enter Tryz.func160,Tryz.ntmps160
    go_wp2_with (at_builtin;refine wpList_append_ownAt (R:=RVal) (k:=1) (e:=9) (B:=B) (l:=xs) (m:=[x]) _ (by rfl) _ _ _ (by rfl) i0 _ 16 Tryz.underlying28 hi0 hz0 hz1 hz2 rfl (by omega) flat_val one_val _ (by rfl) Hs.out _ (by rfl) Hrow.out (by unfold maxLen;simp;omega) (by simp;omega) hBw ?_)
    intro v' w' hv' hg hr _
    have hb2:Below B w w':=below_of_grown hb hBw hg hr
    have hb3:SameBut 9 w w':=Hs.out.sameBut hg
    go_wp2_with fail
    go_ret
    exact⟨_,rfl,hv',hb2,hb3⟩
theorem Tryz.infoVal:(Tryz.prog.info? 125).map (fun i=>(i.zero,i.size,i.bytes))=some (some (.nilIface),1,16):=by kernel_rfl
set_option maxRecDepth 100000 in
theorem cloneVal_any (v:Value) (xs:List Value) (w:World) (h:RowAt RVal 1 w v xs) (hl:xs.length≤1073741824) :
  Calls Tryz.prog 159 #[v] w fun e w'=>∃ v',e=.returned v'∧OwnAt RVal 1 w' w.heap.size 125 v' xs∧Below w.heap.size w w':=by
 obtain⟨i0,hi0,hz0,hz1,hz2⟩:=info_parts Tryz.infoVal
 have hrow:=h
 have hn:=fun (w:World) (a:Option Addr) (n c:Nat)=>Lib.run_eql_slice_nil (P:=Tryz.prog) w 188 125 a n c 0 0 Tryz.underlying188
 rcases h with ⟨rfl,rfl⟩ | ⟨a,c,rfl,_,_,_⟩
 ·go_enter Tryz.func159,Tryz.ntmps159
  go_wp2_with fail
  go_ret
  exact⟨_,rfl,OwnAt.nil _,Below.refl _ _⟩
 ·have Hrow:=Lib.hid hrow
  clear hrow
  go_enter Tryz.func159,Tryz.ntmps159
  go_wp2_with (at_builtin;refine wpList_append_ownAt (R:=RVal) (k:=1) (e:=125) (B:=w.heap.size) (l:=[]) (m:=xs) _ (by rfl) _ _ _ (by rfl) i0 _ 16 Tryz.underlying188 hi0 hz0 hz1 hz2 rfl (by omega) flat_val one_val _ (by rfl) (own_empty w 1 _ (Nat.le_refl _)) _ (by rfl) (Hrow.out.below stays_val ((Below.refl _ _).alloc (Nat.le_refl _) _)) (by unfold maxLen;simp;omega) (by simp;omega) (by simp) ?_)
  intro v' w' hv' hg hr _
  have hb:Below w.heap.size w w':=below_of_grown ((Below.refl _ _).alloc (Nat.le_refl _) _) (by simp) hg hr
  go_wp2_with fail
  go_ret
  exact⟨_,rfl,by simpa using hv',hb⟩
set_option maxRecDepth 100000 in
set_option maxHeartbeats 3200000 in
theorem insVal_any (v:Value) (xs:List Value) (B k:Nat) (x:Value) (g2:Nat) (w:World) (h:OwnAt RVal 1 w B 125 v xs) (hk:k≤xs.length) (hx:x.oneCell'=true) (h2:w.heap[g2]? = some (.cells #[x] 125 (0,0))) (hBw:B≤w.heap.size) (hl:xs.length≤1048576) :
  Calls Tryz.prog 161 #[v,.int .i64 (k:Int),.slice (some ⟨g2,0,none⟩) 1 1] w fun e w'=>∃ v',e=.returned v'∧OwnAt RVal 1 w' B 125 v' (xs.take k++x :: xs.drop k)∧Below B w w'∧SameBut 125 w w':=by
 obtain⟨i0,hi0,hz0,hz1,hz2⟩:=info_parts Tryz.infoVal
 have mixed:Tryz.prog.follows .mixedOrders=true:=by kernel_rfl
 have hsz:(Tryz.prog.info? 125).map (·.size)=some 1:=by rw [hi0];simp [hz1]
 have hon:=putin_ones (k:=k) h.ones hx
 have ho:=own_raw h
 have h1c:=h.ones
 have hvs:∀ (j:Nat) (u:Value),[x][j]? = some u→w.cell? ⟨g2,0+j,none⟩=some u:=fun j u hu=>by
  rw [Nat.zero_add,cell_block h2]
  simpa using hu
 have h1v:∀ u∈[x],u.oneCell'=true:=fun u hu=>by rw [List.mem_singleton.1 hu];exact hx
 have hg2w:g2<w.heap.size:=by
  rcases Nat.lt_or_ge g2 w.heap.size with h9 | h9
  ·exact h9
  ·rw [Array.getElem?_eq_none h9] at h2;cases h2
 rcases Nat.lt_or_ge k xs.length with hkl | hkl
 ·rcases ho.2 with ⟨_,h0⟩ | ⟨g,c,cur,rfl,hB,hh,hlc,hc,hcs,htk⟩
  ·omega
  ·have hcur:∀ (j:Nat) (y:Value),xs[j]? = some y→cur[j]? = some y:=fun j y hy=>by
    have:=ho.cells (g:=g) rfl j y hy
    rw [add_plain',Nat.zero_add,cell_block hh] at this
    exact this
   have hcell:∀ (j:Nat) (u:Value),xs[j]? = some u→w.cell? ⟨g,j,none⟩=some u:=fun j u hu=>by rw [cell_block hh];exact hcur j u hu
   have hgw:g<w.heap.size:=by
    rcases Nat.lt_or_ge g w.heap.size with h9 | h9
    ·exact h9
    ·rw [Array.getElem?_eq_none h9] at hh;cases hh
   have hdl:(xs.drop k).length=xs.length - k:=by rw [List.length_drop]
   obtain⟨n,hn⟩:∃ n,xs.length=n:=⟨_,rfl⟩
   have q1:¬((k:Int)=(n:Int)):=by omega
   have q1b:((k:Int) == (n:Int))=false:=by rw [beq_eq_false_iff_ne];omega
   have w1:IntKind.i64.wrap ((k:Int)+1)=(k:Int)+1:=by rw [IntKind.wrap_i64];omega
   have w2:IntKind.i64.wrap ((n:Int)+1)=(n:Int)+1:=by rw [IntKind.wrap_i64];omega
   have w3:IntKind.i64.wrap ((n:Int)+1 - (k:Int))=(n:Int)+1 - (k:Int):=by rw [IntKind.wrap_i64];omega
   have p1:(0:Int)≤(k:Int)+1:=by omega
   have p2:k≤n:=by omega
   have p3:((k:Int)+1).toNat=k+1:=by omega
   have p4:(k:Int)≤(n:Int):=by omega
   have p5:¬(c=k):=by omega
   have p7:(k:Int)≤(n:Int)+1:=by omega
   have p8:k+1≤n+1:=by omega
   have p9:((n:Int)+1).toNat=n+1:=by omega
   rw [hn] at hlc hdl hkl hk hl
   rcases Nat.lt_or_ge n c with hroom | hroom
   ·-- there is room: the cells behind move up
    have hng:g≠g2:=fun e=>by
     rw [e,h2] at hh
     cases hh
     have h9:(1:Nat)=c*1:=hcs
     omega
    have p6:¬(c=k+1):=by omega
    have q2:¬((c:Int)<(n:Int)+1):=by omega
    have hsome:∀ j,j<c→(w.cell? ⟨g,j,none⟩).isSome=true:=fun j hj=>by rw [cell_block hh];simp;omega
    have hfz:∀ j,w.frozen? ⟨g,j,none⟩=false:=fun j=>free_block hh j
    have hov:∀ lb cb,(callFunc 186 #[.slice (some ⟨g2,0,none⟩) 1 1,.slice (some ⟨g,k+1,none⟩) lb cb]).run Tryz.prog w=.ok (.value (.bool false)) w:=fun lb cb=>by
     rw [run_callFunc_extern Tryz.func186 (by kernel_rfl) (by kernel_rfl) (by kernel_rfl) (e:=Extern.SlicesOverlaps.overlaps #[188,188] #[4]) (by kernel_rfl),
      Lib.run_overlaps_apart w 188 4 125 Tryz.underlying188 1 Tryz.sizeOf125 ⟨g2,0,none⟩ ⟨g,k+1,none⟩ 1 1 lb cb (fun e=>hng e.symm) 125 125 1 c (by unfold World.shape?;rw [h2];rfl) (by unfold World.shape?;rw [hh];simp;omega) (by omega) (free_block h2 _) (free_block h2 _)]
     rfl
    have hcp1:∀ ty dc sc,(Builtin.copy_ #[188,188] ty #[.slice (some ⟨g,k+1,none⟩) (n - k) dc,.slice (some ⟨g,k,none⟩) (n+1 - k) sc]).run Tryz.prog w.drew=.ok (goInt (xs.drop k).length) (w.drew.setCells g (k+1) (xs.drop k)):=fun ty dc sc=>
     run_copy_cells w.drew _ _ ty 125 g (k+1) (n - k) dc ⟨g,k,none⟩ (n+1 - k) sc (xs.drop k) Tryz.underlying188 hsz (by rw [hdl];simp only [Nat.min_def];split<;>omega)
      (fun j u hj=>by rw [Addr.add_lit];exact hcell (k+j) u (by rwa [List.getElem?_drop] at hj))
      (fun j hj=>hsome _ (by omega)) (fun j _=>hfz _) (fun u hu=>h1c u (List.mem_of_mem_drop hu))
    obtain⟨cur1,r1,r2,r3,r4,r6,r5⟩:=setCells_row g 125 (xs.drop k) (k+1) cur w.drew hh (by rw [hdl];omega)
    obtain⟨W1,hW1⟩:∃ W1,W1=w.drew.setCells g (k+1) (xs.drop k):=⟨_,rfl⟩
    rw [←hW1] at hcp1 r1 r5
    have hcp2:∀ (W:World),(∀ p,W.cell? p=W1.cell? p)→(∀ p,W.frozen? p=W1.frozen? p)→∀ ty dc,(Builtin.copy_ #[188,188] ty #[.slice (some ⟨g,k,none⟩) (n+1 - k) dc,.slice (some ⟨g2,0,none⟩) 1 1]).run Tryz.prog W=.ok (goInt [x].length) (W.setCells g k [x]):=fun W hWc hWf ty dc=>
     run_copy_cells W _ _ ty 125 g k (n+1 - k) dc ⟨g2,0,none⟩ 1 1 [x] Tryz.underlying188 hsz (by simp only [List.length_cons,List.length_nil,Nat.min_def];split<;>omega)
      (fun j u hj=>by
       rw [Addr.add_lit,hWc,hW1,setCells_cell g _ _ _ _ (fun e=>hng e.symm)]
       exact hvs j u hj)
      (fun j hj=>by rw [hWc,cell_block r1];simp at hj ⊢;omega) (fun j _=>by rw [hWf];exact free_block r1 _) h1v
    obtain⟨cur2,s1,s2,s3,s4,s6,s5⟩:=setCells_row g 125 [x] k cur1 W1 r1 (by simp;omega)
    have hown:OwnAt RVal 1 (W1.setCells g k [x]) B 125 (.slice (some ⟨g,0,none⟩) (n+1) c) (xs.take k++x :: xs.drop k):=by
     have hI:=own_of_cells (xs:=xs.take k++x :: xs.drop k) (c:=c) (B:=B) s1 hB (by rw [putin_len (by omega)];omega) hc (by rw [s2,r2,hcs,Nat.mul_one]) (fun j y hj=>by
      rw [putin_get (by omega)] at hj
      by_cases h5:j<k
      ·rw [if_pos h5] at hj
       rw [s3 j h5,r3 j (by omega)]
       exact hcur j y hj
      ·rw [if_neg h5] at hj
       by_cases h6:j=k
       ·rw [if_pos h6] at hj
        cases hj
        subst h6
        have:=s4 0 _ rfl
        rwa [Nat.add_zero] at this
       ·rw [if_neg h6] at hj
        rw [s6 j (by simp;omega)]
        have:=r4 (j - (k+1)) y (by rw [List.getElem?_drop,show k+(j - (k+1))=j - 1 by omega];exact hj)
        rwa [show k+1+(j - (k+1))=j by omega] at this) hon
     rw [putin_len (by omega),hn] at hI
     exact hI
    have hbel:Below B w (W1.setCells g k [x]):=Touch.below s5 (Touch.below r5 (Below.refl _ w).drew hB) hB
    have hsame:SameBut 125 w (W1.setCells g k [x]):=fun b cs t fr hb ht=>by
     have hbg:b≠g:=fun e=>by rw [e,hh] at hb;cases hb;exact ht rfl
     exact (s5.other b hbg).trans ((r5.other b hbg).trans hb)
    have Hsame:=Lib.hid hsame
    have Hown:=Lib.hid hown
    have Hbel:=Lib.hid hbel
    clear hW1 hsame
    clear hown hbel hcell hcur hsome hfz r1 r2 r3 r4 r5 r6 s1 s2 s3 s4 s5 s6 hon ho h1c hvs h1v hdl htk hcs
    rw [hn]
    go_enter Tryz.func161,Tryz.ntmps161
    go_wp2_with (simp only [hov])
    go_region_law_o (refine step_copy_runI rfl _ _ 188 188 rfl _ _ (by simp [Act.eval,Act.put]) (by simp [Act.eval,Act.put]) (hcp1 _ _ _) ?_)
    go_wp2_with (at_builtin;refine wpList_copy_runI _ rfl _ _ 188 188 rfl _ _ rfl rfl (hcp2 _ (fun _=>rfl) (fun _=>rfl) _ _) ?_)
    go_ret
    exact⟨_,rfl,Hown.out,Hbel.out,Hsame.out⟩
   ·-- no room: a new row
    obtain rfl:c=n:=by omega
    have p6:(c:Int)<(c:Int)+1:=by omega
    have hkk:(c:Int)+1 - (k:Int)=((c+1 - k:Nat):Int):=by omega
    have hik:k+(c+1 - k)=c+1:=by omega
    obtain⟨G,hG⟩:∃ G,G=grownCap w (c+1) c 125:=⟨_,rfl⟩
    have hold:(Builtin.firstCells i0.size k (.slice (some ⟨g,0,none⟩) k c)).run Tryz.prog w.drew=.ok (xs.take k).toArray w.drew:=by
     rw [hz1]
     exact run_firstCells_some w.drew 1 k ⟨g,0,none⟩ k c (xs.take k) (by rw [List.length_take];omega) (fun j u hj=>by
      rw [Addr.add_lit,Nat.zero_add]
      rw [List.getElem?_take] at hj
      split at hj
      ·exact hcell j u hj
      ·cases hj)
    obtain⟨ROW,hROW⟩:∃ ROW:Array Value,ROW=(xs.take k).toArray++Builtin.zeroCells (.nilIface:Value).cells (c+1 - k)++Builtin.zeroCells (.nilIface:Value).cells (G - (c+1)):=⟨_,rfl⟩
    have hrz:∀ ty,(Builtin.append_ #[188,3] ty #[.slice (some ⟨g,0,none⟩) k c,.int .i64 ((c:Int)+1 - (k:Int))]).run Tryz.prog w=.ok (.slice (some ⟨w.heap.size,0,none⟩) (c+1) G) (w.drew.alloc (.cells ROW 125)):=fun ty=>by
     have h9:=Lib.run_append_grow_zeros w 188 3 ty 125 i0 _ .i64 .i64 Tryz.underlying188 Tryz.underlying3 hi0 hz0 (some ⟨g,0,none⟩) k c (xs.take k) hold (c+1 - k) (by omega) (by omega) (by omega) (by omega) (by rw [hz2];omega) (by rw [hz2,hik];exact growslice_fits (by omega) (by omega))
     rw [hik] at h9
     rw [hkk,hROW,hG]
     exact h9
    have hGn:c+1≤G:=by rw [hG];exact grownCap_ge w _ _ _
    have hGm:G≤maxLen:=by rw [hG];exact grownCap_le_maxLen w (c+1) c 125 (by unfold maxLen;omega)
    have hG63:G≤9223372036854775807:=by unfold maxLen at hGm;omega
    have hRs:ROW.size=G:=by rw [hROW,Array.size_append,Array.size_append,size_zeroCells,size_zeroCells];simp [Value.cells];omega
    have hlow:∀ (j:Nat) (y:Value),j<k→xs[j]? = some y→ROW[j]? = some y:=fun j y hj hy=>by
     rw [hROW,Array.append_assoc,Array.getElem?_append_left (by simp;omega)]
     simp only [List.getElem?_toArray]
     rw [List.getElem?_take_of_lt hj]
     exact hy
    obtain⟨W1,hW1⟩:∃ W1,W1=w.drew.alloc (.cells ROW 125):=⟨_,rfl⟩
    rw [←hW1] at hrz
    have b1:W1.heap[w.heap.size]? = some (.cells ROW 125 (0,0)):=by rw [hW1];exact heap_alloc_new w.drew _
    have hb1:Below w.heap.size w W1:=by rw [hW1];exact (Below.refl _ w).drew.alloc (Nat.le_refl _) _
    have hcpA:∀ (W:World),(∀ p,W.cell? p=W1.cell? p)→(∀ p,W.frozen? p=W1.frozen? p)→∀ ty dc,(Builtin.copy_ #[188,188] ty #[.slice (some ⟨w.heap.size,k,none⟩) (c+1 - k) dc,.slice (some ⟨g2,0,none⟩) 1 1]).run Tryz.prog W=.ok (goInt [x].length) (W.setCells w.heap.size k [x]):=fun W hWc hWf ty dc=>
     run_copy_cells W _ _ ty 125 w.heap.size k (c+1 - k) dc ⟨g2,0,none⟩ 1 1 [x] Tryz.underlying188 hsz (by simp only [List.length_cons,List.length_nil,Nat.min_def];split<;>omega)
      (fun j u hj=>by rw [Addr.add_lit,hWc];exact (hb1.cell (p:=⟨g2,0+j,none⟩) hg2w).trans (hvs j u hj))
      (fun j hj=>by rw [hWc,cell_block b1];simp at hj ⊢;omega) (fun j _=>by rw [hWf];exact free_block b1 _) h1v
    obtain⟨cur1,r1,r2,r3,r4,r6,r5⟩:=setCells_row w.heap.size 125 [x] k ROW W1 b1 (by simp;omega)
    obtain⟨W2,hW2⟩:∃ W2,W2=W1.setCells w.heap.size k [x]:=⟨_,rfl⟩
    rw [←hW2] at r1 r5
    have hcpB:∀ (W:World),(∀ p,W.cell? p=W2.cell? p)→(∀ p,W.frozen? p=W2.frozen? p)→∀ ty dc sc,(Builtin.copy_ #[188,188] ty #[.slice (some ⟨w.heap.size,k+1,none⟩) (c - k) dc,.slice (some ⟨g,k,none⟩) (c - k) sc]).run Tryz.prog W=.ok (goInt (xs.drop k).length) (W.setCells w.heap.size (k+1) (xs.drop k)):=fun W hWc hWf ty dc sc=>
     run_copy_cells W _ _ ty 125 w.heap.size (k+1) (c - k) dc ⟨g,k,none⟩ (c - k) sc (xs.drop k) Tryz.underlying188 hsz (by rw [hdl];simp only [Nat.min_def];split<;>omega)
      (fun j u hj=>by
       rw [Addr.add_lit,hWc,hW2,setCells_cell _ _ _ _ _ (by show g≠w.heap.size;omega)]
       exact (hb1.cell (p:=⟨g,k+j,none⟩) hgw).trans (hcell (k+j) u (by rwa [List.getElem?_drop] at hj)))
      (fun j hj=>by rw [hWc,cell_block r1];simp at hj ⊢;omega) (fun j _=>by rw [hWf];exact free_block r1 _) (fun u hu=>h1c u (List.mem_of_mem_drop hu))
    obtain⟨W3,hW3⟩:∃ W3,W3=W2.drew:=⟨_,rfl⟩
    have r1':W3.heap[w.heap.size]? = some (.cells cur1 125 (0,0)):=by rw [hW3];exact r1
    obtain⟨cur2,s1,s2,s3,s4,s6,s5⟩:=setCells_row w.heap.size 125 (xs.drop k) (k+1) cur1 W3 r1' (by rw [hdl];omega)
    have hown:OwnAt RVal 1 (W3.setCells w.heap.size (k+1) (xs.drop k)) B 125 (.slice (some ⟨w.heap.size,0,none⟩) (c+1) G) (xs.take k++x :: xs.drop k):=by
     have hI:=own_of_cells (xs:=xs.take k++x :: xs.drop k) (c:=G) (B:=B) s1 hBw (by rw [putin_len (by omega)];omega) hGm (by rw [s2,r2,hRs]) (fun j y hj=>by
      rw [putin_get (by omega)] at hj
      by_cases h5:j<k
      ·rw [if_pos h5] at hj
       rw [s3 j (by omega),r3 j h5]
       exact hlow j y h5 hj
      ·rw [if_neg h5] at hj
       by_cases h6:j=k
       ·rw [if_pos h6] at hj
        cases hj
        subst h6
        rw [s3 j (by omega)]
        have:=r4 0 _ rfl
        rwa [Nat.add_zero] at this
       ·rw [if_neg h6] at hj
        have:=s4 (j - (k+1)) y (by rw [List.getElem?_drop,show k+(j - (k+1))=j - 1 by omega];exact hj)
        rwa [show k+1+(j - (k+1))=j by omega] at this) hon
     rw [putin_len (by omega),hn] at hI
     exact hI
    have hbel:Below B w (W3.setCells w.heap.size (k+1) (xs.drop k)):=Touch.below s5 (by rw [hW3];exact (Touch.below r5 (hb1.mono hBw) hBw).drew) hBw
    have hsame:SameBut 125 w (W3.setCells w.heap.size (k+1) (xs.drop k)):=sameBut_below (Touch.below s5 (by rw [hW3];exact (Touch.below r5 hb1 (Nat.le_refl _)).drew) (Nat.le_refl _))
    have Hsame:=Lib.hid hsame
    have Hown:=Lib.hid hown
    have Hbel:=Lib.hid hbel
    clear hsame
    have HW2:=Lib.hid hW2
    subst hW3
    clear hW1 hW2
    have m1:¬(G=k):=by omega
    have m2:¬(G=k+1):=by omega
    clear hown hbel hcell hcur r1 r2 r3 r4 r5 r6 r1' s1 s2 s3 s4 s5 s6 hon ho h1c hvs h1v hdl htk hcs hold hlow hRs hkk hik hb1 b1 hG hROW
    rw [hn]
    go_enter Tryz.func161,Tryz.ntmps161
    go_wp2_with (first
     | (at_builtin;refine Lib.wpList_append_run _ rfl _ _ _ _ rfl _ _ rfl rfl _ _ (hrz _) ?_)
     | (at_builtin;refine wpList_copy_runI _ rfl _ _ 188 188 rfl _ _ rfl rfl (hcpA _ (fun _=>rfl) (fun _=>rfl) _ _) ?_))
    rw [←HW2.out]
    go_region_law_o (refine step_copy_runI rfl _ _ 188 188 rfl (.slice (some ⟨w.heap.size,k+1,none⟩) (c - k) (G - (k+1))) (.slice (some ⟨g,k,none⟩) (c - k) (c - k)) (by simp [Act.eval,Act.put]) (by simp [Act.eval,Act.put]) (hcpB W2.drew (fun _=>rfl) (fun _=>rfl) 3 (G - (k+1)) (c - k)) ?_)
    go_wp2_with fail
    go_ret
    exact⟨_,rfl,Hown.out,Hbel.out,Hsame.out⟩
 ·obtain rfl:k=xs.length:=by omega
  have hend:xs.take xs.length++x :: xs.drop xs.length=xs++[x]:=by rw [List.take_length,List.drop_length]
  rw [hend]
  obtain⟨a,c,rfl,hcl,hcm⟩:=h.row.len
  have H:=Lib.hid h
  have Hrow:Hid (RowAt RVal 1 w (.slice (some ⟨g2,0,none⟩) 1 1) [x]):=Lib.hid (RowAt.one h2 rfl ⟨rfl,hx⟩)
  have hb:Below B w w:=Below.refl _ _
  unfold maxLen at hcm
  obtain⟨n,Hn⟩:∃ n,Hid (xs.length=n):=⟨_,Lib.hid rfl⟩
  rw [Hn.out] at hcl ⊢
  have Hs:Hid (OwnAt RVal 1 w B 125 (.slice a n c) xs):=by rw [←Hn.out];exact H
  have hl2:n≤1048576:=by rw [←Hn.out];exact hl
  have hxl:xs.length≤1048576:=hl
  clear h ho h1c hvs h1v hon hend h2 hkl hk H hl
  have hform:a=none∨∃ g,a=some ⟨g,0,none⟩:=by
   rcases Hs.out.form with ⟨h9,_⟩ | ⟨g,c',h9,_⟩
   ·cases h9;exact .inl rfl
   ·injection h9 with h9;exact .inr ⟨g,h9⟩
  rcases hform with rfl | ⟨g,rfl⟩
  ·obtain⟨rfl,rfl⟩:n=0∧c=0:=by
    rcases Hs.out.form with ⟨h9,_⟩ | ⟨g,c',h9,_⟩
    ·cases h9;exact⟨rfl,rfl⟩
    ·cases h9
   go_enter Tryz.func161,Tryz.ntmps161
   go_wp2_with (at_builtin;refine wpList_append_ownAt (R:=RVal) (k:=1) (e:=125) (B:=B) (l:=xs) (m:=[x]) _ (by rfl) _ _ _ (by rfl) i0 _ 16 Tryz.underlying188 hi0 hz0 hz1 hz2 rfl (by omega) flat_val one_val _ (by rfl) Hs.out _ (by rfl) Hrow.out (by unfold maxLen;simp;omega) (by simp;omega) hBw ?_)
   intro v' w' hv' hg hr _
   have hb2:Below B w w':=below_of_grown hb hBw hg hr
   have hb3:SameBut 125 w w':=Hs.out.sameBut hg
   go_wp2_with fail
   go_ret
   exact⟨_,rfl,hv',hb2,hb3⟩
  ·by_cases hcn:c=n
   ·subst hcn
    have p1:(0:Int)≤(c:Int):=by omega
    go_enter Tryz.func161,Tryz.ntmps161
    go_wp2_with (at_builtin;refine wpList_append_ownAt (R:=RVal) (k:=1) (e:=125) (B:=B) (l:=xs) (m:=[x]) _ (by rfl) _ _ _ (by rfl) i0 _ 16 Tryz.underlying188 hi0 hz0 hz1 hz2 rfl (by omega) flat_val one_val _ (by rfl) Hs.out _ (by rfl) Hrow.out (by unfold maxLen;simp;omega) (by simp;omega) hBw ?_)
    intro v' w' hv' hg hr _
    have hb2:Below B w w':=below_of_grown hb hBw hg hr
    have hb3:SameBut 125 w w':=Hs.out.sameBut hg
    go_wp2_with fail
    go_ret
    exact⟨_,rfl,hv',hb2,hb3⟩
   ·have p1:(0:Int)≤(n:Int):=by omega
    go_enter Tryz.func161,Tryz.ntmps161
    go_wp2_with (at_builtin;refine wpList_append_ownAt (R:=RVal) (k:=1) (e:=125) (B:=B) (l:=xs) (m:=[x]) _ (by rfl) _ _ _ (by rfl) i0 _ 16 Tryz.underlying188 hi0 hz0 hz1 hz2 rfl (by omega) flat_val one_val _ (by rfl) Hs.out _ (by rfl) Hrow.out (by unfold maxLen;simp;omega) (by simp;omega) hBw ?_)
    intro v' w' hv' hg hr _
    have hb2:Below B w w':=below_of_grown hb hBw hg hr
    have hb3:SameBut 125 w w':=Hs.out.sameBut hg
    go_wp2_with fail
    go_ret
    exact⟨_,rfl,hv',hb2,hb3⟩
end Go.Proofs.YtnnceaapodgfbaaGreatDoor
namespace Go.Proofs.YtnnceaapodgfbaaGreatDoor
open Go
section
variable {P : Program} {ops : Array Oper} {md : Region.Mode}
end
end Go.Proofs.YtnnceaapodgfbaaGreatDoor
namespace Go.Proofs.YtnnceaapodgfbaaGreatDoor
open Go
section
variable {P : Program} {ops : Array Oper} {md : Region.Mode}
theorem wpAny_relY {n g : Nat} {hs : List Oper} {a0 : Act} {I : World → Prop} {R : Nat → (Nat → Value) → World → Prop} {deps kills : Nat → List Nat} {Q : Exit → Act → World → Prop}
    (hops : ∀ j, j < n → hs[j]? = ops[j]?) (hn : n < ops.size) (hap : apartDsts hs)
    (hs1 : Region.sinkB md ops n = true) (hc1 : Region.chainB md ops n = true)
    (hback : ∀ i o, ops[i]? = some o → ∀ e ∈ o.after, Region.binds md e = true → e.on < i)
    (hdeps : ∀ i o, hs[i]? = some o → ∀ j ∈ deps i, j < n ∧ ∃ e ∈ o.after, Region.binds md e = true ∧ (e.on = j ∨ (e.on < i ∧ j ∈ deps e.on)))
    (hkill : ∀ i o, hs[i]? = some o → ∀ d ∈ deps i, ∀ i' ∈ kills d, i' = i ∨ ∃ o', ops[i']? = some o' ∧ ∃ e ∈ o'.after, Region.binds md e = true ∧ e.on = i)
    (hloc : ∀ j u u' w, (∀ k, (k = j ∨ k ∈ deps j) → u k = u' k) → R j u w → R j u' w)
    (obl : ∀ i o, hs[i]? = some o → ∀ (u : Nat → Value) w, I w → (∀ j ∈ deps i, R j u w) →
      (Region.wanted o (yielded ops (putAll hs u 0 a0).tmps) = true ∧ gives P (fun v w' => R i (upd u i v) w' ∧ I w' ∧ ∀ j u, j ≠ i → i ∉ kills j → R j u w → R j u w') ((execOp (putAll hs u 0 a0).eval o).run P w)) ∨
      (Region.wanted o (yielded ops (putAll hs u 0 a0).tmps) = false ∧ R i (upd u i undef) w))
    (hend : ∀ (u : Nat → Value) w, I w → (∀ j, j < n → kills j = [] → R j u w) → wpAny P md ops Q g (canon n ops.size) (putAll hs u 0 a0) w) :
    ∀ (f : Nat) (listed : Array Bool) (u : Nat → Value) (w : World), unl listed n = f → HeadInv md ops n listed → I w → (∀ j, j < n → listed.getD j false = true → (∀ i ∈ kills j, listed.getD i false = false) → R j u w) →
      wpAny P md ops Q (f + g) listed (putAll hs u 0 a0) w := by
  have clos : ∀ (listed : Array Bool), HeadInv md ops n listed → ∀ (m j : Nat), j < n → j ≤ m → listed.getD j false = true → ∀ d ∈ deps j, listed.getD d false = true := by
    intro listed inv m
    induction m with
    | zero =>
      intro j hjn hjm hl d hd
      have hj0 : j = 0 := by omega
      subst hj0
      have hoj : ops[0]? = some (ops[0]'(by omega)) := by simp [show 0 < ops.size by omega]
      obtain ⟨_, e, he, hb, hon⟩ := hdeps 0 _ ((hops 0 hjn).trans hoj) d hd
      have h1 := inv.closed 0 _ hoj hl e he hb
      rcases hon with h2 | ⟨h2, _⟩
      · rw [← h2]; exact h1
      · omega
    | succ m ihm =>
      intro j hjn hjm hl d hd
      have hoj : ops[j]? = some (ops[j]'(by omega)) := by simp [show j < ops.size by omega]
      obtain ⟨_, e, he, hb, hon⟩ := hdeps j _ ((hops j hjn).trans hoj) d hd
      have h1 := inv.closed j _ hoj hl e he hb
      rcases hon with h2 | ⟨h2, h3⟩
      · rw [← h2]; exact h1
      · exact ihm e.on (by omega) (by omega) h1 d h3
  intro f
  induction f with
  | zero =>
    intro listed u w hf inv hI hR
    rw [Nat.zero_add, eq_canon inv hf]
    refine hend u w hI fun j hj hk0 => hR j hj (getD_false (by rw [inv.size]; omega) (unl_zero hf j hj)) (fun i hi => by rw [hk0] at hi; cases hi)
  | succ f ih =>
    intro listed u w hf inv hI hR
    obtain ⟨k, hk, hku, hkr⟩ := ready_ex inv hback (by omega) (by omega)
    rw [show f + 1 + g = (f + g) + 1 by omega]
    refine ⟨fun h => (by rw [h] at hkr; cases hkr), fun i hi => ?_⟩
    have hin : i < n := by
      rcases Nat.lt_or_ge i n with h | h
      · exact h
      · exact absurd hi (tail_waits hs1 hc1 hn inv _ k rfl hk hku i h)
    obtain ⟨hiu, o, ho, hall⟩ := mem_ready.1 hi
    have ho' : hs[i]? = some o := (hops i hin).trans ho
    have hRd : ∀ j ∈ deps i, R j u w := fun j hj => by
      obtain ⟨hjn, e, he, hb, hon⟩ := hdeps i o ho' j hj
      refine hR j hjn (by rcases hon with h2 | ⟨h2, h3⟩; · rw [← h2]; exact hall e he hb
                          · exact clos listed inv e.on e.on (by omega) (Nat.le_refl _) (hall e he hb) j h3) fun i' hi' => ?_
      rcases hkill i o ho' j hj i' hi' with rfl | ⟨o', ho2, e', he', hb', hon'⟩
      · exact getD_both hiu
      · cases hl : listed.getD i' false with
        | false => rfl
        | true =>
          have h1 := inv.closed i' o' ho2 hl e' he' hb'
          rw [hon', getD_both hiu] at h1
          cases h1
    have next : ∀ v w', R i (upd u i v) w' → I w' → (∀ j u, j ≠ i → i ∉ kills j → R j u w → R j u w') → wpAny P md ops Q (f + g) (listed.setIfInBounds i true) ((putAll hs u 0 a0).put o.dst v) w' := fun v w' hv hI' hst => by
      rw [putAll_set hs u 0 i a0 o v hap ho']
      have hil : i < listed.size := by rw [inv.size]; omega
      refine ih _ _ w' (by have := unl_set hin hiu hil; omega) (inv.set hi hin) hI' fun j hj hl hal => ?_
      have hup : (fun j => if j = 0 + i then v else u j) = upd u i v := by funext j; simp [upd]
      rw [hup]
      by_cases hji : j = i
      · subst hji; exact hv
      · rw [getD_set_ne false (fun h => hji h.symm)] at hl
        have hik : i ∉ kills j := fun hik => by
          have h1 := hal i hik
          have hil2 : i < listed.size := hil
          have : (listed.setIfInBounds i true).getD i false = true := by simp [Array.getD, hil2]
          rw [this] at h1
          cases h1
        refine hloc j u _ w' (fun q hq => ?_) (hst _ _ hji hik (hR j hj hl (fun i' hi' => by
          have h1 := hal i' hi'
          by_cases hii : i' = i
          · subst hii; exact absurd hi' hik
          · rwa [getD_set_ne false (fun h => hii h.symm)] at h1)))
        unfold upd
        rw [if_neg ?_]
        rintro rfl
        rcases hq with rfl | hq
        · exact hji rfl
        · have h1 := clos listed inv j j hj (Nat.le_refl _) hl q hq
          rw [getD_both hiu] at h1
          cases h1
    unfold wpOp
    simp only [ho]
    rcases obl i o ho' u w hI hRd with ⟨hw, hg⟩ | ⟨hw, hv⟩
    · rw [if_pos hw]
      refine .inl ?_
      unfold Oper.wp
      exact gives_upon (R := fun v w' => R i (upd u i v) w' ∧ I w' ∧ ∀ j u, j ≠ i → i ∉ kills j → R j u w → R j u w') (fun v w' h => next v w' h.1 h.2.1 h.2.2) hg
    · rw [if_neg (by rw [hw]; simp)]
      exact next undef w hv hI (fun _ _ _ _ h => h)
def relYB (md:Region.Mode) (l:List Oper) (n:Nat) (deps kills:Nat→List Nat):Bool:=
 decide (n<l.length) && Region.sinkB md l.toArray n && Region.chainB md l.toArray n &&
 ((List.range l.length).all fun i=>match l[i]? with | some o=>o.after.all fun e=>!Region.binds md e || decide (e.on<i) | none=>true) &&
 ((List.range n).all fun i=>(List.range i).all fun j=>match l[i]?,l[j]? with | some x,some y=>(match y.dst with | some d=>x.dst != some d | none=>true) | _,_=>true) &&
 ((List.range n).all fun i=>match l[i]? with | some o=>(deps i).all fun j=>decide (j<n) && o.after.any fun e=>Region.binds md e && (e.on == j || (decide (e.on<i) && (deps e.on).contains j)) | none=>true) &&
 Region.seqB md l.toArray (l.length - n) n (canon n l.length) &&
 ((List.range n).all fun i=>(deps i).all fun d=>(kills d).all fun i'=>i' == i || (match l[i']? with | some o'=>o'.after.any fun e=>Region.binds md e && e.on == i | none=>false))
theorem wp_region_relYr {id:Nat} {Q:Exit→Act→World→Prop} {a:Act} {w:World} {l:List Oper} (n:Nat) (I:World→Prop) (R:Nat→(Nat→Value)→World→Prop) (deps kills:Nat→List Nat)
  (hm:P.follows .mixedOrders=true) (hB:relYB .any l n deps kills=true) (hloc:∀ j u u' w,(∀ k,(k=j∨k∈deps j)→u k=u' k)→R j u w→R j u' w) (hI:I w.drew)
  (obl:∀ i o,(l.take n)[i]? = some o→∀ (u:Nat→Value) w,I w→(∀ j∈deps i,R j u w)→
   (Region.wanted o (yielded l.toArray (putAll (l.take n) u 0 a).tmps)=true∧gives P (fun v w'=>R i (upd u i v) w'∧I w'∧∀ j u,j≠i→i∉kills j→R j u w→R j u w') ((execOp (putAll (l.take n) u 0 a).eval o).run P w))∨
   (Region.wanted o (yielded l.toArray (putAll (l.take n) u 0 a).tmps)=false∧R i (upd u i undef) w))
  (htail:∀ (u:Nat→Value) w,I w→(∀ j,j<n→kills j = []→R j u w)→wpList P l.toArray Q (l.drop n) (putAll (l.take n) u 0 a) w):(Code.region id l.toArray true).wp P Q a w:=by
 simp only [relYB,Bool.and_eq_true,decide_eq_true_eq,List.all_eq_true,List.mem_range] at hB
 obtain⟨⟨⟨⟨⟨⟨⟨hn,hs1⟩,hc1⟩,hback⟩,hap⟩,hdeps⟩,hseq⟩,hkl⟩:=hB
 have hsz:l.toArray.size=l.length:=by simp
 refine wp_region_any hm ?_
 have hown:putAll (l.take n) (fun j=>slotOf a (((l.take n)[j]?).bind (·.dst))) 0 a=a:=putAll_own _ 0 a _ fun j o ho=>by simp only [Nat.zero_add];rw [ho];rfl
 have hu0:unl (Array.replicate l.toArray.size false) n=n:=by
  have key:∀ m,m≤l.length→unl (Array.replicate l.toArray.size false) m=m:=by
   intro m
   induction m with
   | zero=>intro _;rfl
   | succ m ih=>
    intro h
    unfold unl
    rw [ih (by omega),if_neg (by simp [Array.getD,show m<l.length by omega])]
  exact key n (by omega)
 have inv0:HeadInv .any l.toArray n (Array.replicate l.toArray.size false):=
  ⟨by simp,fun j oj _ hl=>(by rw [getD_replicate_false] at hl;cases hl),fun t _ ht=>getD_in (by simpa using ht) (getD_replicate_false _ _)⟩
 have H:=wpAny_relY (P:=P) (ops:=l.toArray) (md:=.any) (n:=n) (g:=l.length - n) (hs:=l.take n) (a0:=a) (I:=I) (R:=R) (deps:=deps) (kills:=kills) (Q:=Q)
  (fun j hj=>by simp [List.getElem?_take_of_lt hj]) (by simpa using hn)
  (List.pairwise_iff_getElem.2 fun i j hi hj hij d hd=>by
   have hi':i<l.length:=by simp at hi;omega
   have hj':j<l.length:=by simp at hj;omega
   have hjn:j<n:=by simp at hj;omega
   have:=hap j hjn i hij
   rw [List.getElem?_eq_getElem hj',List.getElem?_eq_getElem hi'] at this
   simp only [List.getElem_take] at hd ⊢
   simp only [hd] at this
   simpa using this)
  hs1 hc1
  (fun i o ho e he hb=>by
   have ho':l[i]? = some o:=by simpa using ho
   have hil:i<l.length:=(List.getElem?_eq_some_iff.1 ho').1
   have:=hback i hil
   rw [ho'] at this
   have:=Array.all_eq_true'.1 this e he
   simpa [hb] using this)
  (fun i o ho j hj=>by
   have hin:i<n:=by have:=(List.getElem?_eq_some_iff.1 ho).1;simp at this;omega
   have ho':l[i]? = some o:=by rw [List.getElem?_take_of_lt hin] at ho;exact ho
   have:=hdeps i hin
   rw [ho'] at this
   have:=List.all_eq_true.1 this j hj
   simp only [Bool.and_eq_true,decide_eq_true_eq] at this
   obtain⟨e,he,hb⟩:=Array.any_eq_true'.1 this.2
   simp only [Bool.and_eq_true,Bool.or_eq_true,beq_iff_eq,decide_eq_true_eq,List.contains_iff_mem] at hb
   exact⟨this.1,e,he,hb.1,hb.2⟩)
  (fun i o ho d hd i' hi'=>by
   have hin:i<n:=by have:=(List.getElem?_eq_some_iff.1 ho).1;simp at this;omega
   have ho':l[i]? = some o:=by rw [List.getElem?_take_of_lt hin] at ho;exact ho
   have h1:=hkl i hin d hd i' hi'
   rw [Bool.or_eq_true] at h1
   rcases h1 with h1 | h1
   ·left;simpa using h1
   ·right
    cases ho2:l[i']? with
    | none=>rw [ho2] at h1;cases h1
    | some o'=>
     rw [ho2] at h1
     obtain⟨e,he,hb⟩:=Array.any_eq_true'.1 h1
     simp only [Bool.and_eq_true,beq_iff_eq] at hb
     exact⟨o',by simpa using ho2,e,he,hb.1,hb.2⟩)
  hloc obl
  (fun u w' hI' hR=>by
   have:=wpAny_of_seq (md:=.any) (Q':=Q) (l.drop n) n (canon n l.toArray.size) (putAll (l.take n) u 0 a) w' (fun j=>by simp [List.getElem?_drop]) (by rw [List.length_drop,hsz];exact hseq) (htail u w' hI' hR)
   rwa [List.length_drop] at this)
  n (Array.replicate l.toArray.size false) (fun j=>slotOf a (((l.take n)[j]?).bind (·.dst))) w.drew hu0 inv0 hI (fun j _ hl _=>by rw [getD_replicate_false] at hl;cases hl)
 rw [hown,show n+(l.length - n)=l.length by omega] at H
 rw [hsz]
 exact H
theorem wp_region_relY {id:Nat} {Q:Exit→Act→World→Prop} {a:Act} {w:World} {l:List Oper} (n:Nat) (I:World→Prop) (K:Nat→World→World→Prop) (R:Nat→(Nat→Value)→World→Prop) (deps kills:Nat→List Nat)
  (hm:P.follows .mixedOrders=true) (hB:relYB .any l n deps kills=true) (hI0:I w.drew) (hI:∀ i w w',K i w w'→I w→I w') (hst:∀ i j u w w',j≠i→i∉kills j→K i w w'→I w→R j u w→R j u w')
  (obl:relOblK P l.toArray I K R deps (l.take n) a (l.take n) 0)
  (htail:∀ (u:Nat→Value) w',I w'→(∀ j,j<n→kills j = []→R j (mask (deps j) j u) w')→wpList P l.toArray Q (l.drop n) (putAll (l.take n) u 0 a) w'):(Code.region id l.toArray true).wp P Q a w:=by
 refine wp_region_relYr n I (fun j u w=>R j (mask (deps j) j u) w) deps kills hm hB (fun j u u' w h hR=>by rw [←mask_congr h];exact hR) hI0 (fun i o ho u w' hI' hd=>?_) htail
 have h:=relOblK_get (l.take n) 0 obl i o ho u w' hI' (by rw [Nat.zero_add];exact hd)
 rw [Nat.zero_add] at h
 rcases h with ⟨h1,h2⟩ | h
 ·exact .inl ⟨h1,gives_mono (fun v w'' ⟨g1,g2⟩=>⟨g1,hI _ _ _ g2 hI',fun j u hji hjk hj=>hst i j _ _ _ hji hjk g2 hI' hj⟩) h2⟩
 ·exact .inr h
end
end Go.Proofs.YtnnceaapodgfbaaGreatDoor
namespace Go.Proofs.YtnnceaapodgfbaaGreatDoor
open Go.RowKit
open JP (JV Bs)
theorem below_then' {B:Nat} {a b c:World} (h:Below B a b) (k:Below b.heap.size b c) (hB:B≤a.heap.size:=by exact Nat.le_refl _):Below B a c:=h.trans (k.mono (Nat.le_trans hB h.size))
theorem OwnAt.same' {α:Type} {R:Rd α} {k B:Nat} {e T:TypeId} {v:Value} {l:List α} {w w':World} (hf:Flat R) (h:OwnAt R k w B e v l) (hs:SameBut T w w') (hne:e≠T):OwnAt R k w' B e v l:=by
 obtain⟨css,h1,h2,h3,h4⟩:=h
 refine⟨css,h1,h2,⟨h3.1,?_⟩,fun j cs y hcs hy=>hf _ _ _ _ (h4 j cs y hcs hy)⟩
 rcases h3.2 with h5 | ⟨q,cap,cur,rfl,hB,hh,hr⟩
 ·exact .inl h5
 ·exact .inr ⟨q,cap,cur,rfl,hB,hs q cur e _ hh hne,hr⟩
theorem blk_lt {w:World} {g:Nat} {o:Obj} (h:w.heap[g]? = some o):g<w.heap.size:=by
 rcases Nat.lt_or_ge g w.heap.size with h1 | h1
 ·exact h1
 ·rw [Array.getElem?_eq_none h1] at h;cases h
theorem jv_one {n:Nat} {T:List Nat} {w:World} {v:Value} {x:JV} (h:JvAt n T w v x):v.oneCell'=true:=one_jv n T w [v] x ⟨v,rfl,h⟩ v (List.mem_singleton.2 rfl)
theorem jv_form {n:Nat} {T:List Nat} {w:World} {v:Value} {x:JV} (h:JvAt n T w v x):v=.nilIface∨∃ t u,v=.iface t u:=by
 cases n with
 | zero=>cases h
 | succ n=>
  cases x with
  | nul=>exact .inl h
  | bool _=>exact .inr ⟨_,_,h⟩
  | num _=>exact .inr ⟨_,_,h.1⟩
  | str _=>exact .inr ⟨_,_,h⟩
  | list l=>obtain⟨_,h1,_⟩:=h;exact .inr ⟨_,_,h1⟩
  | obj l=>obtain⟨_,h1,_⟩:=h;exact .inr ⟨_,_,h1⟩
theorem put_new_names {n:Bs} {u:JV} {d:List (Bs × JV)} (h:JP.put n u d=d.take (JP.pos n d)++(n,u) :: d.drop (JP.pos n d)):(JP.put n u d).map (fun y=>mkB y.1)=(d.map fun y=>mkB y.1).take (JP.pos n d)++mkB n :: (d.map fun y=>mkB y.1).drop (JP.pos n d):=by
 rw [h];simp
theorem put_new_vals {n:Bs} {u:JV} {d:List (Bs × JV)} (h:JP.put n u d=d.take (JP.pos n d)++(n,u) :: d.drop (JP.pos n d)):(JP.put n u d).map (·.2)=(d.map (·.2)).take (JP.pos n d)++u :: (d.map (·.2)).drop (JP.pos n d):=by
 rw [h];simp
theorem off_new {α:Type} {T:List Nat} {w:World} {v:Value} {l:List α} {B:Nat} {e:TypeId} {m:List Value} (h:OwnAt RVal 1 w B e v m) (hT:∀ b∈T,b<B):OffT T v l:=fun _ b hb hm=>by
 have h1:=(h.at hb).1
 have h2:=hT b hm
 omega
theorem pairs_get {α:Type} {xs:List Value} {l:List α} {P:Value→α→Prop} (h:∀ (j:Nat) (u:Value) (x:α),xs[j]? = some u→l[j]? = some x→P u x) {k:Nat} {v:Value} {y:α} (hP:P v y) (hl:xs.length=l.length) (hk:k≤l.length) :
  ∀ (j:Nat) (u:Value) (x:α),(xs.take k++v :: xs.drop k)[j]? = some u→(l.take k++y :: l.drop k)[j]? = some x→P u x:=fun j u x hu hx=>by
 have hlx:(xs.take k).length=k:=by rw [List.length_take];omega
 have hll:(l.take k).length=k:=by rw [List.length_take];omega
 by_cases h1:j<k
 ·rw [List.getElem?_append_left (by omega),List.getElem?_take_of_lt h1] at hu hx
  exact h j u x hu hx
 ·rw [List.getElem?_append_right (by omega)] at hu hx
  rw [hlx] at hu
  rw [hll] at hx
  by_cases h2:j=k
  ·rw [h2,Nat.sub_self] at hu hx
   cases hu
   cases hx
   exact hP
  ·rw [show j - k=(j - 1 - k)+1 by omega,List.getElem?_cons_succ,List.getElem?_drop] at hu hx
   exact h _ u x hu hx
theorem strs_raw {w:World} {l:List ByteArray} {xs:List Value} (hR:∀ (j:Nat) (u:Value) (x:ByteArray),xs[j]? = some u→l[j]? = some x→RString w [u] x) (j:Nat) (u:Value) (x:ByteArray) (h1:xs[j]? = some u) (h2:l[j]? = some x):u=.string x:=by
 have:=hR j u x h1 h2
 have h3 : [u] = [Value.string x]:=this
 exact List.cons.inj h3 |>.1
theorem below_drewN0 (w:World) (k:Nat):Below w.heap.size w (w.drewN k):=⟨rfl,rfl,rfl,Nat.le_refl _,fun _ _=>rfl⟩
set_option maxRecDepth 100000 in
set_option maxHeartbeats 6400000 in
theorem with_any {n:Nat} {T:List Nat} {q:Nat} {d:List (Bs × JV)} {x:Bs} {y:JV} {v:Value} {w:World} (h:ObR (JvR n T) T w q d) (hv:JvAt n T w v y) (hT:∀ b∈T,b<w.heap.size) (hl:d.length≤1048575) :
  Calls Tryz.prog 131 #[.pointer (some ⟨q,0,none⟩),.string (mkB x),v] w fun e w'=>∃ q',e=.returned (.pointer (some ⟨q',0,none⟩))∧ObR (JvR n T) T w' q' (JP.put x y d)∧Below w.heap.size w w':=by
 obtain⟨hqT,hs,vn,vv,cn,cv,hrn,hon,hrv,hov⟩:=h
 have HS:=Lib.hid (search_any (x:=x) hs hrn (by omega))
 have hpl:=JP.pos_le x d
 have hsp:=JP.put_srt (n:=x) (v:=y) hs
 have hF:=JP.find_spec (n:=x) hs
 obtain⟨xs,hxl,hxr,hxR⟩:=hrn.raw one_string
 obtain⟨ys,hyl,hyr,hyR⟩:=hrv.raw (one_jv n T)
 rw [List.length_map] at hxl hyl
 obtain⟨an,c1,hu1,_,_⟩:=hrn.len
 obtain⟨av,c2,hu2,_,_⟩:=hrv.len
 obtain⟨ln,hln⟩:∃ n,(d.map fun y=>mkB y.1).length=n:=⟨_,rfl⟩
 obtain⟨lv,hlv⟩:∃ n,(d.map (·.2)).length=n:=⟨_,rfl⟩
 rw [hln] at hu1
 rw [hlv] at hu2
 subst hu1
 subst hu2
 clear hln hlv
 have hqw:q<w.heap.size:=World.block_lt_of_cell? w ⟨q,0,none⟩ cn
 have hv1:=jv_one hv
 rcases hF with ⟨y0,hy0,hg,hput⟩ | ⟨_,hg,hput⟩
 ·-- the field is there: its value is another
  have hput:=hput y
  rw [hg] at HS
  have hpm:(JP.put x y d).map (fun z=>mkB z.1)=d.map fun z=>mkB z.1:=by
   have hd:d=d.take (JP.pos x d)++(x,y0) :: d.drop (JP.pos x d+1):=by
    have hlt:=(List.getElem?_eq_some_iff.1 hy0)
    obtain⟨h1,h2⟩:=hlt
    conv=>lhs;rw [←List.take_append_drop (JP.pos x d) d,List.drop_eq_getElem_cons h1,h2]
   rw [hput]
   conv=>rhs;rw [hd]
   simp
  have hpv:(JP.put x y d).map (·.2)=(d.map (·.2)).set (JP.pos x d) y:=by
   have hlt:=(List.getElem?_eq_some_iff.1 hy0).1
   rw [hput,List.set_eq_take_append_cons_drop,if_pos (by rw [List.length_map];exact hlt)]
   simp
  have hlt:JP.pos x d<d.length:=(List.getElem?_eq_some_iff.1 hy0).1
  have hdl:(JP.put x y d).length=d.length:=by
   have:=congrArg List.length hpm
   simpa using this
  obtain⟨D,hD⟩:∃ D,JP.put x y d=D:=⟨_,rfl⟩
  rw [hD] at hpm hpv hdl hsp ⊢
  obtain⟨p,hp⟩:∃ p,JP.pos x d=p:=⟨_,rfl⟩
  rw [hp] at HS hpv hlt
  have HC:=Lib.hid (fun w' (hb:Below w.heap.size w w')=>cloneVal_any (.slice av lv c2) ys w' (hyr.below stays_val hb) (by omega))
  have hfin:∀ w' (q':Nat) (v9:Value),KeepT T w w'→q'∉T→w'.cell? ⟨q',0,none⟩=some (.slice an ln c1)→w'.cell? ⟨q',1,none⟩=some v9→RowAt RVal 1 w' v9 (ys.set p v)→OffT T v9 D→ObR (JvR n T) T w' q' D:=fun w' q' v9 hk hq' k0 k1 hr9 ho9=>by
   refine⟨hq',hsp,_,v9,k0,k1,?_,fun hne=>hon fun e=>hne (List.eq_nil_of_length_eq_zero (by rw [hdl,e];rfl)),?_,ho9⟩
   ·rw [hpm]
    exact hrn.keepT hk (fun hne=>hon fun e=>hne (by rw [e];rfl)) (fun _ _ h=>h)
   ·rw [hpv]
    refine hr9.ofRaw (by rw [List.length_set,List.length_set,List.length_map,hyl]) fun j u z hu hz=>?_
    by_cases hjp:j=p
    ·subst hjp
     rw [List.getElem?_set_self (by omega)] at hu
     rw [List.getElem?_set_self (by rw [List.length_map];omega)] at hz
     cases hu
     cases hz
     exact⟨v,rfl,hv.keepT hk⟩
    ·rw [List.getElem?_set_ne (fun e=>hjp e.symm)] at hu hz
     obtain⟨v1,e1,h1⟩:=hyR j u z hu hz
     exact⟨v1,e1,h1.keepT hk⟩
  have Hfin:=Lib.hid hfin
  have HT:=Lib.hid hT
  have hyl':p<ys.length:=by omega
  have q1:(0:Int)≤(p:Int):=by omega
  clear hg hput hfin hT hrn hrv hxr hyr hxR hyR hon hov hpm hpv hD hdl hsp hs hy0 hpl hxl hp hv
  obtain⟨m,Hm⟩:∃ m,Hid (ys.length=m):=⟨_,Lib.hid rfl⟩
  have hym:p<m:=by have:=Hm.out;omega
  have q2:(p:Int)<(m:Int):=by omega
  clear hyl'
  go_enter Tryz.func131,Tryz.ntmps131
  go_wp2_with fail
  refine HS.out.mono ?_
  rintro E w1 ⟨rfl,k,rfl⟩
  have cn1:(w.drewN k).cell? ⟨q,0,none⟩=some (.slice an ln c1):=cn
  have cv1:(w.drewN k).cell? ⟨q,1,none⟩=some (.slice av lv c2):=cv
  have Hb1:Hid (Below w.heap.size w (w.drewN k)):=Lib.hid ((below_drewN0 w k))
  go_wp2_with fail
  refine (HC.out _ Hb1.out).mono ?_
  rintro E w2 ⟨v9,rfl,hown,hb2⟩
  have hb2':Below w.heap.size (w.drewN k) w2:=hb2
  have Hb2:=Lib.hid (Hb1.out.trans hb2')
  have hown':OwnAt RVal 1 w2 w.heap.size 125 v9 ys:=hown
  have ho:=own_raw hown'
  have honesr:=hown'.ones
  rcases ho.2 with ⟨_,h0⟩ | ⟨g,c,cur,rfl,hB,hh,hlc,hc,hcs,htk⟩
  ·have:=Hm.out;omega
  ·rw [Hm.out] at hlc htk ⊢
   have hgw:g<w2.heap.size:=blk_lt hh
   have hgq:g≠q:=by omega
   obtain⟨c0,z0⟩:∃ c0,w2.cell? ⟨g,p,none⟩=some c0:=⟨cur[p]'(by rw [hcs];omega),by rw [cell_block hh];exact Array.getElem?_eq_getElem _⟩
   have z1:w2.frozen? ⟨g,p,none⟩=false:=free_block hh p
   have cn2:w2.cell? ⟨q,0,none⟩=some (.slice an ln c1):=(Hb2.out.cell (p:=⟨q,0,none⟩) hqw).trans cn
   obtain⟨s1,t1⟩:=touch_setCell (w:=w2) (i:=p) (v:=v) hh
   obtain⟨w3,hw3⟩:∃ w3,w3=w2.setCell ⟨g,p,none⟩ v:=⟨_,rfl⟩
   have hst:(storeCells ⟨g,p,none⟩ [v]).run Tryz.prog w2=.ok () w3:=by
    have h9:=run_storeCells_cells (P:=Tryz.prog) g p [v] 0 w2 (fun j hj=>by
     obtain rfl:j=0:=by simpa using hj
     show (w2.cell? ⟨g,p,none⟩).isSome=true
     rw [z0];rfl) (fun j hj=>by
     obtain rfl:j=0:=by simpa using hj
     exact z1) (fun u hu=>by rw [List.mem_singleton.1 hu];exact hv1)
    rw [h9,hw3];rfl
   rw [←hw3] at s1 t1
   have hb3:Below w.heap.size w w3:=t1.below Hb2.out hB
   have hown3:OwnAt RVal 1 w3 w.heap.size 125 (.slice (some ⟨g,0,none⟩) m c) (ys.set p v):=by
    have hcur:∀ (j:Nat) (u:Value),ys[j]? = some u→cur[j]? = some u:=fun j u hu=>by
     have hu2:(cur.toList.take (ys.length*1))[j]? = some u:=by rw [Hm.out,htk];exact hu
     have hj:=(List.getElem?_eq_some_iff.1 hu).1
     rw [Nat.mul_one,List.getElem?_take_of_lt hj,Array.getElem?_toList] at hu2
     exact hu2
    have hI:=own_of_cells (xs:=ys.set p v) (c:=c) (B:=w.heap.size) s1 hB (by rw [List.length_set,Hm.out];exact hlc) hc (by rw [Array.size_setIfInBounds,hcs,Nat.mul_one]) (fun j u hu=>by
     by_cases hjp:j=p
     ·subst hjp
      rw [List.getElem?_set_self (by rw [Hm.out];exact hym)] at hu
      cases hu
      rw [Array.getElem?_setIfInBounds_self_of_lt (by rw [hcs];omega)]
     ·rw [List.getElem?_set_ne (fun e=>hjp e.symm)] at hu
      rw [Array.getElem?_setIfInBounds_ne (fun e=>hjp e.symm)]
      exact hcur j u hu) (fun u hu=>by
     rcases List.mem_or_eq_of_mem_set hu with h | rfl
     ·exact honesr u h
     ·exact hv1)
    rw [List.length_set,Hm.out] at hI
    exact hI
   have Hown3:=Lib.hid hown3
   have Hb3:=Lib.hid hb3
   have cn3:w3.cell? ⟨q,0,none⟩=some (.slice an ln c1):=(hb3.cell (p:=⟨q,0,none⟩) hqw).trans cn
   have hs3:w.heap.size≤w3.heap.size:=Hb3.out.size
   have Hw3:=Lib.hid hw3
   clear hown hown' ho honesr hh htk hcs hb2 hb2' s1 t1 hb3 hown3 hw3
   have q3:(p:Int)<(m:Int):=q2
   go_wp2_with fail
   rw [hst]
   go_wp2_with fail
   go_ret
   refine⟨w3.heap.size,rfl,?_,(Hb3.out.alloc hs3 _)⟩
   have hbA:Below w3.heap.size w3 (w3.alloc (.cells #[.slice an ln c1,.slice (some ⟨g,0,none⟩) m c] 192)):=(Below.refl _ _).alloc (Nat.le_refl _) _
   refine Hfin.out _ _ (.slice (some ⟨g,0,none⟩) m c) (KeepT.of (Hb3.out.alloc hs3 _)) (fun hm=>by have h9:=HT.out _ hm;omega) ?_ ?_ ((Hown3.out.row).below stays_val hbA) (off_new Hown3.out HT.out)
   ·rw [cell_block (heap_alloc_new w3 _)];rfl
   ·rw [cell_block (heap_alloc_new w3 _)];rfl
 ·-- a new field
  have hput:=hput y
  rw [hg] at HS
  have hpn:=put_new_names hput
  have hpv:=put_new_vals hput
  obtain⟨D,hD⟩:∃ D,JP.put x y d=D:=⟨_,rfl⟩
  rw [hD] at hpn hpv hsp ⊢
  obtain⟨p,hp⟩:∃ p,JP.pos x d=p:=⟨_,rfl⟩
  rw [hp] at HS hpn hpv hpl
  have HC1:=Lib.hid (fun w' (hb:Below w.heap.size w w')=>cloneStr_any (.slice an ln c1) xs w' (hxr.below stays_val hb) (by omega))
  have HC2:=Lib.hid (fun w' (hb:Below w.heap.size w w')=>cloneVal_any (.slice av lv c2) ys w' (hyr.below stays_val hb) (by omega))
  have hfin:∀ w' (q':Nat) (v8 v9:Value),KeepT T w w'→q'∉T→w'.cell? ⟨q',0,none⟩=some v8→w'.cell? ⟨q',1,none⟩=some v9→RowAt RVal 1 w' v8 (xs.take p ++ .string (mkB x) :: xs.drop p)→OffT T v8 D→RowAt RVal 1 w' v9 (ys.take p++v :: ys.drop p)→OffT T v9 D→ObR (JvR n T) T w' q' D:=fun w' q' v8 v9 hk hq' k0 k1 hr8 ho8 hr9 ho9=>by
   refine⟨hq',hsp,v8,v9,k0,k1,?_,ho8,?_,ho9⟩
   ·rw [hpn]
    refine hr8.ofRaw (by rw [putin_len (by omega),List.length_append,List.length_take,List.length_cons,List.length_drop,List.length_map];omega) fun j u z hu hz=>?_
    have:=pairs_get (P:=fun u z=>u=.string z) (strs_raw hxR) (k:=p) (v:=.string (mkB x)) (y:=mkB x) rfl (by rw [List.length_map,hxl]) (by rw [List.length_map];exact hpl) j u z hu hz
    rw [this];rfl
   ·rw [hpv]
    refine hr9.ofRaw (by rw [putin_len (by omega),List.length_append,List.length_take,List.length_cons,List.length_drop,List.length_map];omega) fun j u z hu hz=>?_
    obtain⟨v1,e1,h1⟩:=pairs_get (P:=fun u z=>JvR n T w [u] z) hyR (k:=p) (v:=v) (y:=y) ⟨v,rfl,hv⟩ (by rw [List.length_map,hyl]) (by rw [List.length_map];exact hpl) j u z hu hz
    exact⟨v1,e1,h1.keepT hk⟩
  have Hfin:=Lib.hid hfin
  have HT:=Lib.hid hT
  have hxp:p≤xs.length:=by omega
  have hyp:p≤ys.length:=by omega
  have hxs:xs.length≤1048576:=by omega
  have hys:ys.length≤1048576:=by omega
  have hsx:(Value.string (mkB x)).oneCell'=true:=rfl
  have HVf:=Lib.hid (jv_form hv)
  clear hg hput hfin hT hrn hrv hxr hyr hxR hyR hon hov hpn hpv hD hsp hs hpl hxl hyl hp hv
  go_enter Tryz.func131,Tryz.ntmps131
  go_wp2_with fail
  refine HS.out.mono ?_
  rintro E w1 ⟨rfl,k,rfl⟩
  have Hb1:Hid (Below w.heap.size w (w.drewN k)):=Lib.hid ((below_drewN0 w k))
  go_upto_region 6 with fail
  refine wp_region_relY 20 (fun w'=>Below w.heap.size (w.drewN k) w') (fun i wa wb=>if i=8 then SameBut 9 wa wb∧Below w.heap.size wa wb else (if i=17 then SameBut 125 wa wb∧Below w.heap.size wa wb else Below wa.heap.size wa wb)) (fun ii U w'=>match ii with
   | 0=>U 0=.pointer (some ⟨q,0,none⟩)
   | 1=>U 1=.pointer (some ⟨q,0,none⟩)
   | 2=>U 2=.pointer (some ⟨q,0,none⟩)
   | 3=>U 3=.slice an ln c1
   | 4=>OwnAt RVal 1 w' w.heap.size 9 (U 4) xs
   | 5=>U 5=.int .i64 (p:Int)
   | 6=>U 6=.string (mkB x)
   | 7=>∃ g,U 7=.slice (some ⟨g,0,none⟩) 1 1∧w'.heap[g]? = some (.cells #[.string (mkB x)] 9 (0,0))
   | 8=>OwnAt RVal 1 w' w.heap.size 9 (U 8) (xs.take p ++ .string (mkB x) :: xs.drop p)
   | 9=>U 9=.pointer (some ⟨q,0,none⟩)
   | 10=>U 10=.pointer (some ⟨q,0,none⟩)
   | 11=>U 11=.pointer (some ⟨q,1,none⟩)
   | 12=>U 12=.slice av lv c2
   | 13=>OwnAt RVal 1 w' w.heap.size 125 (U 13) ys
   | 14=>U 14=.int .i64 (p:Int)
   | 15=>U 15=v
   | 16=>∃ g,U 16=.slice (some ⟨g,0,none⟩) 1 1∧w'.heap[g]? = some (.cells #[v] 125 (0,0))
   | 17=>OwnAt RVal 1 w' w.heap.size 125 (U 17) (ys.take p++v :: ys.drop p)
   | 18=>U 18=.agg #[U 8,U 17]
   | 19=>∃ g,U 19=.pointer (some ⟨g,0,none⟩)∧w.heap.size≤g∧w'.heap[g]? = some (.cells #[U 8,U 17] 192 (0,0))
   | _=>True)
   (fun | 1=>[0] | 2=>[1] | 3=>[2] | 4=>[3] | 7=>[6] | 8=>[4,5,7] | 10=>[9] | 11=>[10] | 12=>[11] | 13=>[12] | 16=>[15] | 17=>[13,14,16] | 18=>[8,17] | 19=>[18,8,17] | _=>[])
   (fun | 4=>[8] | 7=>[8] | 13=>[17] | 16=>[17] | _=>[]) (by kernel_rfl) (by kernel_rfl) (Below.refl _ _).drew ?_ ?_ ⟨?_,?_,?_,?_,?_,?_,?_,?_,?_,?_,?_,?_,?_,?_,?_,?_,?_,?_,?_,?_,trivial⟩ ?_
  ·intro i wa wb hk hi
   by_cases h8:i=8
   ·rw [if_pos h8] at hk
    exact hi.trans hk.2
   ·rw [if_neg h8] at hk
    by_cases h17:i=17
    ·rw [if_pos h17] at hk
     exact hi.trans hk.2
    ·rw [if_neg h17] at hk
     exact below_then' hi hk
  ·intro i j U wa wb hji hkl hk hi h
   by_cases h8:i=8
   ·rw [if_pos h8] at hk
    subst h8
    have hsm:=hk.1
    match j,hji,hkl,h with
    | 0,_,_,h=>exact h
    | 1,_,_,h=>exact h
    | 2,_,_,h=>exact h
    | 3,_,_,h=>exact h
    | 4,_,hkl,h=>exact absurd (by simp) hkl
    | 5,_,_,h=>exact h
    | 6,_,_,h=>exact h
    | 7,_,hkl,h=>exact absurd (by simp) hkl
    | 8,hji,_,h=>exact absurd rfl hji
    | 9,_,_,h=>exact h
    | 10,_,_,h=>exact h
    | 11,_,_,h=>exact h
    | 12,_,_,h=>exact h
    | 13,_,_,h=>exact OwnAt.same' flat_val h hsm (by decide)
    | 14,_,_,h=>exact h
    | 15,_,_,h=>exact h
    | 16,_,_,h=>exact (by obtain⟨g,h1,h2⟩:=h;exact⟨g,h1,hsm g _ _ _ h2 (by decide)⟩)
    | 17,_,_,h=>exact OwnAt.same' flat_val h hsm (by decide)
    | 18,_,_,h=>exact h
    | 19,_,_,h=>exact (by obtain⟨g,h1,h0,h2⟩:=h;exact⟨g,h1,h0,hsm g _ _ _ h2 (by decide)⟩)
    | _+20,_,_,h=>trivial
   ·rw [if_neg h8] at hk
    by_cases h17:i=17
    ·rw [if_pos h17] at hk
     subst h17
     have hsm:=hk.1
     match j,hji,hkl,h with
     | 0,_,_,h=>exact h
     | 1,_,_,h=>exact h
     | 2,_,_,h=>exact h
     | 3,_,_,h=>exact h
     | 4,_,_,h=>exact OwnAt.same' flat_val h hsm (by decide)
     | 5,_,_,h=>exact h
     | 6,_,_,h=>exact h
     | 7,_,_,h=>exact (by obtain⟨g,h1,h2⟩:=h;exact⟨g,h1,hsm g _ _ _ h2 (by decide)⟩)
     | 8,_,_,h=>exact OwnAt.same' flat_val h hsm (by decide)
     | 9,_,_,h=>exact h
     | 10,_,_,h=>exact h
     | 11,_,_,h=>exact h
     | 12,_,_,h=>exact h
     | 13,_,hkl,h=>exact absurd (by simp) hkl
     | 14,_,_,h=>exact h
     | 15,_,_,h=>exact h
     | 16,_,hkl,h=>exact absurd (by simp) hkl
     | 17,hji,_,h=>exact absurd rfl hji
     | 18,_,_,h=>exact h
     | 19,_,_,h=>exact (by obtain⟨g,h1,h0,h2⟩:=h;exact⟨g,h1,h0,hsm g _ _ _ h2 (by decide)⟩)
     | _+20,_,_,h=>trivial
    ·rw [if_neg h17] at hk
     match j,h with
     | 0,h=>exact h
     | 1,h=>exact h
     | 2,h=>exact h
     | 3,h=>exact h
     | 4,h=>exact OwnAt.below stays_val h hk
     | 5,h=>exact h
     | 6,h=>exact h
     | 7,h=>exact (by obtain⟨g,h1,h2⟩:=h;exact⟨g,h1,below_block hk h2⟩)
     | 8,h=>exact OwnAt.below stays_val h hk
     | 9,h=>exact h
     | 10,h=>exact h
     | 11,h=>exact h
     | 12,h=>exact h
     | 13,h=>exact OwnAt.below stays_val h hk
     | 14,h=>exact h
     | 15,h=>exact h
     | 16,h=>exact (by obtain⟨g,h1,h2⟩:=h;exact⟨g,h1,below_block hk h2⟩)
     | 17,h=>exact OwnAt.below stays_val h hk
     | 18,h=>exact h
     | 19,h=>exact (by obtain⟨g,h1,h0,h2⟩:=h;exact⟨g,h1,h0,below_block hk h2⟩)
     | _+20,h=>trivial
  ·intro x' w' hb hd
   have hbw:Below w.heap.size w w':=(below_drewN0 w k).trans hb
   have e0:w'.cell? ⟨q,0,none⟩=some (.slice an ln c1):=(hbw.cell (p:=⟨q,0,none⟩) hqw).trans cn
   have e1:w'.cell? ⟨q,1,none⟩=some (.slice av lv c2):=(hbw.cell (p:=⟨q,1,none⟩) hqw).trans cv
   refine owesK_here (.pointer (some ⟨q,0,none⟩)) (by rfl) ?_ rfl (else_of (by decide) (else_of (by decide) (Below.refl _ _)))
   simp only [putAll,List.take_succ_cons,List.take_zero]
   go_simp
  ·intro x' w' hb hd
   have hbw:Below w.heap.size w w':=(below_drewN0 w k).trans hb
   have e0:w'.cell? ⟨q,0,none⟩=some (.slice an ln c1):=(hbw.cell (p:=⟨q,0,none⟩) hqw).trans cn
   have e1:w'.cell? ⟨q,1,none⟩=some (.slice av lv c2):=(hbw.cell (p:=⟨q,1,none⟩) hqw).trans cv
   have k0:x' 0=.pointer (some ⟨q,0,none⟩):=hd 0 (by simp)
   refine owesK_here (.pointer (some ⟨q,0,none⟩)) (by rfl) ?_ rfl (else_of (by decide) (else_of (by decide) (Below.refl _ _)))
   simp only [putAll,List.take_succ_cons,List.take_zero]
   go_simp
  ·intro x' w' hb hd
   have hbw:Below w.heap.size w w':=(below_drewN0 w k).trans hb
   have e0:w'.cell? ⟨q,0,none⟩=some (.slice an ln c1):=(hbw.cell (p:=⟨q,0,none⟩) hqw).trans cn
   have e1:w'.cell? ⟨q,1,none⟩=some (.slice av lv c2):=(hbw.cell (p:=⟨q,1,none⟩) hqw).trans cv
   have k0:x' 1=.pointer (some ⟨q,0,none⟩):=hd 1 (by simp)
   refine owesK_here (.pointer (some ⟨q,0,none⟩)) (by rfl) ?_ rfl (else_of (by decide) (else_of (by decide) (Below.refl _ _)))
   simp only [putAll,List.take_succ_cons,List.take_zero]
   go_simp
  ·intro x' w' hb hd
   have hbw:Below w.heap.size w w':=(below_drewN0 w k).trans hb
   have e0:w'.cell? ⟨q,0,none⟩=some (.slice an ln c1):=(hbw.cell (p:=⟨q,0,none⟩) hqw).trans cn
   have e1:w'.cell? ⟨q,1,none⟩=some (.slice av lv c2):=(hbw.cell (p:=⟨q,1,none⟩) hqw).trans cv
   have k0:x' 2=.pointer (some ⟨q,0,none⟩):=hd 2 (by simp)
   refine owesK_here (.slice an ln c1) (by rfl) ?_ rfl (else_of (by decide) (else_of (by decide) (Below.refl _ _)))
   simp only [putAll,List.take_succ_cons,List.take_zero]
   go_simp
  ·intro x' w' hb hd
   have hbw:Below w.heap.size w w':=(below_drewN0 w k).trans hb
   have e0:w'.cell? ⟨q,0,none⟩=some (.slice an ln c1):=(hbw.cell (p:=⟨q,0,none⟩) hqw).trans cn
   have e1:w'.cell? ⟨q,1,none⟩=some (.slice av lv c2):=(hbw.cell (p:=⟨q,1,none⟩) hqw).trans cv
   have k0:x' 3=.slice an ln c1:=hd 3 (by simp)
   refine owesK_call 78 #[.slice an ln c1] (by rfl) ?_ ((HC1.out w' hbw).mono fun e w2 ⟨v',h1,h2,h3⟩=>⟨v',h1,h2.mono hbw.size,else_of (by decide) (else_of (by decide) h3)⟩)
   simp only [putAll,List.take_succ_cons,List.take_zero]
   go_simp
  ·intro x' w' hb hd
   have hbw:Below w.heap.size w w':=(below_drewN0 w k).trans hb
   have e0:w'.cell? ⟨q,0,none⟩=some (.slice an ln c1):=(hbw.cell (p:=⟨q,0,none⟩) hqw).trans cn
   have e1:w'.cell? ⟨q,1,none⟩=some (.slice av lv c2):=(hbw.cell (p:=⟨q,1,none⟩) hqw).trans cv
   refine owesK_here (.int .i64 (p:Int)) (by rfl) ?_ rfl (else_of (by decide) (else_of (by decide) (Below.refl _ _)))
   simp only [putAll,List.take_succ_cons,List.take_zero]
   go_simp
  ·intro x' w' hb hd
   have hbw:Below w.heap.size w w':=(below_drewN0 w k).trans hb
   have e0:w'.cell? ⟨q,0,none⟩=some (.slice an ln c1):=(hbw.cell (p:=⟨q,0,none⟩) hqw).trans cn
   have e1:w'.cell? ⟨q,1,none⟩=some (.slice av lv c2):=(hbw.cell (p:=⟨q,1,none⟩) hqw).trans cv
   refine owesK_here (.string (mkB x)) (by rfl) ?_ rfl (else_of (by decide) (else_of (by decide) (Below.refl _ _)))
   simp only [putAll,List.take_succ_cons,List.take_zero]
   go_simp
  ·intro x' w' hb hd
   have hbw:Below w.heap.size w w':=(below_drewN0 w k).trans hb
   have e0:w'.cell? ⟨q,0,none⟩=some (.slice an ln c1):=(hbw.cell (p:=⟨q,0,none⟩) hqw).trans cn
   have e1:w'.cell? ⟨q,1,none⟩=some (.slice av lv c2):=(hbw.cell (p:=⟨q,1,none⟩) hqw).trans cv
   have k0:x' 6=.string (mkB x):=hd 6 (by simp)
   refine owesK_makes (.slice (some ⟨w'.heap.size,0,none⟩) 1 1) (w':=w'.alloc (.cells #[.string (mkB x)] 9)) (by rfl) ?_ (⟨_,rfl,heap_alloc_new w' _⟩) (else_of (by decide) (else_of (by decide) ((Below.refl _ _).alloc (Nat.le_refl _) _)))
   simp only [putAll,List.take_succ_cons,List.take_zero]
   go_simp
  ·intro x' w' hb hd
   have hbw:Below w.heap.size w w':=(below_drewN0 w k).trans hb
   have e0:w'.cell? ⟨q,0,none⟩=some (.slice an ln c1):=(hbw.cell (p:=⟨q,0,none⟩) hqw).trans cn
   have e1:w'.cell? ⟨q,1,none⟩=some (.slice av lv c2):=(hbw.cell (p:=⟨q,1,none⟩) hqw).trans cv
   have k4:OwnAt RVal 1 w' w.heap.size 9 (x' 4) xs:=hd 4 (by simp)
   have k5:x' 5=.int .i64 (p:Int):=hd 5 (by simp)
   have k7:∃ g,x' 7=.slice (some ⟨g,0,none⟩) 1 1∧w'.heap[g]? = some (.cells #[.string (mkB x)] 9 (0,0)):=hd 7 (by simp)
   obtain⟨g,k7,kg⟩:=k7
   refine owesK_call 160 #[x' 4,.int .i64 (p:Int),.slice (some ⟨g,0,none⟩) 1 1] (by rfl) ?_ ((insStr_any (x' 4) xs w.heap.size p (.string (mkB x)) g w' k4 hxp hsx kg hbw.size hxs).mono fun e w2 ⟨v',h1,h2,h3,h4⟩=>⟨v',h1,h2,then_of rfl ⟨h4,h3⟩⟩)
   simp only [putAll,List.take_succ_cons,List.take_zero]
   go_simp
  ·intro x' w' hb hd
   have hbw:Below w.heap.size w w':=(below_drewN0 w k).trans hb
   have e0:w'.cell? ⟨q,0,none⟩=some (.slice an ln c1):=(hbw.cell (p:=⟨q,0,none⟩) hqw).trans cn
   have e1:w'.cell? ⟨q,1,none⟩=some (.slice av lv c2):=(hbw.cell (p:=⟨q,1,none⟩) hqw).trans cv
   refine owesK_here (.pointer (some ⟨q,0,none⟩)) (by rfl) ?_ rfl (else_of (by decide) (else_of (by decide) (Below.refl _ _)))
   simp only [putAll,List.take_succ_cons,List.take_zero]
   go_simp
  ·intro x' w' hb hd
   have hbw:Below w.heap.size w w':=(below_drewN0 w k).trans hb
   have e0:w'.cell? ⟨q,0,none⟩=some (.slice an ln c1):=(hbw.cell (p:=⟨q,0,none⟩) hqw).trans cn
   have e1:w'.cell? ⟨q,1,none⟩=some (.slice av lv c2):=(hbw.cell (p:=⟨q,1,none⟩) hqw).trans cv
   have k0:x' 9=.pointer (some ⟨q,0,none⟩):=hd 9 (by simp)
   refine owesK_here (.pointer (some ⟨q,0,none⟩)) (by rfl) ?_ rfl (else_of (by decide) (else_of (by decide) (Below.refl _ _)))
   simp only [putAll,List.take_succ_cons,List.take_zero]
   go_simp
  ·intro x' w' hb hd
   have hbw:Below w.heap.size w w':=(below_drewN0 w k).trans hb
   have e0:w'.cell? ⟨q,0,none⟩=some (.slice an ln c1):=(hbw.cell (p:=⟨q,0,none⟩) hqw).trans cn
   have e1:w'.cell? ⟨q,1,none⟩=some (.slice av lv c2):=(hbw.cell (p:=⟨q,1,none⟩) hqw).trans cv
   have k0:x' 10=.pointer (some ⟨q,0,none⟩):=hd 10 (by simp)
   refine owesK_here (.pointer (some ⟨q,1,none⟩)) (by rfl) ?_ rfl (else_of (by decide) (else_of (by decide) (Below.refl _ _)))
   simp only [putAll,List.take_succ_cons,List.take_zero]
   go_simp
  ·intro x' w' hb hd
   have hbw:Below w.heap.size w w':=(below_drewN0 w k).trans hb
   have e0:w'.cell? ⟨q,0,none⟩=some (.slice an ln c1):=(hbw.cell (p:=⟨q,0,none⟩) hqw).trans cn
   have e1:w'.cell? ⟨q,1,none⟩=some (.slice av lv c2):=(hbw.cell (p:=⟨q,1,none⟩) hqw).trans cv
   have k0:x' 11=.pointer (some ⟨q,1,none⟩):=hd 11 (by simp)
   refine owesK_here (.slice av lv c2) (by rfl) ?_ rfl (else_of (by decide) (else_of (by decide) (Below.refl _ _)))
   simp only [putAll,List.take_succ_cons,List.take_zero]
   go_simp
  ·intro x' w' hb hd
   have hbw:Below w.heap.size w w':=(below_drewN0 w k).trans hb
   have e0:w'.cell? ⟨q,0,none⟩=some (.slice an ln c1):=(hbw.cell (p:=⟨q,0,none⟩) hqw).trans cn
   have e1:w'.cell? ⟨q,1,none⟩=some (.slice av lv c2):=(hbw.cell (p:=⟨q,1,none⟩) hqw).trans cv
   have k0:x' 12=.slice av lv c2:=hd 12 (by simp)
   refine owesK_call 159 #[.slice av lv c2] (by rfl) ?_ ((HC2.out w' hbw).mono fun e w2 ⟨v',h1,h2,h3⟩=>⟨v',h1,h2.mono hbw.size,else_of (by decide) (else_of (by decide) h3)⟩)
   simp only [putAll,List.take_succ_cons,List.take_zero]
   go_simp
  ·intro x' w' hb hd
   have hbw:Below w.heap.size w w':=(below_drewN0 w k).trans hb
   have e0:w'.cell? ⟨q,0,none⟩=some (.slice an ln c1):=(hbw.cell (p:=⟨q,0,none⟩) hqw).trans cn
   have e1:w'.cell? ⟨q,1,none⟩=some (.slice av lv c2):=(hbw.cell (p:=⟨q,1,none⟩) hqw).trans cv
   refine owesK_here (.int .i64 (p:Int)) (by rfl) ?_ rfl (else_of (by decide) (else_of (by decide) (Below.refl _ _)))
   simp only [putAll,List.take_succ_cons,List.take_zero]
   go_simp
  ·intro x' w' hb hd
   have hbw:Below w.heap.size w w':=(below_drewN0 w k).trans hb
   have e0:w'.cell? ⟨q,0,none⟩=some (.slice an ln c1):=(hbw.cell (p:=⟨q,0,none⟩) hqw).trans cn
   have e1:w'.cell? ⟨q,1,none⟩=some (.slice av lv c2):=(hbw.cell (p:=⟨q,1,none⟩) hqw).trans cv
   refine owesK_here v (by rfl) ?_ rfl (else_of (by decide) (else_of (by decide) (Below.refl _ _)))
   simp only [putAll,List.take_succ_cons,List.take_zero]
   go_simp
  ·intro x' w' hb hd
   have hbw:Below w.heap.size w w':=(below_drewN0 w k).trans hb
   have e0:w'.cell? ⟨q,0,none⟩=some (.slice an ln c1):=(hbw.cell (p:=⟨q,0,none⟩) hqw).trans cn
   have e1:w'.cell? ⟨q,1,none⟩=some (.slice av lv c2):=(hbw.cell (p:=⟨q,1,none⟩) hqw).trans cv
   have k0:x' 15=v:=hd 15 (by simp)
   have hf:=HVf.out
   refine owesK_makes (.slice (some ⟨w'.heap.size,0,none⟩) 1 1) (w':=w'.alloc (.cells #[v] 125)) (by rfl) ?_ (⟨_,rfl,heap_alloc_new w' _⟩) (else_of (by decide) (else_of (by decide) ((Below.refl _ _).alloc (Nat.le_refl _) _)))
   simp only [putAll,List.take_succ_cons,List.take_zero]
   rcases hf with rfl | ⟨t,u,rfl⟩
   ·go_simp
   ·go_simp
  ·intro x' w' hb hd
   have hbw:Below w.heap.size w w':=(below_drewN0 w k).trans hb
   have e0:w'.cell? ⟨q,0,none⟩=some (.slice an ln c1):=(hbw.cell (p:=⟨q,0,none⟩) hqw).trans cn
   have e1:w'.cell? ⟨q,1,none⟩=some (.slice av lv c2):=(hbw.cell (p:=⟨q,1,none⟩) hqw).trans cv
   have k4:OwnAt RVal 1 w' w.heap.size 125 (x' 13) ys:=hd 13 (by simp)
   have k5:x' 14=.int .i64 (p:Int):=hd 14 (by simp)
   have k7:∃ g,x' 16=.slice (some ⟨g,0,none⟩) 1 1∧w'.heap[g]? = some (.cells #[v] 125 (0,0)):=hd 16 (by simp)
   obtain⟨g,k7,kg⟩:=k7
   refine owesK_call 161 #[x' 13,.int .i64 (p:Int),.slice (some ⟨g,0,none⟩) 1 1] (by rfl) ?_ ((insVal_any (x' 13) ys w.heap.size p v g w' k4 hyp hv1 kg hbw.size hys).mono fun e w2 ⟨v',h1,h2,h3,h4⟩=>⟨v',h1,h2,else_of (by decide) (then_of rfl ⟨h4,h3⟩)⟩)
   simp only [putAll,List.take_succ_cons,List.take_zero]
   go_simp
  ·intro x' w' hb hd
   have hbw:Below w.heap.size w w':=(below_drewN0 w k).trans hb
   have e0:w'.cell? ⟨q,0,none⟩=some (.slice an ln c1):=(hbw.cell (p:=⟨q,0,none⟩) hqw).trans cn
   have e1:w'.cell? ⟨q,1,none⟩=some (.slice av lv c2):=(hbw.cell (p:=⟨q,1,none⟩) hqw).trans cv
   have k8:OwnAt RVal 1 w' w.heap.size 9 (x' 8) (xs.take p ++ .string (mkB x) :: xs.drop p):=hd 8 (by simp)
   have k17:OwnAt RVal 1 w' w.heap.size 125 (x' 17) (ys.take p++v :: ys.drop p):=hd 17 (by simp)
   obtain⟨a8,c8,e8,_,_⟩:=k8.row.len
   obtain⟨a17,c17,e17,_,_⟩:=k17.row.len
   refine owesK_here (.agg #[x' 8,x' 17]) (by rfl) ?_ rfl (else_of (by decide) (else_of (by decide) (Below.refl _ _)))
   simp only [putAll,List.take_succ_cons,List.take_zero]
   go_simp
  ·intro x' w' hb hd
   have hbw:Below w.heap.size w w':=(below_drewN0 w k).trans hb
   have e0:w'.cell? ⟨q,0,none⟩=some (.slice an ln c1):=(hbw.cell (p:=⟨q,0,none⟩) hqw).trans cn
   have e1:w'.cell? ⟨q,1,none⟩=some (.slice av lv c2):=(hbw.cell (p:=⟨q,1,none⟩) hqw).trans cv
   have k8:OwnAt RVal 1 w' w.heap.size 9 (x' 8) (xs.take p ++ .string (mkB x) :: xs.drop p):=hd 8 (by simp)
   have k17:OwnAt RVal 1 w' w.heap.size 125 (x' 17) (ys.take p++v :: ys.drop p):=hd 17 (by simp)
   have k18:x' 18=.agg #[x' 8,x' 17]:=hd 18 (by simp)
   obtain⟨a8,c8,e8,_,_⟩:=k8.row.len
   obtain⟨a17,c17,e17,_,_⟩:=k17.row.len
   refine owesK_makes (.pointer (some ⟨w'.heap.size,0,none⟩)) (w':=w'.alloc (.cells #[x' 8,x' 17] 192)) (by rfl) ?_ (⟨_,rfl,hbw.size,heap_alloc_new w' _⟩) (else_of (by decide) (else_of (by decide) ((Below.refl _ _).alloc (Nat.le_refl _) _)))
   simp only [putAll,List.take_succ_cons,List.take_zero]
   go_simp
  ·intro x' w' hb hR
   have hbw:Below w.heap.size w w':=(below_drewN0 w k).trans hb
   have e0:w'.cell? ⟨q,0,none⟩=some (.slice an ln c1):=(hbw.cell (p:=⟨q,0,none⟩) hqw).trans cn
   have e1:w'.cell? ⟨q,1,none⟩=some (.slice av lv c2):=(hbw.cell (p:=⟨q,1,none⟩) hqw).trans cv
   have k8:OwnAt RVal 1 w' w.heap.size 9 (x' 8) (xs.take p ++ .string (mkB x) :: xs.drop p):=hR 8 (by omega) rfl
   have k17:OwnAt RVal 1 w' w.heap.size 125 (x' 17) (ys.take p++v :: ys.drop p):=hR 17 (by omega) rfl
   obtain⟨q',k19,hq1,kq⟩:∃ g,x' 19=.pointer (some ⟨g,0,none⟩)∧w.heap.size≤g∧w'.heap[g]? = some (.cells #[x' 8,x' 17] 192 (0,0)):=hR 19 (by omega) rfl
   have Hb:=Lib.hid hbw
   have K8:=Lib.hid k8
   have K17:=Lib.hid k17
   have Kq:=Lib.hid kq
   clear hR hb hbw k8 k17 kq e0 e1
   simp only [putAll,List.take_succ_cons,List.take_zero,List.drop_succ_cons,List.drop_zero]
   try simp only [Act.put,List.setIfInBounds_toArray,List.set_cons_zero,List.set_cons_succ]
   go_wp2_with fail
   go_ret
   refine⟨q',?_,?_,Hb.out⟩
   ·show Ending.returned (x' 19)=_
    rw [k19]
   ·refine Hfin.out w' q' (x' 8) (x' 17) (KeepT.of Hb.out) (fun hm=>by have h9:=HT.out _ hm;omega) ?_ ?_ K8.out.row (off_new K8.out HT.out) K17.out.row (off_new K17.out HT.out)
    ·rw [cell_block Kq.out];rfl
    ·rw [cell_block Kq.out];rfl
end Go.Proofs.YtnnceaapodgfbaaGreatDoor
namespace Go.Proofs.YtnnceaapodgfbaaGreatDoor
open Go.RowKit
open JP (JV Bs Fr)
structure GF where
 lv:Value
 pv:Value
 nm:ByteArray
def RFr:Rd GF:=fun _ cs f=>cs = [f.lv,f.pv,.string f.nm]∧f.lv.oneCell'=true∧f.pv.oneCell'=true
theorem flat_fr:Flat RFr:=fun _ _ _ _ h=>h
theorem one_fr:OneR RFr:=fun _ _ _ h u hu=>by
 obtain⟨h1,h2,h3⟩:=h
 rw [h1] at hu
 simp only [List.mem_cons,List.not_mem_nil,or_false] at hu
 rcases hu with rfl | rfl | rfl
 ·exact h2
 ·exact h3
 ·rfl
theorem Tryz.infoFr:(Tryz.prog.info? 223).map (fun i=>(i.zero,i.size,i.bytes))=some (some (.agg #[.slice none 0 0,.pointer none,.string ByteArray.empty]),3,48):=by kernel_rfl
def FrAt (B:Nat) (T:List Nat) (w:World) (f:GF):Fr→Prop
 | .lst d=>f.pv=.pointer none∧f.nm=⟨#[]⟩∧(∀ b,f.lv.ownBlock=some b→b∈T)∧∃ n xs,OwnAt RVal 1 w B 125 f.lv xs∧xs.length=d.length∧∀ (j:Nat) (u:Value) (x:JV),xs[j]? = some u→d[j]? = some x→JvAt n T w u x
 | .ob d nm=>f.lv=.slice none 0 0∧f.nm=mkB nm∧∃ n q,f.pv=.pointer (some ⟨q,0,none⟩)∧ObR (JvR n T) T w q d
def AllFr (B:Nat) (T:List Nat) (w:World):List GF→List Fr→Prop
 | [],[]=>True
 | f :: fs,fr :: st=>FrAt B T w f fr∧AllFr B T w fs st
 | _,_=>False
theorem ObR.keepJ {n:Nat} {T:List Nat} {w w':World} {q:Nat} {d:List (Bs × JV)} (h:ObR (JvR n T) T w q d) (hk:KeepT T w w'):ObR (JvR n T) T w' q d:=h.keepT hk (fun _ _ ⟨v,e,hv⟩=>⟨v,e,hv.keepT hk⟩)
theorem ObR.freshJ {n:Nat} {T T':List Nat} {w:World} {q:Nat} {d:List (Bs × JV)} (h:ObR (JvR n T) T w q d) (hs:∀ b∈T',b∈T∨w.heap.size≤b):ObR (JvR n T') T' w q d:=by
 have:JvAt (n+1) T w (.iface 190 (.pointer (some ⟨q,0,none⟩))) (.obj d):=⟨q,rfl,h⟩
 obtain⟨q',e,h'⟩:=this.fresh hs
 have:q'=q:=by injection e with _ e;injection e with e;injection e with e;injection e with e;exact e.symm
 subst this
 exact h'
theorem FrAt.keep {B:Nat} {T:List Nat} {w w':World} {f:GF} {fr:Fr} (h:FrAt B T w f fr) (hk:KeepT T w w') (hr:∀ b,f.lv.ownBlock=some b→w'.heap[b]? = w.heap[b]?):FrAt B T w' f fr:=by
 cases fr with
 | lst d=>
  obtain⟨h1,h2,h3,n,xs,ho,hl,hx⟩:=h
  refine⟨h1,h2,h3,n,xs,?_,hl,fun j u x hu hd=>(hx j u x hu hd).keepT hk⟩
  obtain⟨css,c1,c2,c3,c4⟩:=ho
  refine⟨css,c1,c2,⟨c3.1,?_⟩,fun j cs y hcs hy=>c4 j cs y hcs hy⟩
  rcases c3.2 with h5 | ⟨q,cap,cur,hv,hB,hh,hr2⟩
  ·exact .inl h5
  ·exact .inr ⟨q,cap,cur,hv,hB,(hr q (by rw [hv];rfl)).trans hh,hr2⟩
 | ob d nm=>
  obtain⟨h1,h2,n,q,h3,h4⟩:=h
  exact⟨h1,h2,n,q,h3,h4.keepJ hk⟩
theorem FrAt.fresh {B:Nat} {T T':List Nat} {w:World} {f:GF} {fr:Fr} (h:FrAt B T w f fr) (hs:∀ b∈T',b∈T∨w.heap.size≤b) (hl:∀ b,f.lv.ownBlock=some b→b∈T'):FrAt B T' w f fr:=by
 cases fr with
 | lst d=>
  obtain⟨h1,h2,_,n,xs,ho,hl2,hx⟩:=h
  exact⟨h1,h2,hl,n,xs,ho,hl2,fun j u x hu hd=>(hx j u x hu hd).fresh hs⟩
 | ob d nm=>
  obtain⟨h1,h2,n,q,h3,h4⟩:=h
  exact⟨h1,h2,n,q,h3,h4.freshJ hs⟩
theorem FrAt.own {B:Nat} {T:List Nat} {w:World} {f:GF} {fr:Fr} (h:FrAt B T w f fr) {b:Nat} (hb:f.lv.ownBlock=some b):b∈T∧B≤b∧∃ cur,w.heap[b]? = some (.cells cur 125 (0,0)):=by
 cases fr with
 | lst d=>
  obtain⟨_,_,h3,n,xs,ho,_⟩:=h
  obtain⟨k1,_,k3⟩:=ho.at hb
  exact⟨h3 b hb,k1,k3⟩
 | ob d nm=>
  rw [h.1] at hb
  cases hb
theorem AllFr.len {B:Nat} {T:List Nat} {w:World}:∀ {fs:List GF} {st:List Fr},AllFr B T w fs st→fs.length=st.length
 | [],[],_=>rfl
 | f :: fs,fr :: st,h=>by rw [List.length_cons,List.length_cons,AllFr.len h.2]
 | [],_ :: _,h=>by cases h
 | _ :: _,[],h=>by cases h
theorem AllFr.own {B:Nat} {T:List Nat} {w:World}:∀ {fs:List GF} {st:List Fr},AllFr B T w fs st→∀ f∈fs,∀ b,f.lv.ownBlock=some b→b∈T∧B≤b∧∃ cur,w.heap[b]? = some (.cells cur 125 (0,0))
 | [],[],_,f,hf,_,_=>by cases hf
 | f :: fs,fr :: st,h,f',hf,b,hb=>by
  rcases List.mem_cons.1 hf with rfl | hf
  ·exact FrAt.own h.1 hb
  ·exact AllFr.own h.2 f' hf b hb
 | [],_ :: _,h,_,_,_,_=>by cases h
 | _ :: _,[],h,_,_,_,_=>by cases h
theorem AllFr.keep {B:Nat} {T:List Nat} {w w':World} (hk:KeepT T w w'):∀ {fs:List GF} {st:List Fr},AllFr B T w fs st→(∀ f∈fs,∀ b,f.lv.ownBlock=some b→w'.heap[b]? = w.heap[b]?)→AllFr B T w' fs st
 | [],[],_,_=>trivial
 | f :: fs,fr :: st,h,hr=>⟨FrAt.keep h.1 hk (hr f (List.mem_cons_self ..)),AllFr.keep hk h.2 fun f' hf=>hr f' (List.mem_cons_of_mem _ hf)⟩
 | [],_ :: _,h,_=>by cases h
 | _ :: _,[],h,_=>by cases h
theorem AllFr.fresh {B:Nat} {T T':List Nat} {w:World} (hs:∀ b∈T',b∈T∨w.heap.size≤b):∀ {fs:List GF} {st:List Fr},AllFr B T w fs st→(∀ f∈fs,∀ b,f.lv.ownBlock=some b→b∈T')→AllFr B T' w fs st
 | [],[],_,_=>trivial
 | f :: fs,fr :: st,h,hr=>⟨FrAt.fresh h.1 hs (hr f (List.mem_cons_self ..)),AllFr.fresh hs h.2 fun f' hf=>hr f' (List.mem_cons_of_mem _ hf)⟩
 | [],_ :: _,h,_=>by cases h
 | _ :: _,[],h,_=>by cases h
def lbs (fs:List GF):List Nat:=fs.filterMap fun f=>f.lv.ownBlock
theorem lbs_mem {fs:List GF} {b:Nat}:b∈lbs fs↔∃ f∈fs,f.lv.ownBlock=some b:=by unfold lbs;rw [List.mem_filterMap]
structure Core (g:Nat) (T:List Nat) (w:World) (vst:Value) (fs:List GF) (st:List Fr):Prop where
 row:OwnAt RFr 3 w (g+1) 223 vst fs.reverse
 gT:g∈T
 vT:∀ b,vst.ownBlock=some b→b∈T
 low:∀ b∈T,(∀ k,k<g→k∈T)∧b<w.heap.size
 nd:(lbs fs).Nodup
 all:AllFr (g+1) T w fs st
theorem Core.but {g:Nat} {T:List Nat} {w w':World} {vst:Value} {fs:List GF} {st:List Fr} (h:Core g T w vst fs st) (hb:But g w w'):Core g T w' vst fs st:=by
 refine⟨h.row.butLow flat_fr hb (Nat.lt_succ_self g),h.gT,h.vT,fun b hm=>⟨(h.low b hm).1,Nat.lt_of_lt_of_le (h.low b hm).2 hb.size⟩,h.nd,h.all.keep (KeepT.but hb h.gT) fun f hf b ho=>?_⟩
 obtain⟨k1,k2,_⟩:=h.all.own f hf b ho
 exact hb.block b (h.low b k1).2 (by omega)
def RS (g:Nat) (s:ByteArray) (r:Bs) (m:Nat) (st:List Fr) (vx:Option (Value × JV)) (w:World):Prop:=
 ∃ a vst fs T,a≤s.size∧s.data.toList.drop a=r∧RdAt g s a m vst 0 w∧Core g T w vst fs st∧match vx with
  | none=>True
  | some y=>∃ n,JvAt n T w y.1 y.2
def RBad (g:Nat) (s:ByteArray) (er:Int) (w:World):Prop:=er≠0∧∃ a m vst,RdAt g s a m vst er w
theorem below_but {g:Nat} {w w':World} (h:But g w w') (hg:g<w.heap.size):Below g w w':=⟨h.os,h.tape,h.output,h.size,fun k hk=>h.block k (by omega) (by omega)⟩
def Out (g:Nat) (s:ByteArray) (w:World) (x:JP.R) (v:Value) (b:Bool) (w':World):Prop:=
 Below g w w'∧match x with
  | .bad er=>RBad g s er w'
  | .whole y r m st=>b=true∧RS g s r m st (some (v,y)) w'
  | .more r m st=>b=false∧RS g s r m st none w'
def OutE (g:Nat) (s:ByteArray) (w:World) (x:JP.R) (e:Ending) (w':World):Prop:=∃ v b,e=.returned (.tuple #[v,.bool b])∧Out g s w x v b w'
theorem OwnAt.pop {g n c:Nat} {w:World} {B:Nat} {e:TypeId} {l:List GF} {x:GF} (h:OwnAt RFr 3 w B e (.slice (some ⟨g,0,none⟩) (n+1) c) (l++[x])) (hn:l.length=n):OwnAt RFr 3 w B e (.slice (some ⟨g,0,none⟩) n c) l:=by
 obtain⟨css,h1,h2,h3,h4⟩:=h
 rw [List.length_append,List.length_singleton] at h1
 have hcs:css=css.take n++[css[n]'(by omega)]:=by
  conv=>lhs;rw [←List.take_append_drop n css,List.drop_eq_getElem_cons (by omega),List.drop_eq_nil_of_le (by omega)]
 refine⟨css.take n,by rw [List.length_take];omega,fun cs hm=>h2 cs (List.mem_of_mem_take hm),?_,fun j cs y hcs' hy=>?_⟩
 ·have hfn:(css.take n).flatten.length=n*3:=by rw [flat_len (k:=3) fun cs hm=>h2 cs (List.mem_of_mem_take hm),List.length_take];omega
  have hfl:(css.take n).flatten=css.flatten.take (n*3):=by
   have e:=congrArg List.flatten hcs
   rw [List.flatten_append] at e
   rw [e,List.take_left' hfn]
  obtain⟨g1,g2⟩:=h3
  refine⟨by rw [hfn,hn],?_⟩
  rcases g2 with ⟨h5,_⟩ | ⟨q,cap,cur,hv,hB,hh,hlc,hc,hcs2,htk⟩
  ·cases h5
  ·injection hv with e1 e2 e3
   injection e1 with e1
   injection e1 with e1
   subst e1
   subst e3
   refine .inr ⟨_,_,cur,by rw [hn],hB,hh,by omega,hc,hcs2,?_⟩
   rw [hfl,←htk,List.take_take,hn]
   congr 1
   rw [←e2]
   omega
 ·have hj:j<n:=by have:=(List.getElem?_eq_some_iff.1 hy).1;omega
  refine h4 j cs y ?_ (by rw [List.getElem?_append_left (by omega)];exact hy)
  rw [List.getElem?_take_of_lt hj] at hcs'
  exact hcs'
set_option maxRecDepth 100000 in
set_option maxHeartbeats 3200000 in
theorem close_any (g:Nat) (s:ByteArray) (a m b n c:Nat) (v:Value) (w:World) (h:RdAt g s a m (.slice (some ⟨b,0,none⟩) (n+1) c) 0 w) (ha:a<s.size) (hs:s.size≤1048576) (hn:n+1≤c) (hc:c≤maxLen) (hn2:n≤1048576) :
  Calls Tryz.prog 128 #[.pointer (some ⟨g,0,none⟩),v] w fun e w'=>e=.returned v∧RdAt g s (a+1) m (.slice (some ⟨b,0,none⟩) n c) 0 w'∧But g w w':=by
 have c1:w.cell? ⟨g,1,none⟩=some (.int .i64 (a:Int)):=cell_block h 1
 have hz:w.frozen? ⟨g,1,none⟩=false:=free_block h 1
 obtain⟨t1,t2⟩:=touch_setCell (i:=1) (v:=.int .i64 ((a:Int)+1)) h
 obtain⟨W,hW⟩:∃ W,W=w.setCell ⟨g,1,none⟩ (.int .i64 ((a:Int)+1)):=⟨_,rfl⟩
 rw [←hW] at t1 t2
 have hR1:RdAt g s (a+1) m (.slice (some ⟨b,0,none⟩) (n+1) c) 0 W:=RdAt.cast t1 (by omega)
 have k3:W.cell? ⟨g,3,none⟩=some (.slice (some ⟨b,0,none⟩) (n+1) c):=cell_block hR1 3
 have z3:W.frozen? ⟨g,3,none⟩=false:=free_block hR1 3
 have HR1:=Lib.hid hR1
 have HT:=Lib.hid t2
 have q1:(0:Int)≤((n+1:Nat):Int) - 1:=by omega
 have q2:(((n+1:Nat):Int) - 1).toNat=n:=by omega
 have q3:n≤c:=by omega
 have w1:IntKind.i64.wrap (((n+1:Nat):Int) - 1)=(n:Int):=by rw [IntWalk.i64_in _ (by omega)];omega
 have w2:IntKind.i64.wrap (n:Int)=(n:Int):=IntWalk.i64_in _ (by omega)
 clear h t1 t2 hR1
 go_enter Tryz.func128,Tryz.ntmps128
 go_upto_region 2 with fail
 rw [←hW]
 clear hW c1 hz
 refine wp_region_hold 14 (fun w'=>∃ q,w'=W.drewN q) (by kernel_rfl) (by kernel_rfl) ?_ ?_
 ·exact⟨1,rfl⟩
 simp only [List.take_succ_cons,List.take_zero,List.drop_succ_cons,List.drop_zero]
 (first | (refine wpHold_pure (v:=?_) (by rfl) (fun w=>?_) ?_;rotate_left;focus (first | (go_simp;done) | (go_simp;with_reducible rfl))) | (refine wpHold_skip ?_ ?_;focus (go_simp;done)) | (refine wpHold_pure' (v:=?_) ?_ (fun w=>?_) ?_;rotate_left;focus (go_simp;done);focus (first | (go_simp;done) | (go_simp;with_reducible rfl))));try simp only [Act.put,List.setIfInBounds_toArray,List.set_cons_zero,List.set_cons_succ]
 (first | (refine wpHold_pure (v:=?_) (by rfl) (fun w=>?_) ?_;rotate_left;focus (first | (go_simp;done) | (go_simp;with_reducible rfl))) | (refine wpHold_skip ?_ ?_;focus (go_simp;done)) | (refine wpHold_pure' (v:=?_) ?_ (fun w=>?_) ?_;rotate_left;focus (go_simp;done);focus (first | (go_simp;done) | (go_simp;with_reducible rfl))));try simp only [Act.put,List.setIfInBounds_toArray,List.set_cons_zero,List.set_cons_succ]
 (first | (refine wpHold_pure (v:=?_) (by rfl) (fun w=>?_) ?_;rotate_left;focus (first | (go_simp;done) | (go_simp;with_reducible rfl))) | (refine wpHold_skip ?_ ?_;focus (go_simp;done)) | (refine wpHold_pure' (v:=?_) ?_ (fun w=>?_) ?_;rotate_left;focus (go_simp;done);focus (first | (go_simp;done) | (go_simp;with_reducible rfl))));try simp only [Act.put,List.setIfInBounds_toArray,List.set_cons_zero,List.set_cons_succ]
 (first | (refine wpHold_pure (v:=?_) (by rfl) (fun w=>?_) ?_;rotate_left;focus (first | (go_simp;done) | (go_simp;with_reducible rfl))) | (refine wpHold_skip ?_ ?_;focus (go_simp;done)) | (refine wpHold_pure' (v:=?_) ?_ (fun w=>?_) ?_;rotate_left;focus (go_simp;done);focus (first | (go_simp;done) | (go_simp;with_reducible rfl))));try simp only [Act.put,List.setIfInBounds_toArray,List.set_cons_zero,List.set_cons_succ]
 refine wpHold_read (v:=.slice (some ⟨b,0,none⟩) (n+1) c) (by rfl) (fun w' hI=>?_) ?_
 ·obtain⟨q,rfl⟩:=hI
  have dd:=(show (W.drewN q).cell? ⟨g,3,none⟩=_ from k3)
  go_simp
  done
 try simp only [Act.put,List.setIfInBounds_toArray,List.set_cons_zero,List.set_cons_succ]
 (first | (refine wpHold_pure (v:=?_) (by rfl) (fun w=>?_) ?_;rotate_left;focus (first | (go_simp;done) | (go_simp;with_reducible rfl))) | (refine wpHold_skip ?_ ?_;focus (go_simp;done)) | (refine wpHold_pure' (v:=?_) ?_ (fun w=>?_) ?_;rotate_left;focus (go_simp;done);focus (first | (go_simp;done) | (go_simp;with_reducible rfl))));try simp only [Act.put,List.setIfInBounds_toArray,List.set_cons_zero,List.set_cons_succ]
 (first | (refine wpHold_pure (v:=?_) (by rfl) (fun w=>?_) ?_;rotate_left;focus (first | (go_simp;done) | (go_simp;with_reducible rfl))) | (refine wpHold_skip ?_ ?_;focus (go_simp;done)) | (refine wpHold_pure' (v:=?_) ?_ (fun w=>?_) ?_;rotate_left;focus (go_simp;done);focus (first | (go_simp;done) | (go_simp;with_reducible rfl))));try simp only [Act.put,List.setIfInBounds_toArray,List.set_cons_zero,List.set_cons_succ]
 (first | (refine wpHold_pure (v:=?_) (by rfl) (fun w=>?_) ?_;rotate_left;focus (first | (go_simp;done) | (go_simp;with_reducible rfl))) | (refine wpHold_skip ?_ ?_;focus (go_simp;done)) | (refine wpHold_pure' (v:=?_) ?_ (fun w=>?_) ?_;rotate_left;focus (go_simp;done);focus (first | (go_simp;done) | (go_simp;with_reducible rfl))));try simp only [Act.put,List.setIfInBounds_toArray,List.set_cons_zero,List.set_cons_succ]
 refine wpHold_read (v:=.slice (some ⟨b,0,none⟩) (n+1) c) (by rfl) (fun w' hI=>?_) ?_
 ·obtain⟨q,rfl⟩:=hI
  have dd:=(show (W.drewN q).cell? ⟨g,3,none⟩=_ from k3)
  go_simp
  done
 try simp only [Act.put,List.setIfInBounds_toArray,List.set_cons_zero,List.set_cons_succ]
 refine wpHold_pure (v:=.int .i64 ((n+1:Nat):Int)) (by rfl) (fun w=>?_) ?_
 ·first
   | (go_simp;done)
   | rfl
 try simp only [Act.put,List.setIfInBounds_toArray,List.set_cons_zero,List.set_cons_succ]
 refine wpHold_pure (v:=.int .i64 (n:Int)) (by rfl) (fun w=>?_) ?_
 ·go_simp
  done
 try simp only [Act.put,List.setIfInBounds_toArray,List.set_cons_zero,List.set_cons_succ]
 refine wpHold_pure (v:=.slice (some ⟨b,0,none⟩) n c) (by rfl) (fun w=>?_) ?_
 ·go_simp
  done
 try simp only [Act.put,List.setIfInBounds_toArray,List.set_cons_zero,List.set_cons_succ]
 (first | (refine wpHold_pure (v:=?_) (by rfl) (fun w=>?_) ?_;rotate_left;focus (first | (go_simp;done) | (go_simp;with_reducible rfl))) | (refine wpHold_skip ?_ ?_;focus (go_simp;done)) | (refine wpHold_pure' (v:=?_) ?_ (fun w=>?_) ?_;rotate_left;focus (go_simp;done);focus (first | (go_simp;done) | (go_simp;with_reducible rfl))));try simp only [Act.put,List.setIfInBounds_toArray,List.set_cons_zero,List.set_cons_succ]
 (first | (refine wpHold_pure (v:=?_) (by rfl) (fun w=>?_) ?_;rotate_left;focus (first | (go_simp;done) | (go_simp;with_reducible rfl))) | (refine wpHold_skip ?_ ?_;focus (go_simp;done)) | (refine wpHold_pure' (v:=?_) ?_ (fun w=>?_) ?_;rotate_left;focus (go_simp;done);focus (first | (go_simp;done) | (go_simp;with_reducible rfl))));try simp only [Act.put,List.setIfInBounds_toArray,List.set_cons_zero,List.set_cons_succ]
 refine wpHold_nil ?_
 rintro w' ⟨q,rfl⟩
 have y3:(W.drewN q).cell? ⟨g,3,none⟩=some (.slice (some ⟨b,0,none⟩) (n+1) c):=k3
 have x3:(W.drewN q).frozen? ⟨g,3,none⟩=false:=z3
 try simp only [Act.put,List.setIfInBounds_toArray,List.set_cons_zero,List.set_cons_succ]
 go_wp2_with fail
 go_ret
 obtain⟨u1,u2⟩:=touch_setCell (w:=W.drewN q) (i:=3) (v:=.slice (some ⟨b,0,none⟩) n c) HR1.out
 exact⟨rfl,u1,((But.touch HT.out).drew q).trans (But.touch u2)⟩
end Go.Proofs.YtnnceaapodgfbaaGreatDoor
namespace Go.Proofs.YtnnceaapodgfbaaGreatDoor
open Go.RowKit
open JP (JV Bs Fr)
theorem RdAt.lt {g:Nat} {s:ByteArray} {a m:Nat} {vst:Value} {bad:Int} {w:World} (h:RdAt g s a m vst bad w):g<w.heap.size:=blk_lt (show w.heap[g]? = some _ from h)
theorem rbad_of {g:Nat} {s:ByteArray} {a m:Nat} {vst:Value} {er:Int} {w:World} (h:RdAt g s a m vst er w) (h0:er≠0):RBad g s er w:=⟨h0,a,m,vst,h⟩
theorem out_bad {g:Nat} {s:ByteArray} {w w':World} {x:JP.R} {v:Value} {b:Bool} {a m:Nat} {vst:Value} {er:Int} (hx:x=.bad er) (h0:er≠0) (h:RdAt g s a m vst er w') (hb:Below g w w'):Out g s w x v b w':=by
 subst hx;exact⟨hb,rbad_of h h0⟩
theorem out_whole {g:Nat} {s:ByteArray} {w w':World} {x:JP.R} {v:Value} {y:JV} {r:Bs} {m:Nat} {st:List Fr} (hx:x=.whole y r m st) (h:RS g s r m st (some (v,y)) w') (hb:Below g w w'):Out g s w x v true w':=by
 subst hx;exact⟨hb,rfl,h⟩
theorem out_more {g:Nat} {s:ByteArray} {w w':World} {x:JP.R} {v:Value} {r:Bs} {m:Nat} {st:List Fr} (hx:x=.more r m st) (h:RS g s r m st none w') (hb:Below g w w'):Out g s w x v false w':=by
 subst hx;exact⟨hb,rfl,h⟩
theorem rs_whole {g:Nat} {s:ByteArray} {i m:Nat} {vst:Value} {fs:List GF} {T:List Nat} {st:List Fr} {w w':World} {v:Value} {y:JV} {r:Bs} (hi:i≤s.size) (hr:s.data.toList.drop i=r) (h:RdAt g s i m vst 0 w') (hc:Core g T w vst fs st) (hb:But g w w') (hv:JvAt 1 T w' v y):RS g s r m st (some (v,y)) w':=
 ⟨i,vst,fs,T,hi,hr,h,hc.but hb,1,hv⟩
set_option maxRecDepth 100000 in
set_option maxHeartbeats 6400000 in
theorem plain_any (g:Nat) (s:ByteArray) (a m:Nat) (vst:Value) (fs:List GF) (T:List Nat) (st:List Fr) (w:World) (h:RdAt g s a m vst 0 w) (hc:Core g T w vst fs st) (ha:a<s.size) (hs:s.size≤1048576) :
  Calls Tryz.prog 130 #[.pointer (some ⟨g,0,none⟩),.int .u8 (s[a].toNat:Int)] w fun e w'=>∃ v,e=.returned v∧Out g s w (JP.plainP s[a] (s.data.toList.drop a) m st) v true w':=by
 have hgw:=h.lt
 have H:=Lib.hid h
 have Hc:=Lib.hid hc
 have htl:(s.data.toList.drop a).tail=s.data.toList.drop (a+1):=by rw [drop_at ha];rfl
 have HE:Hid (JP.plainP s[a] (s.data.toList.drop a) m st=if s[a]=34 then match JP.textP (s.data.toList.drop (a+1)) with
   | none=>.bad 3
   | some x=>.whole (.str x.1) x.2 m st
  else if s[a]=116 then JP.wordP (.bool true) [116,114,117,101] (s.data.toList.drop a) m st
  else if s[a]=102 then JP.wordP (.bool false) [102,97,108,115,101] (s.data.toList.drop a) m st
  else if s[a]=110 then JP.wordP .nul [110,117,108,108] (s.data.toList.drop a) m st
  else if JP.numE (s.data.toList.drop a)=0 then .whole (.num (JP.numV (s.data.toList.drop a))) (JP.numR (s.data.toList.drop a)) m st else .bad (JP.numE (s.data.toList.drop a))):=Lib.hid (by unfold JP.plainP;rw [htl];rfl)
 obtain⟨X,HX⟩:∃ X,Hid (JP.plainP s[a] (s.data.toList.drop a) m st=X):=⟨_,Lib.hid rfl⟩
 rw [HX.out] at HE ⊢
 have ne:∀ (c:UInt8),s[a].toNat≠c.toNat→s[a]≠c:=fun c h e=>h (by rw [e])
 have Ne:=Lib.hid ne
 clear h hc htl ne
 by_cases c34:s[a].toNat=34
 ·have hq:s[a]=34:=u8_eq c34
  have HE2:=HE.out
  rw [if_pos hq] at HE2
  have HE3:=Lib.hid HE2
  clear HE2 hq HE
  go_enter Tryz.func130,Tryz.ntmps130
  go_wp2_with fail
  refine (rtext_any g s a m vst w H.out ha hs).mono ?_
  rintro E w1 ⟨hb,(⟨x,hx,rfl,i,hi,hd,hr⟩ | ⟨hx,rfl,i,hi,hr⟩)⟩
  ·have Hb:=Lib.hid hb
   have Hd:=Lib.hid hd
   have Hr:=Lib.hid hr
   have HX2:Hid (X=.whole (.str x.1) x.2 m st):=Lib.hid (by rw [HE3.out,hx])
   clear hb hd hr hx HE3
   go_wp2_with fail
   go_ret
   exact⟨_,rfl,out_whole HX2.out (rs_whole hi Hd.out Hr.out Hc.out Hb.out rfl) (below_but Hb.out hgw)⟩
  ·have Hb:=Lib.hid hb
   have Hr:=Lib.hid hr
   have HX2:Hid (X=.bad 3):=Lib.hid (by rw [HE3.out,hx])
   clear hb hr hx HE3
   go_wp2_with fail
   go_ret
   exact⟨_,rfl,out_bad HX2.out (by decide) Hr.out (below_but Hb.out hgw)⟩
 ·have n34:((s[a].toNat:Int) == 34)=false:=by rw [beq_eq_false_iff_ne];omega
  have HE1:Hid _:=Lib.hid (HE.out.trans (if_neg (Ne.out 34 c34)))
  clear HE
  by_cases c116:s[a].toNat=116
  ·have hq:s[a]=116:=u8_eq c116
   have HE2:=Lib.hid (HE1.out.trans (if_pos hq))
   clear hq HE1
   go_enter Tryz.func130,Tryz.ntmps130
   go_wp2_with fail
   refine (word_any g s a m vst ⟨#[116,114,117,101]⟩ w H.out (by omega) hs).mono ?_
   rintro E w1 ⟨rfl,hb,(⟨hx,i,hi,hd,hr⟩ | ⟨hx,i,hr⟩)⟩
   ·have Hb:=Lib.hid hb
    have Hd:=Lib.hid hd
    have Hr:=Lib.hid hr
    have HX2:Hid (X=.whole (.bool true) ((s.data.toList.drop a).drop 4) m st):=Lib.hid (by rw [HE2.out];unfold JP.wordP;rw [if_pos hx];rfl)
    clear hb hd hr hx HE2
    go_wp2_with fail
    go_ret
    exact⟨_,rfl,out_whole HX2.out (rs_whole hi Hd.out Hr.out Hc.out Hb.out rfl) (below_but Hb.out hgw)⟩
   ·have Hb:=Lib.hid hb
    have Hr:=Lib.hid hr
    have HX2:Hid (X=.bad 3):=Lib.hid (by rw [HE2.out];unfold JP.wordP;rw [if_neg (by rw [show ([116,114,117,101]:Bs).isPrefixOf (s.data.toList.drop a)=false from hx];simp)])
    clear hb hr hx HE2
    go_wp2_with fail
    go_ret
    exact⟨_,rfl,out_bad HX2.out (by decide) Hr.out (below_but Hb.out hgw)⟩
  ·have n116:((s[a].toNat:Int) == 116)=false:=by rw [beq_eq_false_iff_ne];omega
   have HE3:=Lib.hid (HE1.out.trans (if_neg (Ne.out 116 c116)))
   clear HE1
   by_cases c102:s[a].toNat=102
   ·have hq:s[a]=102:=u8_eq c102
    have HE2:=Lib.hid (HE3.out.trans (if_pos hq))
    clear hq HE3
    go_enter Tryz.func130,Tryz.ntmps130
    go_wp2_with fail
    refine (word_any g s a m vst ⟨#[102,97,108,115,101]⟩ w H.out (by omega) hs).mono ?_
    rintro E w1 ⟨rfl,hb,(⟨hx,i,hi,hd,hr⟩ | ⟨hx,i,hr⟩)⟩
    ·have Hb:=Lib.hid hb
     have Hd:=Lib.hid hd
     have Hr:=Lib.hid hr
     have HX2:Hid (X=.whole (.bool false) ((s.data.toList.drop a).drop 5) m st):=Lib.hid (by rw [HE2.out];unfold JP.wordP;rw [if_pos hx];rfl)
     clear hb hd hr hx HE2
     go_wp2_with fail
     go_ret
     exact⟨_,rfl,out_whole HX2.out (rs_whole hi Hd.out Hr.out Hc.out Hb.out rfl) (below_but Hb.out hgw)⟩
    ·have Hb:=Lib.hid hb
     have Hr:=Lib.hid hr
     have HX2:Hid (X=.bad 3):=Lib.hid (by rw [HE2.out];unfold JP.wordP;rw [if_neg (by rw [show ([102,97,108,115,101]:Bs).isPrefixOf (s.data.toList.drop a)=false from hx];simp)])
     clear hb hr hx HE2
     go_wp2_with fail
     go_ret
     exact⟨_,rfl,out_bad HX2.out (by decide) Hr.out (below_but Hb.out hgw)⟩
   ·have n102:((s[a].toNat:Int) == 102)=false:=by rw [beq_eq_false_iff_ne];omega
    have HE4:=Lib.hid (HE3.out.trans (if_neg (Ne.out 102 c102)))
    clear HE3
    by_cases c110:s[a].toNat=110
    ·have hq:s[a]=110:=u8_eq c110
     have HE2:=Lib.hid (HE4.out.trans (if_pos hq))
     clear hq HE4
     go_enter Tryz.func130,Tryz.ntmps130
     go_wp2_with fail
     refine (word_any g s a m vst ⟨#[110,117,108,108]⟩ w H.out (by omega) hs).mono ?_
     rintro E w1 ⟨rfl,hb,(⟨hx,i,hi,hd,hr⟩ | ⟨hx,i,hr⟩)⟩
     ·have Hb:=Lib.hid hb
      have Hd:=Lib.hid hd
      have Hr:=Lib.hid hr
      have HX2:Hid (X=.whole (.nul) ((s.data.toList.drop a).drop 4) m st):=Lib.hid (by rw [HE2.out];unfold JP.wordP;rw [if_pos hx];rfl)
      clear hb hd hr hx HE2
      go_wp2_with fail
      go_ret
      exact⟨_,rfl,out_whole HX2.out (rs_whole hi Hd.out Hr.out Hc.out Hb.out rfl) (below_but Hb.out hgw)⟩
     ·have Hb:=Lib.hid hb
      have Hr:=Lib.hid hr
      have HX2:Hid (X=.bad 3):=Lib.hid (by rw [HE2.out];unfold JP.wordP;rw [if_neg (by rw [show ([110,117,108,108]:Bs).isPrefixOf (s.data.toList.drop a)=false from hx];simp)])
      clear hb hr hx HE2
      go_wp2_with fail
      go_ret
      exact⟨_,rfl,out_bad HX2.out (by decide) Hr.out (below_but Hb.out hgw)⟩
    ·have n110:((s[a].toNat:Int) == 110)=false:=by rw [beq_eq_false_iff_ne];omega
     have HE5:=Lib.hid (HE4.out.trans (if_neg (Ne.out 110 c110)))
     clear HE4
     clear c34 c116 c102 c110
     go_enter Tryz.func130,Tryz.ntmps130
     go_wp2_with fail
     refine (number_any g s a m vst w H.out ha hs).mono ?_
     rintro E w1 ⟨hb,(⟨hx,rfl,i,hi,hd,hr⟩ | ⟨hx,rfl,i,hr⟩)⟩
     ·have Hb:=Lib.hid hb
      have Hd:=Lib.hid hd
      have Hr:=Lib.hid hr
      have HX2:=Lib.hid (HE5.out.trans (if_pos hx))
      have hok:=(JP.num_good hx).1
      have HV:=Lib.hid (show -9223372036854775808≤JP.numV (s.data.toList.drop a)∧JP.numV (s.data.toList.drop a)≤9223372036854775807 from by unfold JP.numOK at hok;omega)
      clear hb hd hr hx HE5 hok
      go_wp2_with fail
      go_ret
      exact⟨_,rfl,out_whole HX2.out (rs_whole hi Hd.out Hr.out Hc.out Hb.out ⟨rfl,HV.out⟩) (below_but Hb.out hgw)⟩
     ·have Hb:=Lib.hid hb
      have Hr:=Lib.hid hr
      have Hx:=Lib.hid hx
      have HX2:=Lib.hid (HE5.out.trans (if_neg hx))
      clear hb hr hx HE5
      go_wp2_with fail
      go_ret
      exact⟨_,rfl,out_bad HX2.out Hx.out Hr.out (below_but Hb.out hgw)⟩
end Go.Proofs.YtnnceaapodgfbaaGreatDoor
namespace Go.Proofs.YtnnceaapodgfbaaGreatDoor
open Go.RowKit
open JP (JV Bs Fr)
theorem fr_block {w:World} {B sb n c:Nat} {e:TypeId} {L:List GF} (h:OwnAt RFr 3 w B e (.slice (some ⟨sb,0,none⟩) n c) L):B≤sb∧n=L.length∧L.length≤c∧c≤maxLen∧∃ cur:Array Value,w.heap[sb]? = some (.cells cur e (0,0))∧cur.size=c*3∧
  (∀ (j:Nat) (x:GF),L[j]? = some x→cur[j*3]? = some x.lv∧cur[j*3+1]? = some x.pv∧cur[j*3+2]? = some (.string x.nm))∧∀ x∈L,x.lv.oneCell'=true∧x.pv.oneCell'=true:=by
 obtain⟨css,h1,h2,h3,h4⟩:=h
 obtain⟨g1,g2⟩:=h3
 rcases g2 with ⟨h5,_⟩ | ⟨q,cap,cur,hv,hB,hh,hlc,hc,hcs,htk⟩
 ·cases h5
 ·injection hv with e1 e2 e3
  injection e1 with e1
  injection e1 with e1
  subst e1
  subst e3
  refine⟨hB,e2,hlc,hc,cur,hh,hcs,fun j x hx=>?_,fun x hx=>?_⟩
  ·have hj:j<L.length:=(List.getElem?_eq_some_iff.1 hx).1
   have hcj:css[j]? = some css[j]:=List.getElem?_eq_getElem (by omega)
   obtain⟨k1,_,_⟩:=h4 j css[j] x hcj hx
   have get:∀ (i:Nat) (u:Value),css[j][i]? = some u→cur[j*3+i]? = some u:=fun i u hu=>by
    have hi:i<3:=by have:=(List.getElem?_eq_some_iff.1 hu).1;rw [k1] at this;simpa using this
    have h9:=get_flat h2 hcj hu
    rw [←htk,List.getElem?_take_of_lt (by omega),Array.getElem?_toList] at h9
    exact h9
   exact⟨get 0 _ (by rw [k1];rfl),get 1 _ (by rw [k1];rfl),get 2 _ (by rw [k1];rfl)⟩
  ·obtain⟨j,hj⟩:=List.getElem?_of_mem hx
   have hjl:j<L.length:=(List.getElem?_eq_some_iff.1 hj).1
   have hcj:css[j]? = some css[j]:=List.getElem?_eq_getElem (by omega)
   exact (h4 j css[j] x hcj hj).2
def frCells (L:List GF):List (List Value):=L.map fun x=>[x.lv,x.pv,.string x.nm]
theorem fr_of_block {w:World} {B sb c:Nat} {e:TypeId} {L:List GF} {cur:Array Value} (hh:w.heap[sb]? = some (.cells cur e (0,0))) (hB:B≤sb) (hlc:L.length≤c) (hc:c≤maxLen) (hcs:cur.size=c*3)
  (hcell:∀ (j:Nat) (x:GF),L[j]? = some x→cur[j*3]? = some x.lv∧cur[j*3+1]? = some x.pv∧cur[j*3+2]? = some (.string x.nm)) (ho:∀ x∈L,x.lv.oneCell'=true∧x.pv.oneCell'=true) :
  OwnAt RFr 3 w B e (.slice (some ⟨sb,0,none⟩) L.length c) L:=by
 have h3:∀ cs∈frCells L,cs.length=3:=fun cs hm=>by
  obtain⟨x,_,rfl⟩:=List.mem_map.1 hm;rfl
 have hfl:(frCells L).flatten.length=L.length*3:=by rw [flat_len h3];unfold frCells;rw [List.length_map]
 refine⟨frCells L,by unfold frCells;rw [List.length_map],h3,⟨hfl,.inr ⟨sb,c,cur,rfl,hB,hh,hlc,hc,hcs,?_⟩⟩,fun j cs x hcs' hx=>?_⟩
 ·apply List.ext_getElem?
  intro m
  by_cases hm:m<L.length*3
  ·rw [List.getElem?_take_of_lt hm,Array.getElem?_toList]
   have hj:m / 3<L.length:=by omega
   have hx:L[m / 3]? = some L[m / 3]:=List.getElem?_eq_getElem hj
   obtain⟨k0,k1,k2⟩:=hcell (m / 3) _ hx
   have hcj:(frCells L)[m / 3]? = some [L[m / 3].lv,L[m / 3].pv,.string L[m / 3].nm]:=by unfold frCells;rw [List.getElem?_map,hx];rfl
   have way:m % 3=0∨m % 3=1∨m % 3=2:=by omega
   have hmm:m=m / 3*3+m % 3:=by omega
   rcases way with h | h | h
   ·have:=get_flat h3 hcj (i:=0) (u:=L[m / 3].lv) rfl
    rw [h] at hmm
    rw [hmm,show (m / 3*3+0) / 3=m / 3 by omega] at *
    rw [this];exact k0
   ·have:=get_flat h3 hcj (i:=1) (u:=L[m / 3].pv) rfl
    rw [h] at hmm
    rw [hmm,show (m / 3*3+1) / 3=m / 3 by omega] at *
    rw [this];exact k1
   ·have:=get_flat h3 hcj (i:=2) (u:=.string L[m / 3].nm) rfl
    rw [h] at hmm
    rw [hmm,show (m / 3*3+2) / 3=m / 3 by omega] at *
    rw [this];exact k2
  ·rw [List.getElem?_eq_none (by rw [List.length_take];omega),List.getElem?_eq_none (by omega)]
 ·unfold frCells at hcs'
  rw [List.getElem?_map,hx] at hcs'
  cases hcs'
  exact⟨rfl,ho x (List.mem_of_getElem? hx)⟩
structure Top (g:Nat) (w:World) (vst:Value) (f:GF) (n sb c:Nat) (cur:Array Value):Prop where
 v:vst=.slice (some ⟨sb,0,none⟩) (n+1) c
 low:g+1≤sb
 room:n+1≤c
 most:c≤maxLen
 at_:w.heap[sb]? = some (.cells cur 223 (0,0))
 size:cur.size=c*3
 lv:cur[n*3]? = some f.lv
 pv:cur[n*3+1]? = some f.pv
 nm:cur[n*3+2]? = some (.string f.nm)
theorem Core.top {g:Nat} {T:List Nat} {w:World} {vst:Value} {f:GF} {fs:List GF} {st:List Fr} (h:Core g T w vst (f :: fs) st):∃ sb c cur,Top g w vst f fs.length sb c cur:=by
 have hr:=h.row
 rw [List.reverse_cons] at hr
 rcases hr.form with ⟨_,h0⟩ | ⟨sb,c,hv,_⟩
 ·simp at h0
 ·rw [hv] at hr
  rw [List.length_append,List.length_singleton,List.length_reverse] at hv hr
  obtain⟨k1,_,k3,k4,cur,k5,k6,k7,_⟩:=fr_block hr
  rw [List.length_append,List.length_singleton,List.length_reverse] at k3
  obtain⟨m0,m1,m2⟩:=k7 fs.length f (by rw [List.getElem?_append_right (by rw [List.length_reverse];exact Nat.le_refl _),List.length_reverse,Nat.sub_self];rfl)
  exact⟨sb,c,cur,hv,k1,k3,k4,k5,k6,m0,m1,m2⟩
theorem Core.ones {g:Nat} {T:List Nat} {w:World} {vst:Value} {f:GF} {fs:List GF} {st:List Fr} (h:Core g T w vst (f :: fs) st):f.lv.oneCell'=true∧f.pv.oneCell'=true:=by
 have hr:=h.row
 rw [List.reverse_cons] at hr
 rcases hr.form with ⟨_,h0⟩ | ⟨sb,c,hv,_⟩
 ·simp at h0
 ·rw [hv] at hr
  obtain⟨_,_,_,_,cur,_,_,_,k⟩:=fr_block hr
  exact k f (by simp)
theorem row_top {g:Nat} {T:List Nat} {w w':World} {vst:Value} {f f':GF} {fs:List GF} {st:List Fr} {sb c:Nat} {cur:Array Value} (h:Core g T w vst (f :: fs) st) (t:Top g w vst f fs.length sb c cur) {k:Nat} {u:Value} (hk:k<3)
  (hh:w'.heap[sb]? = some (.cells (cur.setIfInBounds (fs.length*3+k) u) 223 (0,0)))
  (h0:(if k=0 then u else f.lv)=f'.lv) (h1:(if k=1 then u else f.pv)=f'.pv) (h2:(if k=2 then u else .string f.nm)=.string f'.nm) (ho:f'.lv.oneCell'=true∧f'.pv.oneCell'=true) :
  OwnAt RFr 3 w' (g+1) 223 vst (f' :: fs).reverse:=by
 have hr:=h.row
 rw [List.reverse_cons] at hr ⊢
 obtain⟨hv,tl,tr,tm,ta,ts,t0,t1,t2⟩:=t
 rw [hv] at hr ⊢
 obtain⟨k1,_,k3,k4,cur2,k5,k6,k7,k8⟩:=fr_block hr
 rw [ta] at k5
 cases k5
 have hl:(fs.reverse++[f']).length=fs.length+1:=by simp
 rw [←hl]
 refine fr_of_block hh tl (by rw [hl];exact tr) tm (by rw [Array.size_setIfInBounds,ts]) (fun j x hx=>?_) (fun x hx=>?_)
 ·have hjl:=(List.getElem?_eq_some_iff.1 hx).1
  rw [hl] at hjl
  by_cases hj:j<fs.length
  ·rw [List.getElem?_append_left (by rw [List.length_reverse];exact hj)] at hx
   obtain⟨m0,m1,m2⟩:=k7 j x (by rw [List.getElem?_append_left (by rw [List.length_reverse];exact hj)];exact hx)
   rw [Array.getElem?_setIfInBounds_ne (by omega),Array.getElem?_setIfInBounds_ne (by omega),Array.getElem?_setIfInBounds_ne (by omega)]
   exact⟨m0,m1,m2⟩
  ·obtain rfl:j=fs.length:=by omega
   rw [List.getElem?_append_right (by rw [List.length_reverse];exact Nat.le_refl _),List.length_reverse,Nat.sub_self] at hx
   simp only [List.getElem?_cons_zero,Option.some.injEq] at hx
   subst hx
   have hin:fs.length*3+k<cur.size:=by rw [ts];omega
   refine⟨?_,?_,?_⟩
   ·rw [←h0]
    by_cases hk0:k=0
    ·subst hk0;rw [if_pos rfl,Nat.add_zero,Array.getElem?_setIfInBounds_self_of_lt (by omega)]
    ·rw [if_neg hk0,Array.getElem?_setIfInBounds_ne (by omega)];exact t0
   ·rw [←h1]
    by_cases hk0:k=1
    ·subst hk0;rw [if_pos rfl,Array.getElem?_setIfInBounds_self_of_lt hin]
    ·rw [if_neg hk0,Array.getElem?_setIfInBounds_ne (by omega)];exact t1
   ·rw [←h2]
    by_cases hk0:k=2
    ·subst hk0;rw [if_pos rfl,Array.getElem?_setIfInBounds_self_of_lt hin]
    ·rw [if_neg hk0,Array.getElem?_setIfInBounds_ne (by omega)];exact t2
 ·rcases List.mem_append.1 hx with hx | hx
  ·exact k8 x (List.mem_append_left _ hx)
  ·rw [List.mem_singleton.1 hx];exact ho
end Go.Proofs.YtnnceaapodgfbaaGreatDoor
namespace Go.Proofs.YtnnceaapodgfbaaGreatDoor
open Go.RowKit
open JP (JV Bs Fr)
theorem lbs_tail {f:GF} {fs:List GF} (h:(lbs (f :: fs)).Nodup):(lbs fs).Nodup:=by
 unfold lbs at h ⊢
 rw [List.filterMap_cons] at h
 split at h
 ·exact h
 ·exact (List.nodup_cons.1 h).2
theorem lbs_cons {f:GF} {fs:List GF} (h:(lbs fs).Nodup) (hl:∀ b,f.lv.ownBlock=some b→b∉lbs fs):(lbs (f :: fs)).Nodup:=by
 unfold lbs at h hl ⊢
 rw [List.filterMap_cons]
 split
 ·exact h
 ·rename_i b hb
  exact List.nodup_cons.2 ⟨hl b hb,h⟩
theorem lbs_head {f:GF} {fs:List GF} (h:(lbs (f :: fs)).Nodup) {b:Nat} (hb:f.lv.ownBlock=some b):b∉lbs fs:=by
 unfold lbs at h ⊢
 rw [List.filterMap_cons,hb] at h
 exact (List.nodup_cons.1 h).1
theorem KeepT.touch {T:List Nat} {g:Nat} {w w':World} (h:Touch g w w') (hg:g∈T):KeepT T w w':=KeepT.but (But.touch h) hg
theorem core_turn {g:Nat} {T:List Nat} {w w':World} {vst:Value} {f f':GF} {fs:List GF} {fr fr':Fr} {st:List Fr} {sb c:Nat} {cur:Array Value} (h:Core g T w vst (f :: fs) (fr :: st)) (t:Top g w vst f fs.length sb c cur) {k:Nat} {u:Value} (hk:k<3)
  (hh:w'.heap[sb]? = some (.cells (cur.setIfInBounds (fs.length*3+k) u) 223 (0,0))) (ht:Touch sb w w')
  (h0:(if k=0 then u else f.lv)=f'.lv) (h1:(if k=1 then u else f.pv)=f'.pv) (h2:(if k=2 then u else .string f.nm)=.string f'.nm) (ho:f'.lv.oneCell'=true∧f'.pv.oneCell'=true)
  (hl:∀ b,f'.lv.ownBlock=some b→b∉lbs fs) (hfr:FrAt (g+1) T w' f' fr'):Core g T w' vst (f' :: fs) (fr' :: st):=by
 have hsT:sb∈T:=h.vT sb (by rw [t.v];rfl)
 refine⟨row_top h t hk hh h0 h1 h2 ho,h.gT,h.vT,fun b hm=>by rw [ht.size];exact h.low b hm,lbs_cons (lbs_tail h.nd) hl,hfr,AllFr.keep (KeepT.touch ht hsT) h.all.2 fun f hf b hb=>ht.other b fun e=>?_⟩
 obtain⟨_,_,cur',hc⟩:=AllFr.own h.all.2 f hf b hb
 rw [e,t.at_] at hc
 injection hc with hc
 injection hc with _ hc
 exact absurd hc (by decide)
end Go.Proofs.YtnnceaapodgfbaaGreatDoor
