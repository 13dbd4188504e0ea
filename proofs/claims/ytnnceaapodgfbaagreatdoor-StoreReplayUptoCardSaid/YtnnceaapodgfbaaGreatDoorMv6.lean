/- Texts of ours joined. -/
import Derived.Deep.LoopGhost
import Derived.Deep.DeepCutAuto
import Derived.DeepKeys4
import Derived.WalkSpells
import Derived.BigQuiet
import Derived.Test.YtnnceaapodgfbaaGreatDoorShelf
import Derived.WideKeyEntry
import Derived.Test.YtnnceaapodgfbaaGreatDoorMv5
set_option linter.unusedVariables false
set_option linter.unusedSimpArgs false
namespace Go.Proofs.YtnnceaapodgfbaaGreatDoor
namespace Sto
open Go.RowKit
def IsBad (g : Nat) (w : World) (b : Int) : Prop := w.heap[g]? = some (.cells #[.int .i64 b] 113 (0, 0))
theorem IsBad.below {g : Nat} {w w' : World} {b : Int} (h : IsBad g w b) (hb : Below w.heap.size w w') : IsBad g w' b := below_block hb h
theorem IsBad.lt {g : Nat} {w : World} {b : Int} (h : IsBad g w b) : g < w.heap.size := by
  rcases Nat.lt_or_ge g w.heap.size with h1 | h1
  · exact h1
  · unfold IsBad at h; rw [Array.getElem?_eq_none h1] at h; cases h
def Said (g : Nat) (b : Int) (w : World) (E : Ending) (w' : World) : Prop := E = .returned (.tuple #[]) ∧ IsBad g w' b ∧ But g w w'
set_option maxRecDepth 100000 in
theorem says_any (g : Nat) (b e : Int) (w : World) (h : IsBad g w b) : Calls Tryz.prog 53 #[.pointer (some ⟨g, 0, none⟩), .int .i64 e] w (Said g (says b e) w) := by
  have h' : w.heap[g]? = some (.cells #[.int .i64 b] 113 (0, 0)) := h
  have c0 : w.cell? ⟨g, 0, none⟩ = some (.int .i64 b) := cell_block h' 0
  have z0 : w.frozen? ⟨g, 0, none⟩ = false := free_block h' 0
  have Hh := Lib.hid h'
  clear h h'
  by_cases hb : b = 0
  · subst hb
    go_enter Tryz.func53, Tryz.ntmps53
    go_wp2_with fail
    obtain ⟨t1, t2⟩ := touch_setCell (i := 0) (v := .int .i64 e) Hh.out
    go_end0
    exact ⟨rfl, by rw [zero_says]; exact t1, But.touch t2⟩
  · have q : (b == 0) = false := by rw [beq_eq_false_iff_ne]; exact hb
    have Hs : Hid (says b e = b) := by show _ = _; unfold says; rw [if_neg hb]
    clear hb
    go_enter Tryz.func53, Tryz.ntmps53
    go_wp2_with fail
    go_end0
    exact ⟨rfl, by rw [Hs.out]; exact Hh.out, But.refl _ _⟩
def chk (s : ByteArray) : Int := NameP.check s.data.toList
set_option maxRecDepth 100000 in
set_option maxHeartbeats 800000 in
theorem names_any (g : Nat) (b : Int) (v : Value) (l : List ByteArray) (w : World) (h : IsBad g w b) (hv : StrAt w v l) (hne : 0 < l.length → ∀ a n c, v = .slice (some a) n c → a.block ≠ g) (hx : ∀ x ∈ l, x.size ≤ 1099511627776) (hl : l.length ≤ 1073741824) :
    Calls Tryz.prog 55 #[.pointer (some ⟨g, 0, none⟩), v] w (Said g (says b (firstBad (l.map chk))) w) := by
  have hrow := hv.row
  obtain ⟨a1, c1, rfl, _, _⟩ := hrow.len
  have H := Lib.hid h
  have HV := Lib.hid hrow
  have Hne := Lib.hid hne
  have Hx := Lib.hid hx
  clear h hv hne hx hrow
  go_enter Tryz.func55, Tryz.ntmps55
  go_wp2_with fail
  go_loopg [8] l.length (fun k u8 wr => ∃ i : Nat, i + k = l.length ∧ u8 = .int .i64 (i : Int) ∧ Hid (IsBad g wr (says b (firstBad ((l.map chk).take i)))) ∧ Hid (But g w wr))
  case atStart => exact ⟨0, by omega, rfl, Lib.hid (by rw [List.take_zero]; exact (says_zero b).symm ▸ H.out), Lib.hid (But.refl _ _)⟩
  case round =>
    obtain ⟨i, hig, rfl, Hbad, Hbut⟩ := hrel
    cases gk with
    | zero =>
      obtain rfl : i = l.length := by omega
      have Hend : Hid (IsBad g wr (says b (firstBad (l.map chk)))) := by
        have h9 := Hbad.out
        rw [List.take_of_length_le (by simp)] at h9
        exact Lib.hid h9
      go_wp2_with fail
      go_end0
      exact ⟨rfl, Hend.out, Hbut.out⟩
    | succ k =>
      have hil : i < l.length := by omega
      obtain ⟨s, hsi⟩ : ∃ s, l[i]? = some s := ⟨l[i]'(by omega), List.getElem?_eq_getElem _⟩
      obtain ⟨bk, o, c', hv, _, _, hbs, hcell⟩ := HV.out.form (by omega) (by omega)
      have hbg := Hne.out (by omega) _ _ _ hv
      cases hv
      obtain ⟨ds, _, hcc, hR⟩ := hcell i s hsi
      obtain rfl : ds = [.string s] := hR
      have e0 : wr.cell? ⟨bk, o + i, none⟩ = some (.string s) := (Hbut.out.cell (p := ⟨bk, o + i, none⟩) hbs hbg).trans (by simpa using hcc 0 _ rfl)
      have q1 : (0 : Int) ≤ (i : Int) := by omega
      have q2 : (i : Int) < (l.length : Int) := by omega
      have hss := Hx.out s (List.mem_of_getElem? hsi)
      have Hnext : Hid (says b (firstBad ((l.map chk).take (i + 1))) = says (says b (firstBad ((l.map chk).take i))) (chk s)) := by
        show _ = _
        rw [firstBad_take (e := chk s) (by rw [List.getElem?_map, hsi]; rfl), says_assoc]
      clear hcc hcell hsi hbg
      obtain ⟨cd, Hcd⟩ : ∃ cd, Hid (NameP.check s.data.toList = cd) := ⟨_, Lib.hid rfl⟩
      rw [show chk s = cd from Hcd.out] at Hnext
      go_wp2_with fail
      refine (check_any s wr hss).mono ?_
      rintro E w1 ⟨rfl, rfl⟩
      rw [Hcd.out]
      go_wp2_with fail
      refine (says_any g _ cd wr Hbad.out).mono ?_
      rintro E w1 ⟨rfl, h1, h2⟩
      have H1 := Lib.hid h1
      have H2 := Lib.hid (Hbut.out.trans h2)
      clear h1 h2 e0
      go_wp2_with fail
      go_roundg k
      case measure => omega
      case rel => exact ⟨i + 1, by omega, by go_num, Lib.hid (by rw [Hnext.out]; exact H1.out), H2⟩
theorem one_str {w : World} {g : Nat} {t : TypeId} {a : ByteArray} (h : w.heap[g]? = some (.cells #[.string a] t (0, 0))) : StrAt w (.slice (some ⟨g, 0, none⟩) 1 1) [a] := by
  refine .inr ⟨_, 1, rfl, Nat.le_refl _, by unfold maxLen; decide, fun j x hx => ?_⟩
  have hj : j < 1 := (List.getElem?_eq_some_iff.1 hx).1
  obtain rfl : j = 0 := by omega
  rw [add_plain', Nat.zero_add]
  have : w.cell? ⟨g, 0, none⟩ = #[Value.string a][0]? := cell_block h 0
  rw [this]
  simp at hx; subst hx; rfl
theorem name_one (g : Nat) (b : Int) (s : ByteArray) (w : World) (h : IsBad g w b) (hs : s.size ≤ 1099511627776) :
    Calls Tryz.prog 55 #[.pointer (some ⟨g, 0, none⟩), .slice (some ⟨w.heap.size, 0, none⟩) 1 1] (w.alloc (.cells #[.string s] 9)) (Said g (says b (NameP.check s.data.toList)) w) := by
  have hlt := h.lt
  have hb := (Below.refl w.heap.size w).alloc (Nat.le_refl _) (.cells #[.string s] 9)
  refine (names_any g b _ [s] _ (h.below hb) (one_str (heap_alloc_new w _)) (fun _ a n c e => by cases e; show w.heap.size ≠ g; omega) (fun x hx => by rw [List.mem_singleton.1 hx]; exact hs) (by show 1 ≤ 1073741824; omega)).mono ?_
  rintro E w' ⟨h1, h2, h3⟩
  refine ⟨h1, ?_, (But.of hb).trans h3⟩
  have : firstBad ([s].map chk) = NameP.check s.data.toList := by show says (chk s) 0 = _; rw [says_zero]; rfl
  rw [← this]; exact h2
set_option maxRecDepth 100000 in
theorem space_any (g : Nat) (b : Int) (s : ByteArray) (w : World) (h : IsBad g w b) (hs : s.size ≤ 1099511627776) : Calls Tryz.prog 62 #[.pointer (some ⟨g, 0, none⟩), .string s] w (Said g (says b (AuP.emptyOr s.data.toList)) w) := by
  have H := Lib.hid h
  clear h
  by_cases h0 : s.size = 0
  · have q : s.data.toList = [] := List.eq_nil_of_length_eq_zero (by simpa using h0)
    have q2 : s.toList.isEmpty = true := by rw [ByteArray.toList_eq, q]; rfl
    have Hs : Hid (says b (AuP.emptyOr s.data.toList) = b) := by show _ = _; unfold AuP.emptyOr; rw [if_pos q]; exact says_zero b
    rw [Hs.out]
    clear h0 q
    go_enter Tryz.func62, Tryz.ntmps62
    go_wp2_with fail
    go_end0
    exact ⟨rfl, H.out, But.refl _ _⟩
  · have q : s.data.toList ≠ [] := fun h => by
      have hl : s.data.toList.length = s.size := by simp
      rw [h] at hl
      exact h0 hl.symm
    have q2 : s.toList.isEmpty = false := by rw [ByteArray.toList_eq]; cases hd : s.data.toList with | nil => exact absurd hd q | cons x r => rfl
    have Hs : Hid (says b (AuP.emptyOr s.data.toList) = says b (NameP.check s.data.toList)) := by show _ = _; unfold AuP.emptyOr; rw [if_neg q]
    rw [Hs.out]
    clear h0 q
    go_enter Tryz.func62, Tryz.ntmps62
    go_wp2_with fail
    refine (name_one g b s w H.out hs).mono ?_
    rintro E w1 ⟨rfl, h1, h2⟩
    have H1 := Lib.hid h1
    have H2 := Lib.hid h2
    clear h1 h2 Hs
    go_wp2_with fail
    go_end0
    exact ⟨rfl, H1.out, H2.out⟩
set_option maxRecDepth 100000 in
set_option maxHeartbeats 800000 in
theorem key_any (a b c : ByteArray) (w : World) (ha : a.size ≤ 8388608) (hb : b.size ≤ 8388608) (hc : c.size ≤ 8388608) :
    Calls Tryz.prog 47 #[.agg #[.string a, .string b, .string c]] w fun e w' => e = .returned (.int .i64 (AuP.keyE a.data.toList b.data.toList c.data.toList)) ∧ Below w.heap.size w w' := by
  obtain ⟨R, HR⟩ : ∃ R, Hid (AuP.keyE a.data.toList b.data.toList c.data.toList = R) := ⟨_, Lib.hid rfl⟩
  rw [HR.out]
  go_enter Tryz.func47, Tryz.ntmps47
  go_upto_region 2 with fail
  obtain ⟨w1, hw1⟩ : ∃ w1, w1 = (w.alloc (.cells #[.string a, .string b, .string c] 24)).alloc (.cells #[.int .i64 0] 113) := ⟨_, rfl⟩
  obtain ⟨gc, hgc⟩ : ∃ gc, gc = w.heap.size + 1 := ⟨_, rfl⟩
  obtain ⟨gb, hgb⟩ : ∃ gb, gb = w.heap.size := ⟨_, rfl⟩
  rw [← hw1]
  try rw [← hgc]
  rw [← hgb]
  have b1 : w1.heap[gb]? = some (.cells #[.string a, .string b, .string c] 24 (0, 0)) := by
    rw [hw1, hgb]
    exact below_block ((Below.refl _ _).alloc (Nat.le_refl _) _) (heap_alloc_new w _)
  have h1 : IsBad gc w1 0 := by
    have h9 := heap_alloc_new (w.alloc (.cells #[.string a, .string b, .string c] 24)) (.cells #[.int .i64 0] 113)
    rw [hw1, hgc]
    simpa [IsBad] using h9
  have hb1 : Below w.heap.size w w1 := by rw [hw1]; exact ((Below.refl _ _).alloc (Nat.le_refl _) _).alloc (by simp) _
  have hlt1 := h1.lt
  have hne : gb ≠ gc := by omega
  have hgw : w.heap.size ≤ gb := by omega
  have hgw2 : w.heap.size ≤ gc := by omega
  have hs1 := hb1.size
  have Hb1 := Lib.hid hb1
  have H1 := Lib.hid h1
  have B1 := Lib.hid b1
  have cc := fun i => cell_block b1 i
  clear hw1 hgc hgb b1 h1 hb1
  go_wp2_with fail
  refine (name_one gc 0 a w1 H1.out (by omega)).mono ?_
  rintro E w2 ⟨rfl, h1, h2⟩
  have H2 := Lib.hid h1
  have K2 := Lib.hid h2
  clear cc h1 h2
  have cc := fun i => cell_block (K2.out.keep B1.out hne) i
  go_wp2_with fail
  refine (space_any gc _ b w2 H2.out (by omega)).mono ?_
  rintro E w3 ⟨rfl, h1, h2⟩
  have H3 := Lib.hid h1
  have K3 := Lib.hid (K2.out.trans h2)
  clear cc h1 h2
  have cc := fun i => cell_block (K3.out.keep B1.out hne) i
  go_wp2_with fail
  refine (name_one gc _ c w3 H3.out (by omega)).mono ?_
  rintro E w4 ⟨rfl, h1, h2⟩
  have hR2 : says (says (says 0 (NameP.check a.data.toList)) (AuP.emptyOr b.data.toList)) (NameP.check c.data.toList) = R := by rw [← HR.out, zero_says, says_assoc]; rfl
  rw [hR2] at h1
  have K4 := Lib.hid ((But.of Hb1.out).trans (K3.out.trans h2))
  have c4 : w4.cell? ⟨gc, 0, none⟩ = some (.int .i64 R) := cell_block h1 0
  clear cc h1 h2 hR2 H2 H3
  go_wp2_with fail
  go_ret
  exact ⟨rfl, K4.out.below (Below.refl _ _) (Nat.le_refl _) (by omega)⟩
end Sto
end Go.Proofs.YtnnceaapodgfbaaGreatDoor
namespace Go.Proofs.YtnnceaapodgfbaaGreatDoor
namespace Sto
open Go.RowKit
open JP (Bs)
instance decKey : DecidableEq GKey := fun a b =>
  if h : a.kind = b.kind ∧ a.space = b.space ∧ a.name = b.name then .isTrue (by obtain ⟨a1, a2, a3⟩ := a; obtain ⟨b1, b2, b3⟩ := b; obtain ⟨h1, h2, h3⟩ := h; cases h1; cases h2; cases h3; rfl)
  else .isFalse fun e => h (by subst e; exact ⟨rfl, rfl, rfl⟩)
def noKey : GKey := ⟨ByteArray.empty, ByteArray.empty, ByteArray.empty⟩
def noObj : GObject := ⟨noKey, [], [], [], false, ByteArray.empty, 0, ByteArray.empty⟩
def keyK (k : GKey) : Int := AuP.keyE k.kind.data.toList k.space.data.toList k.name.data.toList
def twiceE (l : List ByteArray) : Int := if l.Nodup then 0 else 5
def firstO (o : GObject) : Int := says (says (keyK o.okey) (labelsE o.labels)) (if 4 < o.owners.length ∨ 4 < o.holds.length then 2 else 0)
def objE (o : GObject) : Int := if firstO o ≠ 0 then firstO o else says (says (says (firstBad (o.owners.map chk)) (firstBad (o.holds.map chk))) (twiceE o.holds)) (JP.canonE o.doc.data.toList)
def keptO (o : GObject) : GObject := { o with doc := mkB (JP.canonT o.doc.data.toList), uid := ByteArray.empty }
structure St where
  log : List GEvent
  comp : Int
def St.rev (S : St) : Nat := S.log.length
def hits (l : List GEvent) (k : GKey) : List GEvent := l.filter fun e => decide (e.object.okey = k)
def cur (l : List GEvent) (k : GKey) : Option GObject := match (hits l k).getLast? with
  | some e => if e.kind = 3 then none else some e.object
  | none => none
def live : List GEvent → Int
  | [] => 0
  | e :: r => live r + (if e.kind = 1 then 1 else if e.kind = 3 then -1 else 0)
def uidOf (n : Nat) : ByteArray := mkB (117 :: Lib.itoa (n : Int))
def putO (n : Nat) (kind : Int) (o : GObject) : GObject := { o with rev := (n : Int), uid := if kind = 1 then uidOf n else o.uid }
def put (S : St) (kind : Int) (o : GObject) : St := { S with log := S.log ++ [⟨kind, (S.rev : Int) + 1, putO (S.rev + 1) kind o⟩] }
abbrev Told := St × GObject × Int
def doPut (S : St) (kind : Int) (o : GObject) : Told := (put S kind o, putO (S.rev + 1) kind o, 0)
def create (S : St) (o : GObject) : Told :=
  if objE o ≠ 0 then (S, noObj, objE o) else if (cur S.log o.okey).isSome = true then (S, noObj, 5) else if live S.log = 60 then (S, noObj, 22) else doPut S 1 { keptO o with ending := false }
def update (S : St) (o : GObject) : Told :=
  if objE o ≠ 0 then (S, noObj, objE o) else match cur S.log o.okey with
  | none => (S, noObj, 7)
  | some was => if o.rev ≠ was.rev then (S, noObj, 12) else if was.ending = true ∧ o.ending = false then (S, noObj, 1) else doPut S 2 { keptO o with uid := was.uid }
def remove (S : St) (k : GKey) (rev : Int) : Told :=
  if keyK k ≠ 0 then (S, noObj, keyK k) else match cur S.log k with
  | none => (S, noObj, 7)
  | some was => if rev ≠ 0 ∧ rev ≠ was.rev then (S, noObj, 12) else doPut S 3 was
def compactE (S : St) (rev : Int) : Int := if (S.rev : Int) < rev ∨ rev < S.comp then 1 else 0
def compact (S : St) (rev : Int) : St := if compactE S rev = 0 then { S with comp := rev } else S
def modI (n m : Int) : Int := n % m
def doS (S : St) (x : GStoreStep) : Told :=
  if modI x.kind 4 = 0 then create S x.o else if modI x.kind 4 = 1 then update S x.o else if modI x.kind 4 = 2 then remove S x.o.okey x.rev else (compact S (modI x.rev 3), noObj, compactE S (modI x.rev 3))
def run (S : St) : List GStoreStep → St
  | [] => S
  | x :: r => run (doS S x).1 r
def timeE (S : St) (rev : Int) : Int := if rev < 0 ∨ (S.rev : Int) < rev then 1 else if rev = 0 then 0 else if rev < S.comp then 13 else 0
def timeT (S : St) (rev : Int) : Nat := if timeE S rev ≠ 0 then 0 else if rev = 0 then S.rev else rev.toNat
def atR (S : St) (k : GKey) (n : Nat) : Option GObject := cur (S.log.take n) k
def getE (S : St) (k : GKey) (rev : Int) : Int := if keyK k ≠ 0 then keyK k else if timeE S rev ≠ 0 then timeE S rev else if (atR S k (timeT S rev)).isSome = true then 0 else 7
def getO (S : St) (k : GKey) (rev : Int) : GObject := if getE S k rev = 0 then (atR S k (timeT S rev)).getD noObj else noObj
def spaceE (s : ByteArray) : Int := AuP.emptyOr s.data.toList
def listE (S : St) (kind space : ByteArray) (rev : Int) : Int := if says (chk kind) (spaceE space) ≠ 0 then says (chk kind) (spaceE space) else timeE S rev
def fitsK (kind space : ByteArray) (k : GKey) : Prop := k.kind = kind ∧ (space = ByteArray.empty ∨ k.space = space)
def lessS (a b : ByteArray) : Prop := Lib.compareBytes a.data.toList b.data.toList < 0
def ahead (a b : GObject) : Prop := lessS a.okey.space b.okey.space ∨ a.okey.space = b.okey.space ∧ lessS a.okey.name b.okey.name
def IsList (l : List GEvent) (kind space : ByteArray) (out : List GObject) : Prop := out.Pairwise ahead ∧ ∀ o, o ∈ out ↔ fitsK kind space o.okey ∧ cur l o.okey = some o
def ListTold (S : St) (kind space : ByteArray) (rev : Int) (out : List GObject) : Prop :=
  (listE S kind space rev ≠ 0 → out = []) ∧ (listE S kind space rev = 0 → IsList (S.log.take (timeT S rev)) kind space out)
def sinceE (S : St) (rev : Int) : Int := if rev < 0 ∨ (S.rev : Int) < rev then 1 else if rev < S.comp then 13 else 0
def sinceL (S : St) (rev : Int) : List GEvent := if sinceE S rev = 0 then S.log.drop rev.toNat else []
end Sto
end Go.Proofs.YtnnceaapodgfbaaGreatDoor
namespace Go.Proofs.YtnnceaapodgfbaaGreatDoor
namespace Sto
open Go.RowKit Go.Maps Go.WideMaps
def keyV (k : GKey) : Value := .agg #[.string k.kind, .string k.space, .string k.name]
def keyL (k : GKey) : Lit := .string (keyBytes [.string k.kind.data.toList, .string k.space.data.toList, .string k.name.data.toList])
def okKey (k : GKey) : Prop := k.kind.size ≤ maxLen ∧ k.space.size ≤ maxLen ∧ k.name.size ≤ maxLen
theorem Tryz.laidOutK : laidOutB Tryz.prog = true := by kernel_rfl
theorem keyRow : 24 < Tryz.prog.types.size := of_decide_eq_true (by kernel_rfl)
theorem keyWide : (match Tryz.prog.underlying 24 with | some (.array _ _) | some (.struct _) => true | _ => false) = true := by kernel_rfl
set_option maxRecDepth 100000 in
theorem keyLaw : KeyLaw Tryz.prog 24 := deep_law_laid Tryz.laidOutK (m := 2) (by omega) keyRow (by kernel_rfl) keyWide
theorem keyIs : Tryz.prog.keyType 24 = true := by kernel_rfl
theorem keyCells : Tryz.prog.cellsOf 24 = 3 := by kernel_rfl
theorem strCells : Tryz.prog.cellsOf 9 = 1 := by kernel_rfl
section
variable {P : Program} {t K : TypeId}
theorem lits_str (hu : P.underlying t = some .string) (d : Nat) (c : Value) : P.keyLits (d + 1) t [c] = match c with
    | .string s => if s.size ≤ maxLen then some [.string s.data.toList] else none
    | _ => none := by
  simp only [Program.keyLits, hu]
  cases c <;> rfl
theorem lits_key {fs : Array Field} {f0 f1 f2 : Field} (hu : P.underlying K = some (.struct fs)) (hf : fs = #[f0, f1, f2]) (h0 : f0.type = t ∧ f0.offset = 0 ∧ (f0.name != "_") = true) (h1 : f1.type = t ∧ f1.offset = 1 ∧ (f1.name != "_") = true) (h2 : f2.type = t ∧ f2.offset = 2 ∧ (f2.name != "_") = true)
    (hK : P.cellsOf K = 3) (ht : P.cellsOf t = 1) (d : Nat) (c0 c1 c2 : Value) :
    P.keyLits (d + 1) K [c0, c1, c2] = ((P.keyLits d t [c0]).bind fun a => (P.keyLits d t [c1]).bind fun b => (P.keyLits d t [c2]).map fun c => a ++ b ++ c) := by
  subst hf
  obtain ⟨a1, a2, a3⟩ := h0
  obtain ⟨b1, b2, b3⟩ := h1
  obtain ⟨e1, e2, e3⟩ := h2
  simp only [Program.keyLits, hu, hK]
  simp only [List.mapM_cons, List.mapM_nil, a1, a2, b1, b2, e1, e2, ht]
  have hall : (#[f0, f1, f2].all fun x => x.name != "_") = true := by simp [a3, b3, e3]
  rw [if_pos ⟨rfl, hall⟩]
  simp only [List.drop_zero, List.drop_succ_cons, List.take_succ_cons, List.take_zero]
  cases P.keyLits d t [c0] with
  | none => rfl
  | some a =>
    cases P.keyLits d t [c1] with
    | none => rfl
    | some b =>
      cases P.keyLits d t [c2] with
      | none => rfl
      | some c => simp
theorem formed_three {cs : Array Value} {fs : Array Field} (hu : P.underlying K = some (.struct fs)) (hK : P.cellsOf K = 3) : (Value.agg cs).formed P K = (cs.size == 3) := by
  unfold Value.formed
  rw [hu, hK]
theorem formed_not {v : Value} {fs : Array Field} (hu : P.underlying K = some (.struct fs)) (h : v.formed P K = true) : ∃ cs, v = .agg cs := by
  cases v with
  | agg cs => exact ⟨cs, rfl⟩
  | _ => first | (unfold Value.formed at h; rw [hu] at h; cases h) | (unfold Value.formed at h; cases h)
theorem keyOf_three {v : Value} {fs : Array Field} (hu : P.underlying K = some (.struct fs)) (hk : P.keyType K = true) : keyOf P K v = if v.formed P K = true then (P.keyLits (P.types.size + 1) K v.cells.toList).map fun ls => .string (keyBytes ls) else none := by
  unfold keyOf
  rw [hu]
  dsimp only
  rw [hk, Bool.true_and]
end
theorem keyOf_is (v : Value) : keyOf Tryz.prog 24 v = if v.formed Tryz.prog 24 = true then (Tryz.prog.keyLits (Tryz.prog.types.size + 1) 24 v.cells.toList).map fun ls => .string (keyBytes ls) else none :=
  keyOf_three Tryz.underlying24 keyIs
theorem lits_is (d : Nat) (c0 c1 c2 : Value) : Tryz.prog.keyLits (d + 1) 24 [c0, c1, c2] = ((Tryz.prog.keyLits d 9 [c0]).bind fun a => (Tryz.prog.keyLits d 9 [c1]).bind fun b => (Tryz.prog.keyLits d 9 [c2]).map fun c => a ++ b ++ c) :=
  lits_key Tryz.underlying24 rfl ⟨rfl, rfl, by decide⟩ ⟨rfl, rfl, by decide⟩ ⟨rfl, rfl, by decide⟩ keyCells strCells d c0 c1 c2
theorem str_is (d : Nat) (c : Value) : Tryz.prog.keyLits (d + 1) 9 [c] = match c with
    | .string s => if s.size ≤ maxLen then some [.string s.data.toList] else none
    | _ => none := lits_str Tryz.underlying9 d c
theorem typesMany : ∃ m, Tryz.prog.types.size = m + 1 := ⟨Tryz.prog.types.size - 1, by have := keyRow; omega⟩
theorem keyOf_key {k : GKey} (h : okKey k) : keyOf Tryz.prog 24 (keyV k) = some (keyL k) := by
  obtain ⟨m, hm⟩ := typesMany
  rw [keyOf_is, hm]
  unfold keyV
  rw [formed_three Tryz.underlying24 keyCells, if_pos (show ((#[Value.string k.kind, Value.string k.space, Value.string k.name] : Array Value).size == 3) = true from rfl)]
  show (Tryz.prog.keyLits (m + 1 + 1) _ [.string k.kind, .string k.space, .string k.name]).map _ = _
  rw [lits_is, str_is, str_is, str_is]
  simp only [if_pos h.1, if_pos h.2.1, if_pos h.2.2]
  rfl
set_option maxRecDepth 100000 in
theorem keyOf_back {v : Value} {l : Lit} (h : keyOf Tryz.prog 24 v = some l) : ∃ k, okKey k ∧ v = keyV k ∧ l = keyL k := by
  obtain ⟨m, hm⟩ := typesMany
  rw [keyOf_is, hm] at h
  split at h
  · rename_i hf
    obtain ⟨cs, rfl⟩ := formed_not Tryz.underlying24 hf
    rw [formed_three Tryz.underlying24 keyCells] at hf
    obtain ⟨l3⟩ := cs
    have hl : l3.length = 3 := by simpa using hf
    match l3, hl with
    | [c0, c1, c2], _ =>
      have h2 : (Tryz.prog.keyLits (m + 1 + 1) 24 [c0, c1, c2]).map (fun ls => Lit.string (keyBytes ls)) = some l := h
      rw [lits_is, str_is, str_is, str_is] at h2
      cases c0 with
      | string a =>
        cases c1 with
        | string b =>
          cases c2 with
          | string c =>
            by_cases ha : a.size ≤ maxLen
            · by_cases hb : b.size ≤ maxLen
              · by_cases hc : c.size ≤ maxLen
                · simp only [if_pos ha, if_pos hb, if_pos hc] at h2
                  exact ⟨⟨a, b, c⟩, ⟨ha, hb, hc⟩, rfl, (Option.some.inj h2).symm⟩
                · simp only [if_pos ha, if_pos hb, if_neg hc] at h2; cases h2
              · simp only [if_pos ha, if_neg hb] at h2; cases h2
            · simp only [if_neg ha] at h2; cases h2
          | _ => simp at h2
        | _ => simp at h2
      | _ => simp at h2
  · cases h
theorem keyV_inj {a b : GKey} (h : keyV a = keyV b) : a = b := by
  unfold keyV at h
  injection h with h
  obtain ⟨a1, a2, a3⟩ := a
  obtain ⟨b1, b2, b3⟩ := b
  simp at h
  obtain ⟨h1, h2, h3⟩ := h
  subst h1 h2 h3
  rfl
def keyC : KeyCode Tryz.prog 24 GKey := ⟨keyV, keyL, okKey, Keyed.of_law keyLaw, fun _ h => keyOf_key h, keyOf_back, keyV_inj⟩
end Sto
end Go.Proofs.YtnnceaapodgfbaaGreatDoor
namespace Go.Proofs.YtnnceaapodgfbaaGreatDoor
namespace Sto
open Go.RowKit
open JP (Bs)
theorem hits_append (l m : List GEvent) (k : GKey) : hits (l ++ m) k = hits l k ++ hits m k := List.filter_append ..
def shown (e : GEvent) : Option GObject := if e.kind = 3 then none else some e.object
theorem cur_snoc (l : List GEvent) (e : GEvent) (k : GKey) : cur (l ++ [e]) k = if e.object.okey = k then shown e else cur l k := by
  unfold cur shown
  rw [hits_append]
  by_cases h : e.object.okey = k
  · have : hits [e] k = [e] := by unfold hits; simp [h]
    rw [this, if_pos h]; simp
  · have : hits [e] k = [] := by unfold hits; simp [h]
    rw [this, if_neg h]; simp
theorem cur_nil (k : GKey) : cur [] k = none := rfl
theorem live_snoc (l : List GEvent) (e : GEvent) : live (l ++ [e]) = live l + (if e.kind = 1 then 1 else if e.kind = 3 then -1 else 0) := by
  induction l with
  | nil => rw [List.nil_append]; unfold live; simp [live]
  | cons a r ih => rw [List.cons_append]; unfold live; rw [ih]; omega
theorem take_snoc {α : Type} {l : List α} {i : Nat} {e : α} (h : l[i]? = some e) : l.take (i + 1) = l.take i ++ [e] := by rw [List.take_add_one, h]; rfl
theorem cur_key {l : List GEvent} {k : GKey} {o : GObject} (h : cur l k = some o) : o.okey = k := by
  unfold cur at h
  cases hg : (hits l k).getLast? with
  | none => rw [hg] at h; cases h
  | some e =>
    rw [hg] at h
    dsimp only at h
    split at h
    · cases h
    · cases h
      have := List.mem_of_getLast? hg
      unfold hits at this
      exact of_decide_eq_true (List.mem_filter.1 this).2
def Step (l : List GEvent) (e : GEvent) : Prop :=
  e.rev = (l.length : Int) + 1 ∧ e.object.rev = (l.length : Int) + 1 ∧
  ((e.kind = 1 ∧ cur l e.object.okey = none ∧ e.object.uid = uidOf (l.length + 1)) ∨ ((e.kind = 2 ∨ e.kind = 3) ∧ ∃ o, cur l e.object.okey = some o ∧ e.object.uid = o.uid))
structure Good (S : St) : Prop where
  step : ∀ i e, S.log[i]? = some e → Step (S.log.take i) e
  full : live S.log ≤ 60
  comp : 0 ≤ S.comp ∧ S.comp ≤ (S.rev : Int)
def St0 : St := ⟨[], 0⟩
theorem good0 : Good St0 := ⟨fun i e h => by simp [St0] at h, by decide, by decide, by decide⟩
theorem good_put {S : St} (h : Good S) {kind : Int} {o : GObject} (hk : (kind = 1 ∧ cur S.log o.okey = none ∧ live S.log ≠ 60) ∨ ((kind = 2 ∨ kind = 3) ∧ ∃ p, cur S.log o.okey = some p ∧ o.uid = p.uid)) : Good (put S kind o) := by
  obtain ⟨h1, h2, h3⟩ := h
  refine ⟨fun i e he => ?_, ?_, ?_⟩
  · unfold put at he ⊢
    dsimp only at he ⊢
    by_cases hi : i < S.log.length
    · rw [List.getElem?_append_left hi] at he
      rw [List.take_append_of_le_length (by omega)]
      exact h1 i e he
    · have hl := (List.getElem?_eq_some_iff.1 he).1
      rw [List.length_append, List.length_singleton] at hl
      have hi2 : i = S.log.length := by omega
      subst hi2
      rw [List.getElem?_append_right (Nat.le_refl _), Nat.sub_self] at he
      cases he
      rw [List.take_append_of_le_length (Nat.le_refl _), List.take_length]
      refine ⟨rfl, by unfold putO St.rev; push_cast; rfl, ?_⟩
      unfold putO
      rcases hk with ⟨rfl, g1, _⟩ | ⟨g1, p, g2, g3⟩
      · exact .inl ⟨rfl, g1, by simp; rfl⟩
      · refine .inr ⟨g1, p, g2, ?_⟩
        have hne : ¬ kind = 1 := by omega
        simp [hne, g3]
  · unfold put
    dsimp only
    rw [live_snoc]
    dsimp only
    rcases hk with ⟨rfl, _, g⟩ | ⟨g1, _⟩
    · rw [if_pos rfl]; omega
    · have hne : ¬ kind = 1 := by omega
      rw [if_neg hne]
      split <;> omega
  · refine ⟨h3.1, Int.le_trans h3.2 ?_⟩
    unfold put St.rev
    dsimp only
    rw [List.length_append]
    omega
theorem create_cases (S : St) (o : GObject) : ((create S o).1 = S ∧ (create S o).2.1 = noObj ∧ (create S o).2.2 ≠ 0) ∨ (create S o = doPut S 1 { keptO o with ending := false } ∧ objE o = 0 ∧ cur S.log o.okey = none ∧ live S.log ≠ 60) := by
  unfold create
  by_cases h1 : objE o ≠ 0
  · rw [if_pos h1]; exact .inl ⟨rfl, rfl, h1⟩
  · rw [if_neg h1]
    by_cases h2 : (cur S.log o.okey).isSome = true
    · rw [if_pos h2]; exact .inl ⟨rfl, rfl, by show (5 : Int) ≠ 0; decide⟩
    · rw [if_neg h2]
      by_cases h3 : live S.log = 60
      · rw [if_pos h3]; exact .inl ⟨rfl, rfl, by show (22 : Int) ≠ 0; decide⟩
      · rw [if_neg h3]
        exact .inr ⟨rfl, Classical.not_not.1 h1, by cases hc : cur S.log o.okey with
          | none => rfl
          | some x => rw [hc] at h2; exact absurd rfl h2, h3⟩
theorem update_cases (S : St) (o : GObject) : ((update S o).1 = S ∧ (update S o).2.1 = noObj ∧ (update S o).2.2 ≠ 0) ∨ ∃ was, update S o = doPut S 2 { keptO o with uid := was.uid } ∧ objE o = 0 ∧ cur S.log o.okey = some was ∧ o.rev = was.rev ∧ (was.ending = true → o.ending = true) := by
  unfold update
  by_cases h1 : objE o ≠ 0
  · rw [if_pos h1]; exact .inl ⟨rfl, rfl, h1⟩
  · rw [if_neg h1]
    cases hc : cur S.log o.okey with
    | none => exact .inl ⟨rfl, rfl, by show (7 : Int) ≠ 0; decide⟩
    | some was =>
      dsimp only
      by_cases h2 : o.rev ≠ was.rev
      · rw [if_pos h2]; exact .inl ⟨rfl, rfl, by show (12 : Int) ≠ 0; decide⟩
      · rw [if_neg h2]
        by_cases h3 : was.ending = true ∧ o.ending = false
        · rw [if_pos h3]; exact .inl ⟨rfl, rfl, by show (1 : Int) ≠ 0; decide⟩
        · rw [if_neg h3]
          exact .inr ⟨was, rfl, Classical.not_not.1 h1, rfl, Classical.not_not.1 h2, fun h => by
            cases he : o.ending with
            | true => rfl
            | false => exact absurd ⟨h, he⟩ h3⟩
theorem remove_cases (S : St) (k : GKey) (rev : Int) : ((remove S k rev).1 = S ∧ (remove S k rev).2.1 = noObj ∧ (remove S k rev).2.2 ≠ 0) ∨ ∃ was, remove S k rev = doPut S 3 was ∧ cur S.log k = some was := by
  unfold remove
  by_cases h1 : keyK k ≠ 0
  · rw [if_pos h1]; exact .inl ⟨rfl, rfl, h1⟩
  · rw [if_neg h1]
    cases hc : cur S.log k with
    | none => exact .inl ⟨rfl, rfl, by show (7 : Int) ≠ 0; decide⟩
    | some was =>
      dsimp only
      by_cases h2 : rev ≠ 0 ∧ rev ≠ was.rev
      · rw [if_pos h2]; exact .inl ⟨rfl, rfl, by show (12 : Int) ≠ 0; decide⟩
      · rw [if_neg h2]; exact .inr ⟨was, rfl, rfl⟩
theorem good_create {S : St} (h : Good S) (o : GObject) : Good (create S o).1 := by
  rcases create_cases S o with ⟨e, _⟩ | ⟨e, _, g1, g2⟩
  · rw [e]; exact h
  · rw [e]; exact good_put h (.inl ⟨rfl, g1, g2⟩)
theorem good_update {S : St} (h : Good S) (o : GObject) : Good (update S o).1 := by
  rcases update_cases S o with ⟨e, _⟩ | ⟨was, e, _, g1, _⟩
  · rw [e]; exact h
  · rw [e]; exact good_put h (.inr ⟨.inl rfl, was, g1, rfl⟩)
theorem good_remove {S : St} (h : Good S) (k : GKey) (rev : Int) : Good (remove S k rev).1 := by
  rcases remove_cases S k rev with ⟨e, _⟩ | ⟨was, e, g1⟩
  · rw [e]; exact h
  · rw [e]; exact good_put h (.inr ⟨.inr rfl, was, by rw [cur_key g1]; exact g1, rfl⟩)
theorem good_compact {S : St} (h : Good S) (rev : Int) : Good (compact S rev) := by
  unfold compact
  by_cases hc : compactE S rev = 0
  · rw [if_pos hc]
    unfold compactE at hc
    have : ¬ ((S.rev : Int) < rev ∨ rev < S.comp) := fun h9 => by rw [if_pos h9] at hc; cases hc
    refine ⟨h.step, h.full, ?_, ?_⟩
    · show 0 ≤ rev; have := h.comp.1; omega
    · show rev ≤ (S.rev : Int); omega
  · rw [if_neg hc]; exact h
theorem good_do {S : St} (h : Good S) (x : GStoreStep) : Good (doS S x).1 := by
  unfold doS
  split
  · exact good_create h _
  · split
    · exact good_update h _
    · split
      · exact good_remove h _ _
      · exact good_compact h _
theorem grow_compact (S : St) (rev : Int) : (compact S rev).log = S.log := by unfold compact; split <;> rfl
theorem rev_do (S : St) (x : GStoreStep) : S.rev ≤ (doS S x).1.rev ∧ (doS S x).1.rev ≤ S.rev + 1 := by
  have hp : ∀ kind o, (put S kind o).rev = S.rev + 1 := fun kind o => by unfold put St.rev; dsimp only; rw [List.length_append]; rfl
  unfold doS
  split
  · rcases create_cases S x.o with ⟨e, _⟩ | ⟨e, _⟩
    · rw [e]; omega
    · rw [e]; unfold doPut; rw [hp]; omega
  · split
    · rcases update_cases S x.o with ⟨e, _⟩ | ⟨was, e, _⟩
      · rw [e]; omega
      · rw [e]; unfold doPut; rw [hp]; omega
    · split
      · rcases remove_cases S x.o.okey x.rev with ⟨e, _⟩ | ⟨was, e, _⟩
        · rw [e]; omega
        · rw [e]; unfold doPut; rw [hp]; omega
      · dsimp only
        unfold St.rev
        rw [grow_compact]; omega
theorem rev_run (S : St) (l : List GStoreStep) : (run S l).rev ≤ S.rev + l.length := by
  induction l generalizing S with
  | nil => exact Nat.le_refl _
  | cons x r ih =>
    have h1 := rev_do S x
    have h2 := ih (doS S x).1
    show (run (doS S x).1 r).rev ≤ _
    rw [List.length_cons]; omega
end Sto
end Go.Proofs.YtnnceaapodgfbaaGreatDoor
namespace Go.Proofs.YtnnceaapodgfbaaGreatDoor
open Go.RowKit
theorem flat_label : Flat LabelR := fun _ _ _ _ h => h
theorem one_label : OneR LabelR := fun _ _ _ h u hu => by rw [h] at hu; simp at hu; rcases hu with rfl | rfl <;> rfl
theorem Tryz.infoLabel : (Tryz.prog.info? 66).map (fun i => (i.zero, i.size, i.bytes)) = some (some (.agg #[.string ByteArray.empty, .string ByteArray.empty]), 2, 32) := by kernel_rfl
set_option maxRecDepth 100000 in
theorem cloneStrs_any (v : Value) (l : List ByteArray) (w : World) (h : StrAt w v l) (hl : l.length ≤ 1073741824) :
    Calls Tryz.prog 78 #[v] w fun e w' => ∃ v', e = .returned v' ∧ OwnAt RString 1 w' w.heap.size 9 v' l ∧ Below w.heap.size w w' := by
  obtain ⟨i0, hi0, hz0, hz1, hz2⟩ := info_parts Tryz.infoStr
  have hrow := h.row
  have hn := fun (w : World) (a : Option Addr) (n c : Nat) => Lib.run_eql_slice_nil (P := Tryz.prog) w 28 9 a n c 0 0 Tryz.underlying28
  rcases h with ⟨rfl, rfl⟩ | ⟨a, c, rfl, _, _, _⟩
  · go_enter Tryz.func78, Tryz.ntmps78
    go_wp2_with fail
    go_ret
    exact ⟨_, rfl, OwnAt.nil _, Below.refl _ _⟩
  · have Hrow := Lib.hid hrow
    clear hrow
    go_enter Tryz.func78, Tryz.ntmps78
    go_wp2_with (at_builtin; refine wpList_append_ownAt (R := RString) (k := 1) (e := 9) (B := w.heap.size) (l := []) (m := l) _ (by rfl) _ _ _ (by rfl) i0 _ 16 Tryz.underlying28 hi0 hz0 hz1 hz2 rfl (by omega) flat_string one_string _ (by rfl) (own_empty w 1 _ (Nat.le_refl _)) _ (by rfl) (Hrow.out.below stays_string ((Below.refl _ _).alloc (Nat.le_refl _) _)) (by unfold maxLen; simp; omega) (by simp; omega) (by simp) ?_)
    intro v' w' hv' hg hr _
    have hb : Below w.heap.size w w' := below_of_grown ((Below.refl _ _).alloc (Nat.le_refl _) _) (by simp) hg hr
    go_wp2_with fail
    go_ret
    exact ⟨_, rfl, by simpa using hv', hb⟩
set_option maxRecDepth 100000 in
theorem cloneLabels_any (v : Value) (l : List GLabel) (w : World) (h : RowAt LabelR 2 w v l) (hl : l.length ≤ 1073741824) :
    Calls Tryz.prog 93 #[v] w fun e w' => ∃ v', e = .returned v' ∧ OwnAt LabelR 2 w' w.heap.size 66 v' l ∧ Below w.heap.size w w' := by
  obtain ⟨i0, hi0, hz0, hz1, hz2⟩ := info_parts Tryz.infoLabel
  have hrow := h
  have hn := fun (w : World) (a : Option Addr) (n c : Nat) => Lib.run_eql_slice_nil (P := Tryz.prog) w 27 66 a n c 0 0 Tryz.underlying27
  rcases h with ⟨rfl, rfl⟩ | ⟨a, c, rfl, _, _, _⟩
  · go_enter Tryz.func93, Tryz.ntmps93
    go_wp2_with fail
    go_ret
    exact ⟨_, rfl, OwnAt.nil _, Below.refl _ _⟩
  · have Hrow := Lib.hid hrow
    clear hrow
    go_enter Tryz.func93, Tryz.ntmps93
    go_wp2_with (at_builtin; refine wpList_append_ownAt (R := LabelR) (k := 2) (e := 66) (B := w.heap.size) (l := []) (m := l) _ (by rfl) _ _ _ (by rfl) i0 _ 32 Tryz.underlying27 hi0 hz0 hz1 hz2 rfl (by omega) flat_label one_label _ (by rfl) (own_empty w 2 _ (Nat.le_refl _)) _ (by rfl) (Hrow.out.below stays_label ((Below.refl _ _).alloc (Nat.le_refl _) _)) (by unfold maxLen; simp; omega) (by simp; omega) (by simp) ?_)
    intro v' w' hv' hg hr _
    have hb : Below w.heap.size w w' := below_of_grown ((Below.refl _ _).alloc (Nat.le_refl _) _) (by simp) hg hr
    go_wp2_with fail
    go_ret
    exact ⟨_, rfl, by simpa using hv', hb⟩
end Go.Proofs.YtnnceaapodgfbaaGreatDoor
namespace Go.Proofs.YtnnceaapodgfbaaGreatDoor
open Go.RowKit
def objV (k : GKey) (vl vo vh : Value) (e : Bool) (u : ByteArray) (r : Int) (d : ByteArray) : Value :=
  .agg #[.string k.kind, .string k.space, .string k.name, vl, vo, vh, .bool e, .string u, .int .i64 r, .string d]
set_option maxRecDepth 100000 in
set_option maxHeartbeats 800000 in
theorem storeCopy_any (k : GKey) (vl vo vh : Value) (e : Bool) (u : ByteArray) (r : Int) (d : ByteArray) (labels : List GLabel) (owners holds : List ByteArray) (w : World)
    (hl : RowAt LabelR 2 w vl labels) (ho : StrAt w vo owners) (hh : StrAt w vh holds) (bl : labels.length ≤ 1073741824) (bo : owners.length ≤ 1073741824) (bh : holds.length ≤ 1073741824) :
    Calls Tryz.prog 65 #[objV k vl vo vh e u r d] w fun E w' => ∃ vl' vo' vh', E = .returned (objV k vl' vo' vh' e u r d) ∧
      OwnAt LabelR 2 w' w.heap.size 66 vl' labels ∧ OwnAt RString 1 w' w.heap.size 9 vo' owners ∧ OwnAt RString 1 w' w.heap.size 9 vh' holds ∧ (∀ g, vh'.ownBlock = some g → vo'.ownBlock ≠ some g) ∧ Below w.heap.size w w' := by
  unfold objV
  have Hl := Lib.hid hl
  have Ho := Lib.hid ho
  have Hh := Lib.hid hh
  clear hl ho hh
  go_enter Tryz.func65, Tryz.ntmps65
  go_wp2_with fail
  have hWb : Below w.heap.size w ((w.alloc (.cells #[.string k.kind, .string k.space, .string k.name, vl, vo, vh, .bool e, .string u, .int .i64 r, .string d] 30)).alloc (.cells #[.string { data := #[] }, .string { data := #[] }, .string { data := #[] }, .slice none 0 0, .slice none 0 0, .slice none 0 0, .bool false, .string { data := #[] }, .int .i64 0, .string { data := #[] }] 30)) :=
    ((Below.refl _ _).alloc (Nat.le_refl _) _).alloc (by simp) _
  generalize hW : World.alloc (World.alloc _ _) _ = W at hWb
  have hWs : W.heap.size = w.heap.size + 2 := by rw [← hW]; simp
  have c0 : W.heap[w.heap.size]? = some (.cells #[.string k.kind, .string k.space, .string k.name, vl, vo, vh, .bool e, .string u, .int .i64 r, .string d] 30 (0, 0)) := by rw [← hW]; exact heap_alloc_old (heap_alloc_at rfl)
  have c1 : W.heap[w.heap.size + 1]? = some (.cells #[.string { data := #[] }, .string { data := #[] }, .string { data := #[] }, .slice none 0 0, .slice none 0 0, .slice none 0 0, .bool false, .string { data := #[] }, .int .i64 0, .string { data := #[] }] 30 (0, 0)) := by rw [← hW]; exact heap_alloc_at (by simp)
  clear hW
  refine wp_region_relB 10 (fun i u w' => match i with
    | 0 => u 0 = .pointer (some ⟨w.heap.size, 3, none⟩) | 1 => u 1 = vl | 2 => OwnAt LabelR 2 w' (w.heap.size + 2) 66 (u 2) labels
    | 3 => u 3 = .pointer (some ⟨w.heap.size, 4, none⟩) | 4 => u 4 = vo | 5 => OwnAt RString 1 w' (w.heap.size + 2) 9 (u 5) owners
    | 6 => u 6 = .pointer (some ⟨w.heap.size, 5, none⟩) | 7 => u 7 = vh | 8 => OwnAt RString 1 w' (w.heap.size + 2) 9 (u 8) holds ∧ ∀ g, (u 8).ownBlock = some g → (u 5).ownBlock ≠ some g
    | 9 => u 9 = .pointer (some ⟨w.heap.size, 3, none⟩) | _ => True)
    (fun | 1 => [0] | 2 => [1] | 4 => [3] | 5 => [4] | 7 => [6] | 8 => [7, 5] | _ => []) (by kernel_rfl) (by kernel_rfl) ?_ ⟨?_, ?_, ?_, ?_, ?_, ?_, ?_, ?_, ?_, ?_, trivial⟩ ?_
  · intro j v w1 w2 hb h
    match j, h with
    | 0, h => exact h
    | 1, h => exact h
    | 2, h => exact OwnAt.below stays_label h hb
    | 3, h => exact h
    | 4, h => exact h
    | 5, h => exact OwnAt.below stays_string h hb
    | 6, h => exact h
    | 7, h => exact h
    | 8, h => exact ⟨OwnAt.below stays_string h.1 hb, h.2⟩
    | 9, h => exact h
    | _ + 10, h => trivial
  · intro x w' hb hd
    refine owes_here (.pointer (some ⟨w.heap.size, 3, none⟩)) (by rfl) ?_ rfl
    simp only [putAll, List.take_succ_cons, List.take_zero]
    go_simp
  · intro x w' hb hd
    have h0 : x 0 = .pointer (some ⟨w.heap.size, 3, none⟩) := hd 0 (by simp)
    have d0 := (hb.block w.heap.size (by show w.heap.size < W.heap.size; omega)).trans c0
    refine owes_here vl (by rfl) ?_ rfl
    simp only [putAll, List.take_succ_cons, List.take_zero]
    have e3 := cell_block d0 3
    go_simp
  · intro x w' hb hd
    have h0 : x 1 = vl := hd 1 (by simp)
    have hb2 : Below w.heap.size w w' := hWb.drew.trans (hb.mono (by show w.heap.size ≤ W.heap.size; omega))
    refine owes_call 93 #[vl] (by rfl) ?_ ((cloneLabels_any _ _ w' (Hl.out.below stays_label hb2) (by omega)).mono ?_)
    · simp only [putAll, List.take_succ_cons, List.take_zero]
      go_simp
    · rintro _ w2 ⟨v2, rfl, ho, hb3⟩
      exact ⟨v2, rfl, ho.mono (by have h9 : W.heap.size ≤ w'.heap.size := hb.size; omega), hb3⟩
  · intro x w' hb hd
    refine owes_here (.pointer (some ⟨w.heap.size, 4, none⟩)) (by rfl) ?_ rfl
    simp only [putAll, List.take_succ_cons, List.take_zero]
    go_simp
  · intro x w' hb hd
    have h0 : x 3 = .pointer (some ⟨w.heap.size, 4, none⟩) := hd 3 (by simp)
    have d0 := (hb.block w.heap.size (by show w.heap.size < W.heap.size; omega)).trans c0
    refine owes_here vo (by rfl) ?_ rfl
    simp only [putAll, List.take_succ_cons, List.take_zero]
    have e3 := cell_block d0 4
    go_simp
  · intro x w' hb hd
    have h0 : x 4 = vo := hd 4 (by simp)
    have hb2 : Below w.heap.size w w' := hWb.drew.trans (hb.mono (by show w.heap.size ≤ W.heap.size; omega))
    refine owes_call 78 #[vo] (by rfl) ?_ ((cloneStrs_any _ _ w' (Ho.out.below hb2) (by omega)).mono ?_)
    · simp only [putAll, List.take_succ_cons, List.take_zero]
      go_simp
    · rintro _ w2 ⟨v2, rfl, ho, hb3⟩
      exact ⟨v2, rfl, ho.mono (by have h9 : W.heap.size ≤ w'.heap.size := hb.size; omega), hb3⟩
  · intro x w' hb hd
    refine owes_here (.pointer (some ⟨w.heap.size, 5, none⟩)) (by rfl) ?_ rfl
    simp only [putAll, List.take_succ_cons, List.take_zero]
    go_simp
  · intro x w' hb hd
    have h0 : x 6 = .pointer (some ⟨w.heap.size, 5, none⟩) := hd 6 (by simp)
    have d0 := (hb.block w.heap.size (by show w.heap.size < W.heap.size; omega)).trans c0
    refine owes_here vh (by rfl) ?_ rfl
    simp only [putAll, List.take_succ_cons, List.take_zero]
    have e3 := cell_block d0 5
    go_simp
  · intro x w' hb hd
    have h0 : x 7 = vh := hd 7 (by simp)
    have h5 : OwnAt RString 1 w' (w.heap.size + 2) 9 (x 5) owners := hd 5 (by simp)
    have hb2 : Below w.heap.size w w' := hWb.drew.trans (hb.mono (by show w.heap.size ≤ W.heap.size; omega))
    refine owes_call 78 #[vh] (by rfl) ?_ ((cloneStrs_any _ _ w' (Hh.out.below hb2) (by omega)).mono ?_)
    · simp only [putAll, List.take_succ_cons, List.take_zero]
      go_simp
    · rintro _ w2 ⟨v2, rfl, ho, hb3⟩
      exact ⟨v2, rfl, ⟨ho.mono (by have h9 : W.heap.size ≤ w'.heap.size := hb.size; omega), fun g hg h5g => absurd (h5.at h5g).2.1 (by have := (ho.at hg).1; omega)⟩, hb3⟩
  · intro x w' hb hd
    refine owes_here (.pointer (some ⟨w.heap.size, 3, none⟩)) (by rfl) ?_ rfl
    simp only [putAll, List.take_succ_cons, List.take_zero]
    go_simp
  · intro x w' hb hR
    have h2 : OwnAt LabelR 2 w' (w.heap.size + 2) 66 (x 2) labels := hR 2 (by omega)
    have h5 : OwnAt RString 1 w' (w.heap.size + 2) 9 (x 5) owners := hR 5 (by omega)
    obtain ⟨h8, h85⟩ : OwnAt RString 1 w' (w.heap.size + 2) 9 (x 8) holds ∧ ∀ g, (x 8).ownBlock = some g → (x 5).ownBlock ≠ some g := hR 8 (by omega)
    have h9 : x 9 = .pointer (some ⟨w.heap.size, 3, none⟩) := hR 9 (by omega)
    have d0 := (hb.block w.heap.size (by show w.heap.size < W.heap.size; omega)).trans c0
    have d1 := (hb.block (w.heap.size + 1) (by show w.heap.size + 1 < W.heap.size; omega)).trans c1
    have hb2 : Below w.heap.size w w' := hWb.drew.trans (hb.mono (by show w.heap.size ≤ W.heap.size; omega))
    obtain ⟨a2, q2, e2, _, _⟩ := h2.row.len
    obtain ⟨a5, q5, e5, _, _⟩ := h5.row.len
    obtain ⟨a8, q8, e8, _, _⟩ := h8.row.len
    rw [e2] at h2
    rw [e5] at h5
    rw [e8] at h8
    rw [e8, e5] at h85
    have H85 := Lib.hid h85
    have H2 := Lib.hid h2
    have H5 := Lib.hid h5
    have H8 := Lib.hid h8
    have Hd0 := Lib.hid d0
    have Hd1 := Lib.hid d1
    clear hR h2 h5 h8 h85 hb d0 d1 c0 c1
    have f0 : w'.cell? ⟨w.heap.size, 0, none⟩ = some (.string k.kind) := cell_block Hd0.out 0
    have f1 : w'.cell? ⟨w.heap.size, 1, none⟩ = some (.string k.space) := cell_block Hd0.out 1
    have f2 : w'.cell? ⟨w.heap.size, 2, none⟩ = some (.string k.name) := cell_block Hd0.out 2
    have f3 : w'.cell? ⟨w.heap.size, 3, none⟩ = some (vl) := cell_block Hd0.out 3
    have f4 : w'.cell? ⟨w.heap.size, 4, none⟩ = some (vo) := cell_block Hd0.out 4
    have f5 : w'.cell? ⟨w.heap.size, 5, none⟩ = some (vh) := cell_block Hd0.out 5
    have f6 : w'.cell? ⟨w.heap.size, 6, none⟩ = some (.bool e) := cell_block Hd0.out 6
    have f7 : w'.cell? ⟨w.heap.size, 7, none⟩ = some (.string u) := cell_block Hd0.out 7
    have f8 : w'.cell? ⟨w.heap.size, 8, none⟩ = some (.int .i64 r) := cell_block Hd0.out 8
    have f9 : w'.cell? ⟨w.heap.size, 9, none⟩ = some (.string d) := cell_block Hd0.out 9
    have g3 : w'.frozen? ⟨w.heap.size, 3, none⟩ = false := free_block Hd0.out 3
    have g4 : w'.frozen? ⟨w.heap.size, 4, none⟩ = false := free_block Hd0.out 4
    have g5 : w'.frozen? ⟨w.heap.size, 5, none⟩ = false := free_block Hd0.out 5
    have pc0 : w'.cell? ⟨w.heap.size + 1, 0, none⟩ = some (.string { data := #[] }) := cell_block Hd1.out 0
    have pf0 : w'.frozen? ⟨w.heap.size + 1, 0, none⟩ = false := free_block Hd1.out 0
    have pc1 : w'.cell? ⟨w.heap.size + 1, 1, none⟩ = some (.string { data := #[] }) := cell_block Hd1.out 1
    have pf1 : w'.frozen? ⟨w.heap.size + 1, 1, none⟩ = false := free_block Hd1.out 1
    have pc2 : w'.cell? ⟨w.heap.size + 1, 2, none⟩ = some (.string { data := #[] }) := cell_block Hd1.out 2
    have pf2 : w'.frozen? ⟨w.heap.size + 1, 2, none⟩ = false := free_block Hd1.out 2
    have pc3 : w'.cell? ⟨w.heap.size + 1, 3, none⟩ = some (.slice none 0 0) := cell_block Hd1.out 3
    have pf3 : w'.frozen? ⟨w.heap.size + 1, 3, none⟩ = false := free_block Hd1.out 3
    have pc4 : w'.cell? ⟨w.heap.size + 1, 4, none⟩ = some (.slice none 0 0) := cell_block Hd1.out 4
    have pf4 : w'.frozen? ⟨w.heap.size + 1, 4, none⟩ = false := free_block Hd1.out 4
    have pc5 : w'.cell? ⟨w.heap.size + 1, 5, none⟩ = some (.slice none 0 0) := cell_block Hd1.out 5
    have pf5 : w'.frozen? ⟨w.heap.size + 1, 5, none⟩ = false := free_block Hd1.out 5
    have pc6 : w'.cell? ⟨w.heap.size + 1, 6, none⟩ = some (.bool false) := cell_block Hd1.out 6
    have pf6 : w'.frozen? ⟨w.heap.size + 1, 6, none⟩ = false := free_block Hd1.out 6
    have pc7 : w'.cell? ⟨w.heap.size + 1, 7, none⟩ = some (.string { data := #[] }) := cell_block Hd1.out 7
    have pf7 : w'.frozen? ⟨w.heap.size + 1, 7, none⟩ = false := free_block Hd1.out 7
    have pc8 : w'.cell? ⟨w.heap.size + 1, 8, none⟩ = some (.int .i64 0) := cell_block Hd1.out 8
    have pf8 : w'.frozen? ⟨w.heap.size + 1, 8, none⟩ = false := free_block Hd1.out 8
    have pc9 : w'.cell? ⟨w.heap.size + 1, 9, none⟩ = some (.string { data := #[] }) := cell_block Hd1.out 9
    have pf9 : w'.frozen? ⟨w.heap.size + 1, 9, none⟩ = false := free_block Hd1.out 9
    simp only [putAll, List.take_succ_cons, List.take_zero, List.drop_succ_cons, List.drop_zero]
    go_wp2_with fail
    refine bodyPost_ret (v := .agg #[.string k.kind, .string k.space, .string k.name, .slice a2 labels.length q2, .slice a5 owners.length q5, .slice a8 holds.length q8, .bool e, .string u, .int .i64 r, .string d]) ?_ rfl ⟨_, _, _, rfl, ?_, ?_, ?_, H85.out, ?_⟩
    · simp [results, Tryz.results65, go_sem, pc0, pc1, pc2, pc3, pc4, pc5, pc6, pc7, pc8, pc9]
    · have h := H2.out
      iterate 13 refine OwnAt.mono (OwnAt.setLow flat_label (B := w.heap.size + 2) ?_ (by simp) _) (by omega)
      exact h
    · have h := H5.out
      iterate 13 refine OwnAt.mono (OwnAt.setLow flat_string (B := w.heap.size + 2) ?_ (by simp) _) (by omega)
      exact h
    · have h := H8.out
      iterate 13 refine OwnAt.mono (OwnAt.setLow flat_string (B := w.heap.size + 2) ?_ (by simp) _) (by omega)
      exact h
    · iterate 13 refine Below.setCell ?_ (by simp) _
      exact hb2
end Go.Proofs.YtnnceaapodgfbaaGreatDoor
namespace Go.Proofs.YtnnceaapodgfbaaGreatDoor
open Go.RowKit
abbrev Dom := Nat → Prop
def Agree (D : Dom) (w w' : World) : Prop := ∀ b, D b → w'.heap[b]? = w.heap[b]?
theorem Agree.refl (D : Dom) (w : World) : Agree D w w := fun _ _ => rfl
theorem Agree.trans {D : Dom} {a b c : World} (h : Agree D a b) (k : Agree D b c) : Agree D a c := fun q hq => (k q hq).trans (h q hq)
theorem Agree.mono {D D' : Dom} {w w' : World} (h : Agree D w w') (hd : ∀ b, D' b → D b) : Agree D' w w' := fun b hb => h b (hd b hb)
structure Only (D : Dom) (w w' : World) : Prop where
  os : w'.os = w.os
  tape : w'.tape = w.tape
  output : w'.output = w.output
  size : w.heap.size ≤ w'.heap.size
  block : ∀ k, k < w.heap.size → ¬ D k → w'.heap[k]? = w.heap[k]?
section
variable {D D' E : Dom} {a w w' w'' : World}
theorem Only.refl (D : Dom) (w : World) : Only D w w := ⟨rfl, rfl, rfl, Nat.le_refl _, fun _ _ _ => rfl⟩
theorem Only.trans (h : Only D w w') (k : Only D' w' w'') (hd : ∀ b, D' b → b < w.heap.size → D b) : Only D w w'' :=
  ⟨k.os.trans h.os, k.tape.trans h.tape, k.output.trans h.output, Nat.le_trans h.size k.size, fun q hq hn => (k.block q (Nat.lt_of_lt_of_le hq h.size) fun h9 => hn (hd q h9 hq)).trans (h.block q hq hn)⟩
theorem Only.of (h : Below w.heap.size w w') : Only D w w' := ⟨h.os, h.tape, h.output, h.size, fun k hk _ => h.block k hk⟩
theorem Only.mono (h : Only D w w') (hd : ∀ b, D b → D' b) : Only D' w w' := ⟨h.os, h.tape, h.output, h.size, fun k hk hn => h.block k hk fun h9 => hn (hd k h9)⟩
theorem Only.then (h : Only D w w') (hb : Below w'.heap.size w' w'') : Only D w w'' :=
  ⟨hb.os.trans h.os, hb.tape.trans h.tape, hb.output.trans h.output, Nat.le_trans h.size hb.size, fun k hk hn => (hb.block k (Nat.lt_of_lt_of_le hk h.size)).trans (h.block k hk hn)⟩
theorem Only.after (hb : Below w.heap.size w w') (h : Only D w' w'') : Only D w w'' :=
  ⟨h.os.trans hb.os, h.tape.trans hb.tape, h.output.trans hb.output, Nat.le_trans hb.size h.size, fun k hk hn => (h.block k (Nat.lt_of_lt_of_le hk hb.size) hn).trans (hb.block k hk)⟩
theorem Only.touch {g : Nat} (h : Touch g w w') (hg : D g) : Only D w w' := ⟨h.os, h.tape, h.output, by rw [h.size]; exact Nat.le_refl _, fun k _ hn => h.other k fun e => hn (e ▸ hg)⟩
theorem Only.but {g : Nat} (h : But g w w') (hg : D g) : Only D w w' := ⟨h.os, h.tape, h.output, h.size, fun k hk hn => h.block k hk fun e => hn (e ▸ hg)⟩
theorem Only.grown {r : Option Nat} (h : w.grownBy w' r) (hg : ∀ g, r = some g → D g) : Only D w w' := ⟨h.os, h.tape, h.output, h.size, fun k hk hn => h.block k hk fun e => hn (hg k e.symm)⟩
theorem turned_size {b : Nat} (h : w.mapTurned w' b) : w'.heap.size = w.heap.size := by
  obtain ⟨es, clock, es', clock', hb, rfl⟩ := h
  simp [ChangeMaps.setBlock]
theorem Only.turned {b : Nat} (h : w.mapTurned w' b) (hg : D b) : Only D w w' := by
  have hs := turned_size h
  obtain ⟨es, clock, es', clock', hb, rfl⟩ := h
  exact ⟨rfl, rfl, rfl, by rw [hs]; exact Nat.le_refl _, fun k _ hn => ChangeMaps.heap_setBlock_other hb _ fun e => hn (e ▸ hg)⟩
theorem Only.agree (h : Only D w w') (hE : ∀ b, E b → b < w.heap.size ∧ ¬ D b) : Agree E w w' := fun b hb => h.block b (hE b hb).1 (hE b hb).2
theorem Only.below {B : Nat} (h : Only D w w') (hd : ∀ b, D b → B ≤ b) (hB : B ≤ w.heap.size) : Below B w w' :=
  ⟨h.os, h.tape, h.output, h.size, fun k hk => h.block k (by omega) fun h9 => by have := hd k h9; omega⟩
theorem Only.cell {p : Addr} (h : Only D w w') (hp : p.block < w.heap.size) (hn : ¬ D p.block) : w'.cell? p = w.cell? p := by unfold World.cell?; rw [h.block _ hp hn]
end
structure Fam {α : Type} (X : Dom → World → Rd α) : Prop where
  flat : ∀ D w, Flat (X D w)
  one : ∀ D w, OneR (X D w)
  agree : ∀ (D : Dom) (w w' u : World) (cs : List Value) (x : α), Agree D w w' → X D w u cs x → X D w' u cs x
  mono : ∀ (D D' : Dom) (w u : World) (cs : List Value) (x : α), (∀ b, D b → D' b) → X D w u cs x → X D' w u cs x
theorem fam_flat {α : Type} {R : Rd α} (h : Flat R) (h1 : OneR R) : Fam (fun _ _ => R) := ⟨fun _ _ => h, fun _ _ => h1, fun _ _ _ _ _ _ _ h => h, fun _ _ _ _ _ _ _ h => h⟩
def OwnX {α : Type} (X : Dom → World → Rd α) (k : Nat) (D : Dom) (w : World) (e : TypeId) (v : Value) (l : List α) : Prop :=
  OwnAt (X D w) k w 0 e v l ∧ ∀ b, v.ownBlock = some b → D b
section
variable {α β : Type} {X : Dom → World → Rd α} {k : Nat} {D D' : Dom} {w w' : World} {e : TypeId} {v : Value} {l : List α}
theorem OwnAt.imp' {R R' : Rd α} {B : Nat} (h : OwnAt R k w B e v l) (hi : ∀ cs x, x ∈ l → R w cs x → R' w cs x) : OwnAt R' k w B e v l := by
  obtain ⟨css, h1, h2, h3, h4⟩ := h
  exact ⟨css, h1, h2, h3, fun j cs x hcs hx => hi cs x (List.mem_of_getElem? hx) (h4 j cs x hcs hx)⟩
theorem OwnAt.stay {R : Rd α} {B : Nat} (hf : Flat R) (h : OwnAt R k w B e v l) (hb : ∀ b, v.ownBlock = some b → w'.heap[b]? = w.heap[b]?) : OwnAt R k w' B e v l := by
  obtain ⟨css, h1, h2, h3, h4⟩ := h
  refine ⟨css, h1, h2, ⟨h3.1, ?_⟩, fun j cs y hcs hy => hf _ _ _ _ (h4 j cs y hcs hy)⟩
  rcases h3.2 with h5 | ⟨q, cap, cur, rfl, hB, hh, hr⟩
  · exact .inl h5
  · exact .inr ⟨q, cap, cur, rfl, hB, (hb q rfl).trans hh, hr⟩
theorem OwnX.own (h : OwnX X k D w e v l) : OwnAt (X D w) k w 0 e v l := h.1
theorem OwnX.lt (h : OwnX X k D w e v l) {b : Nat} (hb : v.ownBlock = some b) : b < w.heap.size := (h.1.at hb).2.1
theorem OwnX.agree (hX : Fam X) (h : OwnX X k D w e v l) (ha : Agree D w w') : OwnX X k D w' e v l :=
  ⟨(h.1.stay (hX.flat D w) fun b hb => ha b (h.2 b hb)).imp' fun _ _ _ hx => hX.agree _ _ _ _ _ _ ha hx, h.2⟩
theorem OwnX.mono (hX : Fam X) (h : OwnX X k D w e v l) (hd : ∀ b, D b → D' b) : OwnX X k D' w e v l :=
  ⟨h.1.imp' fun _ _ _ hx => hX.mono _ _ _ _ _ _ hd hx, fun b hb => hd b (h.2 b hb)⟩
theorem OwnX.nil : OwnX X k D w e (.slice none 0 0) [] := ⟨OwnAt.nil _, fun b h => by cases h⟩
theorem OwnX.ofFlat {R : Rd α} {B : Nat} (h : OwnAt R k w B e v l) (hd : ∀ b, v.ownBlock = some b → D b) : OwnX (fun _ _ => R) k D w e v l := ⟨h.mono (Nat.zero_le _), hd⟩
end
end Go.Proofs.YtnnceaapodgfbaaGreatDoor
namespace Go.Proofs.YtnnceaapodgfbaaGreatDoor
open Go.RowKit
def okLab (x : GLabel) : Prop := x.key.size ≤ 1048576 ∧ x.val.size ≤ 1048576
theorem ret_int {a b : Int} (h : a = b) : Ending.returned (.int .i64 a) = .returned (.int .i64 b) := by rw [h]
end Go.Proofs.YtnnceaapodgfbaaGreatDoor
namespace Go.Proofs.YtnnceaapodgfbaaGreatDoor
open Go.RowKit
theorem zero_snoc {α : Type} {l : List α} {f : α → Int} {i : Nat} {x : α} (h : ∀ y ∈ l.take i, f y = 0) (hx : l[i]? = some x) (hf : f x = 0) : ∀ y ∈ l.take (i + 1), f y = 0 := fun y hy => by
  rw [List.take_add_one, hx] at hy
  rcases List.mem_append.1 hy with h1 | h1
  · exact h y h1
  · simp at h1; subst h1; exact hf
end Go.Proofs.YtnnceaapodgfbaaGreatDoor
namespace Go.Proofs.YtnnceaapodgfbaaGreatDoor
open Go.RowKit
theorem labZ_length (l : List GLabel) : (labZ l).length = l.length := by unfold labZ; simp
theorem labZ_get0 {l : List GLabel} {x : GLabel} (h : l[0]? = some x) : (labZ l)[0]? = some (none, x) := by
  unfold labZ
  rw [List.getElem?_zip_eq_some]
  exact ⟨rfl, h⟩
theorem labZ_get {l : List GLabel} {i : Nat} {x y : GLabel} (h : l[i + 1]? = some x) (hy : l[i]? = some y) : (labZ l)[i + 1]? = some (some y.key, x) := by
  unfold labZ
  rw [List.getElem?_zip_eq_some]
  exact ⟨by simp [hy], h⟩
theorem below_drew (B : Nat) (w : World) : Below B w w.drew := ⟨rfl, rfl, rfl, Nat.le_refl _, fun _ _ => rfl⟩
set_option maxRecDepth 100000 in
set_option maxHeartbeats 3200000 in
theorem labels_any (v : Value) (l : List GLabel) (m : Int) (w : World) (h : RowAt LabelR 2 w v l) (hl : l.length ≤ 1048576) (hok : ∀ r ∈ l, okLab r) (hm : MaxOK m w) :
    Calls Tryz.prog 54 #[v] w fun e w' => e = .returned (.int .i64 (labelsE l)) ∧ Below w.heap.size w w' := by
  obtain ⟨a1, c1, rfl, _, _⟩ := h.len
  obtain ⟨R, HR⟩ : ∃ R, Hid (labelsE l = R) := ⟨_, Lib.hid rfl⟩
  rw [HR.out]
  have hE : R = if 10 < l.length then 2 else errF labE (labZ l) := by rw [← HR.out]; rfl
  have HE := Lib.hid hE
  have H := Lib.hid h
  have Hm := Lib.hid hm
  have Hok := Lib.hid hok
  clear hE h hm hok
  by_cases h8 : 10 < l.length
  · have q0 : (10 : Int) < (l.length : Int) := by omega
    have HR4 : Hid (2 = R) := Lib.hid (by rw [HE.out, if_pos h8])
    clear h8
    go_enter Tryz.func54, Tryz.ntmps54
    go_wp2_with fail
    go_ret
    exact ⟨ret_int HR4.out, Below.refl _ _⟩
  · have q0 : ¬ (10 : Int) < (l.length : Int) := by omega
    have HR4 : Hid (R = errF labE (labZ l)) := Lib.hid (by rw [HE.out, if_neg h8])
    clear h8
    go_enter Tryz.func54, Tryz.ntmps54
    go_wp2_with fail
    go_loopg [12] l.length (fun k u12 wr => ∃ i : Nat, i + k = l.length ∧ u12 = .int .i64 (i : Int) ∧ Hid (∀ x ∈ (labZ l).take i, labE x = 0) ∧ Hid (Below w.heap.size w wr))
    case atStart => exact ⟨0, by omega, rfl, Lib.hid (by simp), Lib.hid (Below.refl _ _)⟩
    case round =>
      obtain ⟨i, hig, rfl, Hall, Hbel⟩ := hrel
      have hsr := Hbel.out.size
      cases gk with
      | zero =>
        obtain rfl : i = l.length := by omega
        have HR5 : Hid (0 = R) := Lib.hid (by
          rw [HR4.out, errF_none]
          intro x hx
          refine Hall.out x ?_
          rw [List.take_of_length_le (by rw [labZ_length]; exact Nat.le_refl _)]; exact hx)
        go_wp2_with fail
        go_ret
        exact ⟨ret_int HR5.out, Hbel.out⟩
      | succ k =>
        have hil : i < l.length := by omega
        obtain ⟨x, hxi⟩ : ∃ x, l[i]? = some x := ⟨l[i]'(by omega), List.getElem?_eq_getElem _⟩
        obtain ⟨b, o, c', hv, _, _, hbs, hcell⟩ := H.out.form (by omega) (by omega)
        injection hv with u1 u2 u3
        subst u1
        clear u2 u3
        obtain ⟨ds, _, hcc, hR⟩ := hcell i x hxi
        obtain rfl : ds = [.string x.key, .string x.val] := hR
        have e0 : wr.cell? ⟨b, o + i * 2, none⟩ = some (.string x.key) := (Hbel.out.cell (p := ⟨b, _, none⟩) hbs).trans (by simpa using hcc 0 _ rfl)
        have e1 : wr.cell? ⟨b, o + i * 2 + 1, none⟩ = some (.string x.val) := (Hbel.out.cell (p := ⟨b, _, none⟩) hbs).trans (hcc 1 _ rfl)
        have q1 : (0 : Int) ≤ (i : Int) := by omega
        have q2 : (i : Int) < (l.length : Int) := by omega
        have Hxi := Lib.hid hxi
        -- the label ahead of it
        have hprev : ∃ p, (labZ l)[i]? = some (p, x) ∧ ((i = 0 ∧ p = none) ∨ ∃ y : GLabel, 0 < i ∧ p = some y.key ∧ w.cell? ⟨b, o + (i - 1) * 2, none⟩ = some (.string y.key)) := by
          cases i with
          | zero => exact ⟨none, labZ_get0 hxi, .inl ⟨rfl, rfl⟩⟩
          | succ j =>
            obtain ⟨y, hy⟩ : ∃ y, l[j]? = some y := ⟨l[j]'(by omega), List.getElem?_eq_getElem _⟩
            obtain ⟨ds, _, hcc2, hR2⟩ := hcell j y hy
            obtain rfl : ds = [.string y.key, .string y.val] := hR2
            exact ⟨some y.key, labZ_get hxi hy, .inr ⟨y, by omega, rfl, by simpa using hcc2 0 _ rfl⟩⟩
        obtain ⟨p, hzi, hp⟩ := hprev
        have Hzi := Lib.hid hzi
        have Hp := Lib.hid hp
        have Hlab : Hid (labE (p, x) = if keyE x.key ≠ 0 then keyE x.key else if valE x.val ≠ 0 then valE x.val else prevE p x.key) := Lib.hid rfl
        obtain ⟨ok1, ok2⟩ := Hok.out x (List.mem_of_getElem? hxi)
        clear hcc hcell hxi hzi hp
        go_upto_region 6 with fail
        obtain ⟨W, hW⟩ : ∃ W, W = wr.alloc (.cells #[.string x.key, .string x.val] 66) := ⟨_, rfl⟩
        obtain ⟨gb, hgb⟩ : ∃ gb, gb = wr.heap.size := ⟨_, rfl⟩
        rw [← hW, ← hgb]
        have c0 : W.heap[gb]? = some (.cells #[.string x.key, .string x.val] 66 (0, 0)) := by rw [hW, hgb]; exact heap_alloc_new wr _
        have hb5 : Below wr.heap.size wr W := by rw [hW]; exact (Below.refl _ _).alloc (Nat.le_refl _) _
        have HW := Lib.hid (Hbel.out.trans (hb5.mono hsr))
        have Hc0 := Lib.hid c0
        have cc := fun i => cell_block c0 i
        clear hW hgb hb5 c0 e0 e1
        go_wp2_with fail
        refine (checkKey_any x.key m W (by omega) (Hm.out.below HW.out)).mono ?_
        rintro E w3 ⟨rfl, hb3⟩
        have Hb3 := Lib.hid (HW.out.trans (hb3.mono HW.out.size))
        have c3 := below_block hb3 Hc0.out
        have Hc3 := Lib.hid c3
        clear hb3 cc
        have cc := fun i => cell_block c3 i
        clear c3
        obtain ⟨kE, HkE⟩ : ∃ kE, Hid (NameP.checkKey x.key.data.toList = kE) := ⟨_, Lib.hid rfl⟩
        rw [HkE.out]
        have hk1 : keyE x.key = kE := HkE.out
        have Hk1 := Lib.hid hk1
        clear hk1
        by_cases hr0 : kE = 0
        · subst hr0
          go_wp2_with fail
          refine (checkVal_any x.val _ (by omega)).mono ?_
          rintro E w' ⟨rfl, rfl⟩
          obtain ⟨vE, HvE⟩ : ∃ vE, Hid (NameP.checkVal x.val.data.toList = vE) := ⟨_, Lib.hid rfl⟩
          rw [HvE.out]
          have hv1 : valE x.val = vE := HvE.out
          have Hv1 := Lib.hid hv1
          clear hv1
          by_cases hv0 : vE = 0
          · subst hv0
            have hl2 : labE (p, x) = prevE p x.key := by rw [Hlab.out, if_neg (by rw [Hk1.out]; simp), if_neg (by rw [Hv1.out]; simp)]
            have Hl2 := Lib.hid hl2
            clear hl2
            go_upto_region 12 with fail
            rcases Hp.out with ⟨hi0, rfl⟩ | ⟨y, hi0, rfl, hy⟩
            · subst hi0
              have hl3 : labE (none, x) = 0 := Hl2.out
              have Hall2 := Lib.hid (zero_snoc Hall.out Hzi.out hl3)
              clear hl3
              go_region
              go_wp2_with fail
              go_roundg k
              case measure => omega
              case rel => exact ⟨1, by omega, by go_num, Hall2, Lib.hid (Hb3.out.trans (below_drew _ _))⟩
            · have q5 : (0 : Int) ≤ (i : Int) - 1 := by omega
              have q6 : (i : Int) - 1 < (l.length : Int) := by omega
              have q7 : (0 : Int) < (i : Int) := by omega
              have f0 : w3.cell? ⟨b, o + (i - 1) * 2, none⟩ = some (.string y.key) := (Hb3.out.cell (p := ⟨b, _, none⟩) hbs).trans hy
              clear hy
              cases hless : Op.bytesLess y.key.toList x.key.toList with
              | true =>
                have hl3 : labE (some y.key, x) = 0 := by rw [Hl2.out]; show (if Op.bytesLess y.key.toList x.key.toList = true then (0 : Int) else 1) = _; rw [hless]; rfl
                have Hall2 := Lib.hid (zero_snoc Hall.out Hzi.out hl3)
                clear hl3
                go_region
                go_wp2_with fail
                go_roundg k
                case measure => omega
                case rel => exact ⟨i + 1, by omega, by go_num, Hall2, Lib.hid (Hb3.out.trans (below_drew _ _))⟩
              | false =>
                have hl3 : labE (some y.key, x) = 1 := by rw [Hl2.out]; show (if Op.bytesLess y.key.toList x.key.toList = true then (0 : Int) else 1) = _; rw [hless]; rfl
                have HR5 : Hid (1 = R) := Lib.hid (by rw [HR4.out, errF_at Hzi.out Hall.out (by rw [hl3]; decide)]; exact hl3.symm)
                clear hl3
                go_region
                go_wp2_with fail
                go_ret
                exact ⟨ret_int HR5.out, Hb3.out.trans (below_drew _ _)⟩
          · have q3 : (vE == 0) = false := by rw [beq_eq_false_iff_ne]; exact hv0
            have q4 : (vE != 0) = true := by rw [bne_iff_ne]; exact hv0
            have hlab : labE (p, x) = vE := by rw [Hlab.out, if_neg (by rw [Hk1.out]; simp), if_pos (by rw [Hv1.out]; exact hv0)]; exact Hv1.out
            have HR5 : Hid (vE = R) := Lib.hid (by rw [HR4.out, errF_at Hzi.out Hall.out (by rw [hlab]; exact hv0)]; exact hlab.symm)
            clear hv0 hlab
            go_wp2_with fail
            go_ret
            exact ⟨ret_int HR5.out, Hb3.out⟩
        · have q3 : (kE == 0) = false := by rw [beq_eq_false_iff_ne]; exact hr0
          have q4 : (kE != 0) = true := by rw [bne_iff_ne]; exact hr0
          have hlab : labE (p, x) = kE := by rw [Hlab.out, if_pos (by rw [Hk1.out]; exact hr0)]; exact Hk1.out
          have HR5 : Hid (kE = R) := Lib.hid (by rw [HR4.out, errF_at Hzi.out Hall.out (by rw [hlab]; exact hr0)]; exact hlab.symm)
          clear hr0 hlab
          go_wp2_with fail
          go_ret
          exact ⟨ret_int HR5.out, Hb3.out⟩
end Go.Proofs.YtnnceaapodgfbaaGreatDoor
namespace Go.Proofs.YtnnceaapodgfbaaGreatDoor
namespace Sto
open Go.RowKit
def objCs (x : GObject) (v1 v2 v3 : Value) : List Value := [.string x.okey.kind, .string x.okey.space, .string x.okey.name, v1, v2, v3, .bool x.ending, .string x.uid, .int .i64 x.rev, .string x.doc]
def objW (x : GObject) (v1 v2 v3 : Value) : Value := objV x.okey v1 v2 v3 x.ending x.uid x.rev x.doc
abbrev LabF : Dom → World → Rd GLabel := fun _ _ => LabelR
abbrev StrF : Dom → World → Rd ByteArray := fun _ _ => RString
theorem flat_label : Flat LabelR := fun _ _ _ _ h => h
theorem one_label : OneR LabelR := fun _ _ _ h u hu => by
  rw [h] at hu
  simp only [List.mem_cons, List.not_mem_nil, or_false] at hu
  rcases hu with rfl | rfl <;> rfl
theorem famLab : Fam LabF := fam_flat flat_label one_label
theorem famStr : Fam StrF := fam_flat flat_string one_string
structure ObjIn (D : Dom) (w : World) (v1 v2 v3 : Value) (x : GObject) : Prop where
  labels : OwnX LabF 2 D w 66 v1 x.labels
  owners : OwnX StrF 1 D w 9 v2 x.owners
  holds : OwnX StrF 1 D w 9 v3 x.holds
section
variable {D D' : Dom} {w w' : World} {v1 v2 v3 : Value} {x : GObject}
theorem ObjIn.agree (h : ObjIn D w v1 v2 v3 x) (ha : Agree D w w') : ObjIn D w' v1 v2 v3 x := ⟨h.labels.agree famLab ha, h.owners.agree famStr ha, h.holds.agree famStr ha⟩
theorem ObjIn.mono (h : ObjIn D w v1 v2 v3 x) (hd : ∀ b, D b → D' b) : ObjIn D' w v1 v2 v3 x := ⟨h.labels.mono famLab hd, h.owners.mono famStr hd, h.holds.mono famStr hd⟩
theorem ObjIn.rowL (h : ObjIn D w v1 v2 v3 x) : RowAt LabelR 2 w v1 x.labels := h.labels.own.row
theorem ObjIn.rowO (h : ObjIn D w v1 v2 v3 x) : StrAt w v2 x.owners := h.owners.own.row.strs
theorem ObjIn.rowH (h : ObjIn D w v1 v2 v3 x) : StrAt w v3 x.holds := h.holds.own.row.strs
theorem own_one {α : Type} {R : Rd α} {k B : Nat} {e : TypeId} {v : Value} {l : List α} (h : OwnAt R k w B e v l) : v.oneCell' = true := by
  rcases h.form with ⟨e, _⟩ | ⟨g, c, e, _⟩ <;> rw [e] <;> rfl
theorem ObjIn.ones (h : ObjIn D w v1 v2 v3 x) : ∀ u ∈ objCs x v1 v2 v3, u.oneCell' = true := fun u hu => by
  unfold objCs at hu
  simp only [List.mem_cons, List.not_mem_nil, or_false] at hu
  rcases hu with rfl | rfl | rfl | rfl | rfl | rfl | rfl | rfl | rfl | rfl
  · rfl
  · rfl
  · rfl
  · exact own_one h.labels.own
  · exact own_one h.owners.own
  · exact own_one h.holds.own
  · rfl
  · rfl
  · rfl
  · rfl
theorem ObjIn.other {y : GObject} (h : ObjIn D w v1 v2 v3 x) (h1 : y.labels = x.labels) (h2 : y.owners = x.owners) (h3 : y.holds = x.holds) : ObjIn D w v1 v2 v3 y := ⟨h1 ▸ h.labels, h2 ▸ h.owners, h3 ▸ h.holds⟩
end
def i64 (n : Int) : Prop := (Lit.int .i64 n).wf = true
def VerX (D : Dom) (w : World) : Rd GEvent := fun _ cs x => ∃ v1 v2 v3, cs = .int .i64 x.rev :: (objCs x.object v1 v2 v3 ++ [.bool (decide (x.kind = 3))]) ∧ ObjIn D w v1 v2 v3 x.object
def EvX (D : Dom) (w : World) : Rd GEvent := fun _ cs x => ∃ v1 v2 v3, cs = .int .i64 x.kind :: .int .i64 x.rev :: objCs x.object v1 v2 v3 ∧ ObjIn D w v1 v2 v3 x.object
def ObjX (D : Dom) (w : World) : Rd GObject := fun _ cs x => ∃ v1 v2 v3, cs = objCs x v1 v2 v3 ∧ ObjIn D w v1 v2 v3 x
theorem famVer : Fam VerX :=
  ⟨fun _ _ _ _ _ _ h => h, fun _ _ _ cs x ⟨v1, v2, v3, h1, h2⟩ u hu => by
    rw [h1] at hu
    rcases List.mem_cons.1 hu with rfl | hu
    · rfl
    · rcases List.mem_append.1 hu with hu | hu
      · exact h2.ones u hu
      · rw [List.mem_singleton] at hu; rw [hu]; rfl,
   fun _ _ _ _ _ _ ha ⟨v1, v2, v3, h1, h2⟩ => ⟨v1, v2, v3, h1, h2.agree ha⟩, fun _ _ _ _ _ _ hd ⟨v1, v2, v3, h1, h2⟩ => ⟨v1, v2, v3, h1, h2.mono hd⟩⟩
theorem famEv : Fam EvX :=
  ⟨fun _ _ _ _ _ _ h => h, fun _ _ _ cs x ⟨v1, v2, v3, h1, h2⟩ u hu => by
    rw [h1] at hu
    rcases List.mem_cons.1 hu with rfl | hu
    · rfl
    · rcases List.mem_cons.1 hu with rfl | hu
      · rfl
      · exact h2.ones u hu,
   fun _ _ _ _ _ _ ha ⟨v1, v2, v3, h1, h2⟩ => ⟨v1, v2, v3, h1, h2.agree ha⟩, fun _ _ _ _ _ _ hd ⟨v1, v2, v3, h1, h2⟩ => ⟨v1, v2, v3, h1, h2.mono hd⟩⟩
theorem famObj : Fam ObjX :=
  ⟨fun _ _ _ _ _ _ h => h, fun _ _ _ cs x ⟨v1, v2, v3, h1, h2⟩ u hu => by rw [h1] at hu; exact h2.ones u hu,
   fun _ _ _ _ _ _ ha ⟨v1, v2, v3, h1, h2⟩ => ⟨v1, v2, v3, h1, h2.agree ha⟩, fun _ _ _ _ _ _ hd ⟨v1, v2, v3, h1, h2⟩ => ⟨v1, v2, v3, h1, h2.mono hd⟩⟩
structure StoreIn (M I : Dom) (w : World) (g mb n : Nat) (f : GKey → Option Value) (vlog : Value) (S : St) : Prop where
  gM : M g
  mbM : M mb
  apart : ∀ b, M b → ¬ I b
  low : ∀ b, M b ∨ I b → b < w.heap.size
  box : w.heap[g]? = some (.cells #[.int .i64 S.rev, .int .i64 S.comp, .map (some mb), .int .i64 (live S.log), vlog] 110 (0, 0))
  map : MapK keyC w mb n f
  many : n ≤ S.rev
  chain : ∀ k v, f k = some v → OwnAt (VerX I w) 12 w 0 163 v (hits S.log k) ∧ ∀ b, v.ownBlock = some b → M b
  no : ∀ k, f k = none → hits S.log k = []
  own : ∀ k k' v v', f k = some v → f k' = some v' → k ≠ k' → ∀ b, v.ownBlock = some b → v'.ownBlock ≠ some b
  log : OwnAt (EvX I w) 12 w 0 56 vlog S.log
  logM : ∀ b, vlog.ownBlock = some b → M b
def StoreAt (D : Dom) (w : World) (g : Nat) (S : St) : Prop := ∃ M I mb n f vlog, StoreIn M I w g mb n f vlog S ∧ ∀ b, D b ↔ M b ∨ I b
section
variable {M I D D' : Dom} {w w' : World} {g mb n : Nat} {f : GKey → Option Value} {vlog : Value} {S : St}
theorem StoreIn.agree (h : StoreIn M I w g mb n f vlog S) (ha : Agree (fun b => M b ∨ I b) w w') (hs : w.heap.size ≤ w'.heap.size) : StoreIn M I w' g mb n f vlog S := by
  have hI : Agree I w w' := ha.mono fun b hb => .inr hb
  have hM : ∀ b, M b → w'.heap[b]? = w.heap[b]? := fun b hb => ha b (.inl hb)
  refine ⟨h.gM, h.mbM, h.apart, fun b hb => Nat.lt_of_lt_of_le (h.low b hb) hs, (hM g h.gM).trans h.box, h.map.block (hM mb h.mbM), h.many, fun k v hk => ?_, h.no, h.own, ?_, h.logM⟩
  · obtain ⟨h1, h2⟩ := h.chain k v hk
    exact ⟨((h1.stay (famVer.flat I w) fun b hb => hM b (h2 b hb)).imp' fun _ _ _ hx => famVer.agree _ _ _ _ _ _ hI hx), h2⟩
  · exact (h.log.stay (famEv.flat I w) fun b hb => hM b (h.logM b hb)).imp' fun _ _ _ hx => famEv.agree _ _ _ _ _ _ hI hx
theorem StoreAt.agree (h : StoreAt D w g S) (ha : Agree D w w') (hs : w.heap.size ≤ w'.heap.size) : StoreAt D w' g S :=
  let ⟨M, I, mb, n, f, vlog, h1, h2⟩ := h
  ⟨M, I, mb, n, f, vlog, h1.agree (ha.mono fun b hb => (h2 b).2 hb) hs, h2⟩
theorem StoreIn.belowW (h : StoreIn M I w g mb n f vlog S) (hb : Below w.heap.size w w') : StoreIn M I w' g mb n f vlog S := h.agree (fun b hM => hb.block b (h.low b hM)) hb.size
theorem StoreAt.belowW (h : StoreAt D w g S) (hb : Below w.heap.size w w') : StoreAt D w' g S :=
  let ⟨M, I, mb, n, f, vlog, h1, h2⟩ := h
  ⟨M, I, mb, n, f, vlog, h1.belowW hb, h2⟩
theorem StoreAt.box (h : StoreAt D w g S) : ∃ mb vlog, w.heap[g]? = some (.cells #[.int .i64 S.rev, .int .i64 S.comp, .map (some mb), .int .i64 (live S.log), vlog] 110 (0, 0)) :=
  let ⟨_, _, mb, _, _, vlog, h1, _⟩ := h
  ⟨mb, vlog, h1.box⟩
theorem StoreAt.low (h : StoreAt D w g S) {b : Nat} (hb : D b) : b < w.heap.size := let ⟨_, _, _, _, _, _, h1, h2⟩ := h; h1.low b ((h2 b).1 hb)
theorem StoreAt.lt (h : StoreAt D w g S) : g < w.heap.size := let ⟨_, _, _, _, _, _, h1, _⟩ := h; h1.low g (.inl h1.gM)
end
structure OkObj (x : GObject) : Prop where
  kind : x.okey.kind.size ≤ 1048576
  space : x.okey.space.size ≤ 1048576
  name : x.okey.name.size ≤ 1048576
  labels : x.labels.length ≤ 1048576 ∧ ∀ r ∈ x.labels, okLab r
  owners : x.owners.length ≤ 1048576 ∧ ∀ s ∈ x.owners, s.size ≤ 1048576
  holds : x.holds.length ≤ 1048576 ∧ ∀ s ∈ x.holds, s.size ≤ 1048576
  uid : x.uid.size ≤ 1048576
  rev : i64 x.rev
  doc : x.doc.size ≤ 1048576
structure OkSt (S : St) : Prop where
  obj : ∀ e ∈ S.log, OkObj e.object
  rev : S.rev ≤ 4194304
  good : Good S
end Sto
end Go.Proofs.YtnnceaapodgfbaaGreatDoor
namespace Go.Proofs.YtnnceaapodgfbaaGreatDoor
namespace Sto
open Go.RowKit
theorem drewB {B : Nat} {a w : World} (h : Below B a w) (n : Nat) : Below B a (w.drewN n) := ⟨h.os, h.tape, h.output, h.size, h.block⟩
theorem Tryz.sizeObj : (Tryz.prog.info? 30).map (·.size) = some 10 := by kernel_rfl
theorem Tryz.zeroVers (w : World) : (zeroValue 159).run Tryz.prog w = .ok (.slice none 0 0) w := by kernel_rfl
set_option maxRecDepth 100000 in
theorem new_any (w : World) : Calls Tryz.prog 46 #[] w fun e w' => ∃ g D, e = .returned (.pointer (some ⟨g, 0, none⟩)) ∧ StoreAt D w' g St0 ∧ (∀ b, D b → w.heap.size ≤ b) ∧ Below w.heap.size w w' := by
  have hmm := @run_makeMap Tryz.prog
  go_enter Tryz.func46, Tryz.ntmps46
  go_wp2_with fail
  go_ret
  have h1 := mapK_made keyC w
  have hb1 : Below w.heap.size w (w.alloc (.map #[] 0)) := (Below.refl _ _).alloc (Nat.le_refl _) _
  have hs1 : (w.alloc (.map #[] 0)).heap.size = w.heap.size + 1 := World.size_alloc _ _
  have h2 := heap_alloc_new (w.alloc (.map #[] 0)) (.cells #[.int .i64 0, .int .i64 0, .map (some w.heap.size), .int .i64 0, .slice none 0 0] 110)
  refine ⟨_, fun b => b = w.heap.size ∨ b = w.heap.size + 1, rfl, ⟨fun b => b = w.heap.size ∨ b = w.heap.size + 1, fun _ => False, w.heap.size, 0, fun _ => none, .slice none 0 0, ⟨.inr (by simp), .inl rfl, fun _ _ h => h, fun b hb => ?_, ?_, ?_, Nat.le_refl _, fun k v h => (by cases h), fun k _ => rfl, fun k k' v v' h => (by cases h), OwnAt.nil _, fun b h => (by cases h)⟩, fun b => ⟨.inl, fun h => h.elim id False.elim⟩⟩, fun b hb => ?_, ?_⟩
  · rw [World.size_alloc, World.size_alloc]
    rcases hb with (rfl | rfl) | h
    · omega
    · omega
    · exact h.elim
  · rw [hs1] at h2; exact h2
  · exact h1.alloc _
  · rcases hb with rfl | rfl
    · exact Nat.le_refl _
    · exact Nat.le_succ _
  · exact hb1.alloc (by rw [hs1]; omega) _
set_option maxRecDepth 100000 in
theorem rev_any {D : Dom} {g : Nat} {S : St} {w : World} (h : StoreAt D w g S) : Calls Tryz.prog 16 #[.pointer (some ⟨g, 0, none⟩)] w fun e w' => e = .returned (.int .i64 S.rev) ∧ w = w' := by
  obtain ⟨mb, vlog, hb⟩ := h.box
  have cc := fun i => cell_block hb i
  clear h hb
  go_enter Tryz.func16, Tryz.ntmps16
  go_wp2_with fail
  go_ret
  exact ⟨rfl, rfl⟩
set_option maxRecDepth 100000 in
theorem time_any {D : Dom} {g : Nat} {S : St} {w : World} (h : StoreAt D w g S) (rev : Int) : Calls Tryz.prog 48 #[.pointer (some ⟨g, 0, none⟩), .int .i64 rev] w fun e w' => e = .returned (.tuple #[.int .i64 (timeT S rev), .int .i64 (timeE S rev)]) ∧ w = w' := by
  obtain ⟨mb, vlog, hb⟩ := h.box
  have cc := fun i => cell_block hb i
  obtain ⟨T, HT⟩ : ∃ T, Hid (timeT S rev = T) := ⟨_, Lib.hid rfl⟩
  obtain ⟨E, HE⟩ : ∃ E, Hid (timeE S rev = E) := ⟨_, Lib.hid rfl⟩
  rw [HT.out, HE.out]
  obtain ⟨n, hn⟩ : ∃ n, S.rev = n := ⟨_, rfl⟩
  obtain ⟨c, hc⟩ : ∃ c, S.comp = c := ⟨_, rfl⟩
  rw [hn, hc] at cc
  have HTE : Hid (E = if rev < 0 ∨ (n : Int) < rev then 1 else if rev = 0 then 0 else if rev < c then 13 else 0) := Lib.hid (by rw [← HE.out, ← hn, ← hc]; rfl)
  have HTT : Hid (T = if E ≠ 0 then 0 else if rev = 0 then n else rev.toNat) := Lib.hid (by rw [← HT.out, ← HE.out, ← hn]; rfl)
  clear h hb HT HE hn hc
  by_cases h1 : rev < 0
  · have e1 : E = 1 := by rw [HTE.out, if_pos (.inl h1)]
    have e2 : T = 0 := by rw [HTT.out, e1]; rfl
    subst e1 e2
    clear HTE HTT
    go_enter Tryz.func48, Tryz.ntmps48
    go_wp2_with fail
    go_ret2
    exact ⟨rfl, rfl⟩
  · by_cases h2 : (n : Int) < rev
    · have e1 : E = 1 := by rw [HTE.out, if_pos (.inr h2)]
      have e2 : T = 0 := by rw [HTT.out, e1]; rfl
      subst e1 e2
      clear HTE HTT
      go_enter Tryz.func48, Tryz.ntmps48
      go_wp2_with fail
      go_ret2
      exact ⟨rfl, rfl⟩
    · have hno : ¬ (rev < 0 ∨ (n : Int) < rev) := by omega
      by_cases h3 : rev = 0
      · subst h3
        have e1 : E = 0 := by rw [HTE.out, if_neg hno, if_pos rfl]
        have e2 : T = n := by rw [HTT.out, e1]; rfl
        subst e1 e2
        clear HTE HTT hno h1
        go_enter Tryz.func48, Tryz.ntmps48
        go_wp2_with fail
        go_ret2
        exact ⟨rfl, rfl⟩
      · have q3 : (rev == 0) = false := by rw [beq_eq_false_iff_ne]; exact h3
        by_cases h4 : rev < c
        · have e1 : E = 13 := by rw [HTE.out, if_neg hno, if_neg h3, if_pos h4]
          have e2 : T = 0 := by rw [HTT.out, e1]; rfl
          subst e1 e2
          clear HTE HTT hno h3
          go_enter Tryz.func48, Tryz.ntmps48
          go_wp2_with fail
          go_ret2
          exact ⟨rfl, rfl⟩
        · have e1 : E = 0 := by rw [HTE.out, if_neg hno, if_neg h3, if_neg h4]
          have e2 : (T : Int) = rev := by rw [HTT.out, e1, if_neg (fun h => h rfl), if_neg h3]; omega
          subst e1
          rw [e2]
          clear HTE HTT hno h3 e2
          go_enter Tryz.func48, Tryz.ntmps48
          go_wp2_with fail
          go_ret2
          exact ⟨rfl, rfl⟩
theorem StoreIn.turn {M I : Dom} {w w' : World} {g mb n : Nat} {f : GKey → Option Value} {vlog : Value} {S S' : St} (h : StoreIn M I w g mb n f vlog S) (ht : Touch g w w') (hl : S'.log = S.log)
    (hb : w'.heap[g]? = some (.cells #[.int .i64 S'.rev, .int .i64 S'.comp, .map (some mb), .int .i64 (live S'.log), vlog] 110 (0, 0))) : StoreIn M I w' g mb n f vlog S' := by
  have hI : Agree I w w' := fun b hb => ht.other b fun e => h.apart g h.gM (e ▸ hb)
  refine ⟨h.gM, h.mbM, h.apart, fun b hb => by rw [ht.size]; exact h.low b hb, hb, h.map.block (ht.other mb (h.map.ne h.box)), by unfold St.rev; rw [hl]; exact h.many, fun k v hk => ?_, fun k hk => by rw [hl]; exact h.no k hk, h.own, ?_, h.logM⟩
  · obtain ⟨h1, h2⟩ := h.chain k v hk
    rw [hl]
    refine ⟨(h1.stay (famVer.flat I w) fun b hq => ht.other b fun e => ?_).imp' fun _ _ _ hx => famVer.agree _ _ _ _ _ _ hI hx, h2⟩
    obtain ⟨_, _, cur, hc⟩ := h1.at hq
    rw [e, h.box] at hc; cases hc
  · rw [hl]
    refine (h.log.stay (famEv.flat I w) fun b hq => ht.other b fun e => ?_).imp' fun _ _ _ hx => famEv.agree _ _ _ _ _ _ hI hx
    obtain ⟨_, _, cur, hc⟩ := h.log.at hq
    rw [e, h.box] at hc; cases hc
set_option maxRecDepth 100000 in
theorem compact_any {D : Dom} {g : Nat} {S : St} {w : World} (h : StoreAt D w g S) (rev : Int) : Calls Tryz.prog 61 #[.pointer (some ⟨g, 0, none⟩), .int .i64 rev] w fun e w' => e = .returned (.int .i64 (compactE S rev)) ∧ StoreAt D w' g (compact S rev) ∧ Only D w w' := by
  obtain ⟨M, I, mb, nn, f, vlog, hin, hD⟩ := h
  have cc := fun i => cell_block hin.box i
  have fz := fun i => free_block hin.box i
  obtain ⟨n, hn⟩ : ∃ n, S.rev = n := ⟨_, rfl⟩
  obtain ⟨c, hc⟩ : ∃ c, S.comp = c := ⟨_, rfl⟩
  obtain ⟨E, HE⟩ : ∃ E, Hid (compactE S rev = E) := ⟨_, Lib.hid rfl⟩
  rw [HE.out]
  have HTE : Hid (E = if (n : Int) < rev ∨ rev < c then 1 else 0) := Lib.hid (by rw [← HE.out, ← hn, ← hc]; rfl)
  have HIn := Lib.hid hin
  have HD := Lib.hid hD
  have HB := Lib.hid hin.box
  have hdd := cc
  rw [hn, hc] at cc
  clear hin hD hdd hn hc
  by_cases h1 : (n : Int) < rev
  · have e1 : E = 1 := by rw [HTE.out, if_pos (.inl h1)]
    subst e1
    have Hc : Hid (compact S rev = S) := Lib.hid (by unfold compact; rw [HE.out]; rfl)
    clear HTE HE
    go_enter Tryz.func61, Tryz.ntmps61
    go_wp2_with fail
    go_ret
    exact ⟨rfl, by rw [Hc.out]; exact ⟨M, I, mb, nn, f, vlog, HIn.out, HD.out⟩, Only.refl _ _⟩
  · by_cases h2 : rev < c
    · have e1 : E = 1 := by rw [HTE.out, if_pos (.inr h2)]
      subst e1
      have Hc : Hid (compact S rev = S) := Lib.hid (by unfold compact; rw [HE.out]; rfl)
      clear HTE HE
      go_enter Tryz.func61, Tryz.ntmps61
      go_wp2_with fail
      go_ret
      exact ⟨rfl, by rw [Hc.out]; exact ⟨M, I, mb, nn, f, vlog, HIn.out, HD.out⟩, Only.refl _ _⟩
    · have e1 : E = 0 := by rw [HTE.out, if_neg (by omega)]
      subst e1
      have Hc : Hid (compact S rev = { S with comp := rev }) := Lib.hid (by unfold compact; rw [HE.out]; rfl)
      clear HTE HE
      obtain ⟨t1, t2⟩ := touch_setCell (i := 1) (v := .int .i64 rev) HB.out
      have HT1 := Lib.hid t1
      have HT2 := Lib.hid t2
      clear t1 t2
      go_enter Tryz.func61, Tryz.ntmps61
      go_wp2_with fail
      go_ret
      refine ⟨rfl, ?_, Only.touch HT2.out ((HD.out g).2 (.inl HIn.out.gM))⟩
      rw [Hc.out]
      exact ⟨M, I, mb, nn, f, vlog, HIn.out.turn (S' := { S with comp := rev }) HT2.out rfl HT1.out, HD.out⟩
end Sto
end Go.Proofs.YtnnceaapodgfbaaGreatDoor
namespace Go.Proofs.YtnnceaapodgfbaaGreatDoor
namespace Sto
open Go.RowKit
def nilS : Value := .slice none 0 0
def noW : Value := objW noObj nilS nilS nilS
def noA : Array Value := #[.string { data := #[] }, .string { data := #[] }, .string { data := #[] }, .slice none 0 0, .slice none 0 0, .slice none 0 0, .bool false, .string { data := #[] }, .int .i64 0, .string { data := #[] }]
theorem objA_ones {D : Dom} {w : World} {v1 v2 v3 : Value} {x : GObject} (h : ObjIn D w v1 v2 v3 x) : (objCs x v1 v2 v3).toArray.all (·.oneCell') = true := by
  rw [List.all_toArray]
  exact List.all_eq_true.2 h.ones
theorem StoreIn.look {M I : Dom} {w : World} {g mb n : Nat} {f : GKey → Option Value} {vlog : Value} {S : St} (h : StoreIn M I w g mb n f vlog S) (k : GKey) (hk : okKey k) :
    ∃ va vn vc, (∀ w', Below w.heap.size w w' → (Instr.lookup 108 (.map (some mb)) (keyV k) false).run Tryz.prog w' = .ok (.slice va vn vc) w') ∧ vn = (hits S.log k).length ∧ OwnAt (VerX I w) 12 w 0 163 (.slice va vn vc) (hits S.log k) := by
  have hl := fun w' (hb : Below w.heap.size w w') => ((h.map.belowW hb).look (t := 108) (e := 159) Tryz.underlying108 (Tryz.zeroVers w') k hk).2
  cases hf : f k with
  | none =>
    rw [hf] at hl
    have h1 := h.no k hf
    exact ⟨none, 0, 0, hl, by rw [h1]; rfl, by rw [h1]; exact OwnAt.nil _⟩
  | some v =>
    rw [hf] at hl
    have h1 := (h.chain k v hf).1
    obtain ⟨va, vc, rfl, -, -⟩ := h1.row.len
    exact ⟨va, _, vc, hl, rfl, h1⟩
theorem curL_last {l : List GEvent} {k : GKey} {e : GEvent} (h : (hits l k).getLast? = some e) : cur l k = shown e := by unfold cur shown; rw [h]
set_option maxRecDepth 100000 in
set_option maxHeartbeats 1600000 in
theorem last_any {M I : Dom} {w : World} {g mb n : Nat} {f : GKey → Option Value} {vlog : Value} {S : St} (h : StoreIn M I w g mb n f vlog S) (k : GKey) (hk : okKey k) (hS : S.rev ≤ 4194304) :
    Calls Tryz.prog 50 #[.pointer (some ⟨g, 0, none⟩), .agg #[.string k.kind, .string k.space, .string k.name]] w fun e w' => Below w.heap.size w w' ∧ ((cur S.log k = none ∧ e = .returned (.tuple #[noW, .bool false])) ∨ ∃ o v1 v2 v3, cur S.log k = some o ∧ e = .returned (.tuple #[objW o v1 v2 v3, .bool true]) ∧ ObjIn I w v1 v2 v3 o) := by
  obtain ⟨va, vn, vc, hlook, hvn, hrow⟩ := h.look k hk
  have hvl : vn ≤ 4194304 := by rw [hvn]; exact Nat.le_trans (List.length_filter_le _ _) hS
  obtain ⟨w1, hw1⟩ : ∃ w1, w1 = (w.alloc (.cells #[.string k.kind, .string k.space, .string k.name] 24)).alloc (.cells noA 30) := ⟨_, rfl⟩
  obtain ⟨gk, hgk⟩ : ∃ gk, gk = w.heap.size := ⟨_, rfl⟩
  obtain ⟨go, hgo⟩ : ∃ go, go = w.heap.size + 1 := ⟨_, rfl⟩
  have bk : w1.heap[gk]? = some (.cells #[.string k.kind, .string k.space, .string k.name] 24 (0, 0)) := by rw [hw1, hgk]; exact heap_alloc_old (heap_alloc_new w _)
  have bo : w1.heap[go]? = some (.cells noA 30 (0, 0)) := by rw [hw1, hgo]; exact heap_alloc_at (World.size_alloc _ _).symm
  have hb1 : Below w.heap.size w w1 := by rw [hw1]; exact ((Below.refl _ w).alloc (Nat.le_refl _) _).alloc (by rw [World.size_alloc]; omega) _
  have bg := below_block hb1 h.box
  have cg := fun i => cell_block bg i
  have ck := fun i => cell_block bk i
  have hgw : w.heap.size ≤ go := by omega
  have Hlook := Lib.hid hlook
  have HR := Lib.hid hrow
  have Hvn := Lib.hid hvn
  have BO := Lib.hid bo
  have HB1 := Lib.hid hb1
  clear h hk hlook hrow hvn bo hb1 bk bg hS
  go_enter Tryz.func50, Tryz.ntmps50
  go_upto_region 1 with fail
  have hex : ((w.alloc (.cells #[.string k.kind, .string k.space, .string k.name] 24)).alloc (.cells #[.string { data := #[] }, .string { data := #[] }, .string { data := #[] }, .slice none 0 0, .slice none 0 0, .slice none 0 0, .bool false, .string { data := #[] }, .int .i64 0, .string { data := #[] }] 30)) = w1 := hw1.symm
  rw [hex]
  try rw [← hgo]
  rw [← hgk]
  have hlk : ∀ n, (Instr.lookup 108 (.map (some mb)) (.agg #[.string k.kind, .string k.space, .string k.name]) false).run Tryz.prog (w1.drewN n) = .ok (.slice va vn vc) (w1.drewN n) := fun n => Hlook.out (w1.drewN n) (drewB HB1.out n)
  clear hw1 hex hgk hgo Hlook
  go_quiet (fail)
  have HB2 := Lib.hid (drewB HB1.out nq)
  have BO2 : Hid ((w1.drewN nq).heap[go]? = some (.cells noA 30 (0, 0))) := BO
  obtain ⟨w2, hw2⟩ : ∃ w2, w1.drewN nq = w2 := ⟨_, rfl⟩
  rw [hw2] at HB2 BO2 ⊢
  clear hw2 hlk cg ck HB1 BO
  by_cases h0 : vn = 0
  · subst h0
    have Hc : Hid (cur S.log k = none) := Lib.hid (by unfold cur; rw [List.eq_nil_of_length_eq_zero Hvn.out.symm]; rfl)
    clear HR Hvn
    go_wp2_with (refine wpList_store_box (by rfl) _ _ _ (by rfl) go noA (by rfl) (by rfl) _ _ (by exact BO2.out) (by exact Tryz.sizeObj) (by rfl) (by simp [Value.oneCell', noA]) ?_)
    intro WF bF tF
    have HF := Lib.hid (tF.below HB2.out hgw)
    go_wp2_with fail
    refine bodyPost_ret (v := .tuple #[.agg noA, .bool false]) ?_ rfl ?_
    · exact results_two_box Tryz.results50 _ _ go _ _ _ _ (by rfl) bF Tryz.underlying30 rfl (by exact Tryz.sizeObj)
    · exact ⟨HF.out, .inl ⟨Hc.out, rfl⟩⟩
  · obtain ⟨m, rfl⟩ : ∃ m, vn = m + 1 := ⟨vn - 1, by omega⟩
    obtain ⟨e, he⟩ : ∃ e, (hits S.log k)[m]? = some e := ⟨(hits S.log k)[m]'(by rw [← Hvn.out]; omega), List.getElem?_eq_getElem _⟩
    have hlast : (hits S.log k).getLast? = some e := by rw [List.getLast?_eq_getElem?, ← Hvn.out]; exact he
    have Hcur := Lib.hid (curL_last hlast)
    obtain ⟨b, o, c', hv, _, _, hbs, hcell⟩ := HR.out.row.form (by rw [← Hvn.out]; omega) (by omega)
    injection hv with u1 u2 u3
    subst u1
    clear u2 u3
    obtain ⟨ds, _, hcc, v1, v2, v3, rfl, hobj⟩ := hcell m e he
    have e11 : w2.cell? ⟨b, o + m * 12 + 11, none⟩ = some (.bool (decide (e.kind = 3))) := (HB2.out.cell (p := ⟨b, _, none⟩) hbs).trans (hcc 11 _ rfl)
    have ec : ∀ i u, (objCs e.object v1 v2 v3)[i]? = some u → w2.cell? ⟨b, o + m * 12 + 1 + i, none⟩ = some u := fun i u hu => (HB2.out.cell (p := ⟨b, _, none⟩) hbs).trans (by
      have h9 := hcc (1 + i) u (by rw [Nat.add_comm 1 i, List.getElem?_cons_succ, List.getElem?_append_left (List.getElem?_eq_some_iff.1 hu).1]; exact hu)
      rw [← Nat.add_assoc] at h9; exact h9)
    have q1 : (0 : Int) ≤ ((m + 1 : Nat) : Int) - 1 := by omega
    have q2 : ((m + 1 : Nat) : Int) - 1 < ((m + 1 : Nat) : Int) := by omega
    have q3 : ((((m + 1 : Nat) : Int) - 1)).toNat = m := by omega
    have Hobj := Lib.hid hobj
    clear hcc hcell hobj HR hlast he Hvn
    cases hk3 : decide (e.kind = 3) with
    | true =>
      rw [hk3] at e11
      have Hc : Hid (cur S.log k = none) := Lib.hid (by rw [Hcur.out]; unfold shown; rw [if_pos (of_decide_eq_true hk3)])
      clear hk3 ec Hcur
      go_wp2_with (refine wpList_store_box (by rfl) _ _ _ (by rfl) go noA (by rfl) (by rfl) _ _ (by exact BO2.out) (by exact Tryz.sizeObj) (by rfl) (by simp [Value.oneCell', noA]) ?_)
      intro WF bF tF
      have HF := Lib.hid (tF.below HB2.out hgw)
      go_wp2_with fail
      refine bodyPost_ret (v := .tuple #[.agg noA, .bool false]) ?_ rfl ?_
      · exact results_two_box Tryz.results50 _ _ go _ _ _ _ (by rfl) bF Tryz.underlying30 rfl (by exact Tryz.sizeObj)
      · exact ⟨HF.out, .inl ⟨Hc.out, rfl⟩⟩
    | false =>
      rw [hk3] at e11
      have Hc : Hid (cur S.log k = some e.object) := Lib.hid (by rw [Hcur.out]; unfold shown; rw [if_neg (of_decide_eq_false hk3)])
      clear hk3 Hcur
      have f0 := ec 0 _ rfl
      have f1 := ec 1 _ rfl
      have f2 := ec 2 _ rfl
      have f3 := ec 3 _ rfl
      have f4 := ec 4 _ rfl
      have f5 := ec 5 _ rfl
      have f6 := ec 6 _ rfl
      have f7 := ec 7 _ rfl
      have f8 := ec 8 _ rfl
      have f9 := ec 9 _ rfl
      rw [Nat.add_zero] at f0
      clear ec
      go_wp2_with (refine wpList_store_box (by rfl) _ _ _ (by rfl) go (objCs e.object v1 v2 v3).toArray (by rfl) (by rfl) _ _ (by exact BO2.out) (by exact Tryz.sizeObj) (by rfl) (objA_ones Hobj.out) ?_)
      intro WF bF tF
      have HF := Lib.hid (tF.below HB2.out hgw)
      go_wp2_with fail
      refine bodyPost_ret (v := .tuple #[objW e.object v1 v2 v3, .bool true]) ?_ rfl ?_
      · exact results_two_box Tryz.results50 _ _ go _ _ _ _ (by rfl) bF Tryz.underlying30 rfl (by exact Tryz.sizeObj)
      · exact ⟨HF.out, .inr ⟨_, _, _, _, Hc.out, rfl, Hobj.out⟩⟩
end Sto
end Go.Proofs.YtnnceaapodgfbaaGreatDoor
namespace Go.Proofs.YtnnceaapodgfbaaGreatDoor
namespace Sto
open Go.RowKit
def PutD (f : GKey → Option Value) (k : GKey) (g mb : Nat) (vlog : Value) : Dom := fun b => b = g ∨ b = mb ∨ ((f k).getD nilS).ownBlock = some b ∨ vlog.ownBlock = some b
section
variable {M I J : Dom} {w w' : World} {g mb nn : Nat} {f : GKey → Option Value} {vlog vlog' vn : Value} {S : St} {kind : Int} {o : GObject}
theorem StoreIn.putM (h : StoreIn M I w g mb nn f vlog S) {k : GKey} {b : Nat} (hb : PutD f k g mb vlog b) : M b := by
  rcases hb with rfl | rfl | hb | hb
  · exact h.gM
  · exact h.mbM
  · cases hf : f k with
    | none => rw [hf] at hb; cases hb
    | some v => rw [hf] at hb; exact (h.chain k v hf).2 b hb
  · exact h.logM b hb
theorem StoreIn.chainAt (h : StoreIn M I w g mb nn f vlog S) {k : GKey} {b : Nat} (hb : ((f k).getD nilS).ownBlock = some b) : ∃ v, f k = some v ∧ v.ownBlock = some b := by
  cases hf : f k with
  | none => rw [hf] at hb; cases hb
  | some v => rw [hf] at hb; exact ⟨v, rfl, hb⟩
theorem StoreIn.chain_ne (h : StoreIn M I w g mb nn f vlog S) {k : GKey} {v : Value} (hf : f k = some v) {b : Nat} (hb : v.ownBlock = some b) : b ≠ g ∧ b ≠ mb ∧ vlog.ownBlock ≠ some b ∧ b < w.heap.size := by
  obtain ⟨_, hlt, cur, hc⟩ := (h.chain k v hf).1.at hb
  refine ⟨fun e => ?_, fun e => ?_, fun e => ?_, hlt⟩
  · rw [e, h.box] at hc; cases hc
  · obtain ⟨es, ck, h9⟩ := h.map.isMap
    rw [e, h9] at hc; cases hc
  · obtain ⟨_, _, cur2, hc2⟩ := h.log.at e
    rw [hc] at hc2; cases hc2
theorem put_end (h : StoreIn M I w g mb nn f vlog S) (hJ : ∀ b, J b → b < w.heap.size ∧ ¬ M b) (hO : Only (PutD f o.okey g mb vlog) w w')
    (hbox : w'.heap[g]? = some (.cells #[.int .i64 (put S kind o).rev, .int .i64 S.comp, .map (some mb), .int .i64 (live (put S kind o).log), vlog'] 110 (0, 0)))
    (hmap : MapK keyC w' mb (nn + 1) (updK f o.okey vn))
    (hrow : OwnAt (VerX (fun b => I b ∨ J b) w) 12 w' 0 163 vn (hits S.log o.okey ++ [(⟨kind, (S.rev : Int) + 1, putO (S.rev + 1) kind o⟩ : GEvent)])) (hvn : ∀ q, vn.ownBlock = some q → ((f o.okey).getD nilS).ownBlock = some q ∨ w.heap.size ≤ q)
    (hlog : OwnAt (EvX (fun b => I b ∨ J b) w) 12 w' 0 56 vlog' (S.log ++ [(⟨kind, (S.rev : Int) + 1, putO (S.rev + 1) kind o⟩ : GEvent)])) (hvl : ∀ q, vlog'.ownBlock = some q → vlog.ownBlock = some q ∨ w.heap.size ≤ q) :
    StoreIn (fun b => M b ∨ vn.ownBlock = some b ∨ vlog'.ownBlock = some b) (fun b => I b ∨ J b) w' g mb (nn + 1) (updK f o.okey vn) vlog' (put S kind o) := by
  have hIJ : ∀ b, I b ∨ J b → b < w.heap.size ∧ ¬ M b := fun b hb => hb.elim (fun hb => ⟨h.low b (.inr hb), fun hm => h.apart b hm hb⟩) (hJ b)
  have hag : Agree (fun b => I b ∨ J b) w w' := hO.agree fun b hb => ⟨(hIJ b hb).1, fun hp => (hIJ b hb).2 (h.putM hp)⟩
  have hh : ∀ k, hits (put S kind o).log k = if o.okey = k then hits S.log k ++ [(⟨kind, (S.rev : Int) + 1, putO (S.rev + 1) kind o⟩ : GEvent)] else hits S.log k := fun k => by
    unfold put
    dsimp only
    rw [hits_append]
    by_cases hk : o.okey = k
    · rw [if_pos hk]
      congr 1
      unfold hits
      rw [List.filter_cons_of_pos (by exact decide_eq_true hk)]; rfl
    · rw [if_neg hk]
      have : hits [(⟨kind, (S.rev : Int) + 1, putO (S.rev + 1) kind o⟩ : GEvent)] k = [] := by
        unfold hits
        rw [List.filter_cons_of_neg (by rw [decide_eq_true_iff]; exact hk)]; rfl
      rw [this, List.append_nil]
  have hvnM : ∀ q, vn.ownBlock = some q → M q ∨ w.heap.size ≤ q := fun q hq => (hvn q hq).imp (fun e => h.putM (k := o.okey) (.inr (.inr (.inl e)))) id
  have hvlM : ∀ q, vlog'.ownBlock = some q → M q ∨ w.heap.size ≤ q := fun q hq => (hvl q hq).imp (fun e => h.logM q e) id
  have oldc : ∀ k v, k ≠ o.okey → f k = some v → ∀ b, v.ownBlock = some b → w'.heap[b]? = w.heap[b]? := fun k v hk hf b hb => by
    obtain ⟨n1, n2, n3, n4⟩ := h.chain_ne hf hb
    refine hO.block b n4 fun hp => ?_
    rcases hp with e | e | e | e
    · exact n1 e
    · exact n2 e
    · obtain ⟨v2, f2, b2⟩ := h.chainAt e
      exact h.own k o.okey v v2 hf f2 hk b hb b2
    · exact n3 e
  refine ⟨.inl h.gM, .inl h.mbM, fun b hb hI => ?_, fun b hb => ?_, hbox, hmap, ?_, fun k v hk => ?_, fun k hk => ?_, fun k k' v v' hk hk' hne b hb hb' => ?_, ?_, fun b hb => .inr (.inr hb)⟩
  · obtain ⟨i1, i2⟩ := hIJ b hI
    rcases hb with hb | hb | hb
    · exact i2 hb
    · rcases hvnM b hb with e | e
      · exact i2 e
      · omega
    · rcases hvlM b hb with e | e
      · exact i2 e
      · omega
  · have hs := hO.size
    rcases hb with (hb | hb | hb) | hb
    · exact Nat.lt_of_lt_of_le (h.low b (.inl hb)) hs
    · exact (hrow.at hb).2.1
    · exact (hlog.at hb).2.1
    · exact Nat.lt_of_lt_of_le (hIJ b hb).1 hs
  · have := h.many
    show nn + 1 ≤ (put S kind o).rev
    rw [show (put S kind o).rev = S.rev + 1 from by unfold put St.rev; dsimp only; rw [List.length_append]; rfl]
    omega
  · rw [hh]
    by_cases hko : k = o.okey
    · subst hko
      rw [updK_same] at hk
      cases hk
      rw [if_pos rfl]
      exact ⟨hrow.imp' fun _ _ _ hx => famVer.agree _ _ _ _ _ _ hag hx, fun b hb => .inr (.inl hb)⟩
    · rw [updK_other f vn hko] at hk
      rw [if_neg (fun e => hko e.symm)]
      obtain ⟨h1, h2⟩ := h.chain k v hk
      exact ⟨(h1.stay (famVer.flat I w) fun b hb => oldc k v hko hk b hb).imp' fun _ _ _ hx => famVer.agree _ _ _ _ _ _ hag (famVer.mono _ _ _ _ _ _ (fun b hb => Or.inl hb) hx), fun b hb => .inl (h2 b hb)⟩
  · rw [hh]
    by_cases hko : k = o.okey
    · subst hko; rw [updK_same] at hk; cases hk
    · rw [updK_other f vn hko] at hk
      rw [if_neg (fun e => hko e.symm)]
      exact h.no k hk
  · have far : ∀ k v, k ≠ o.okey → f k = some v → v.ownBlock = some b → vn.ownBlock ≠ some b := fun k v hk hf hb hn => by
      rcases hvn b hn with e | e
      · obtain ⟨v2, f2, b2⟩ := h.chainAt e
        exact h.own k o.okey v v2 hf f2 hk b hb b2
      · have := (h.chain_ne hf hb).2.2.2
        omega
    by_cases hko : k = o.okey
    · by_cases hko' : k' = o.okey
      · exact hne (hko.trans hko'.symm)
      · rw [hko, updK_same] at hk
        rw [updK_other f vn hko'] at hk'
        cases hk
        exact far k' v' hko' hk' hb' hb
    · rw [updK_other f vn hko] at hk
      by_cases hko' : k' = o.okey
      · rw [hko', updK_same] at hk'
        cases hk'
        exact far k v hko hk hb hb'
      · rw [updK_other f vn hko'] at hk'
        exact h.own k k' v v' hk hk' hne b hb hb'
  · exact hlog.imp' fun _ _ _ hx => famEv.agree _ _ _ _ _ _ hag hx
end
end Sto
end Go.Proofs.YtnnceaapodgfbaaGreatDoor
namespace Go.Proofs.YtnnceaapodgfbaaGreatDoor
open Go.RowKit
theorem strAt_getD {l : List ByteArray} {j : Nat} (hj : j < l.length) : l[j]? = some (l.getD j ByteArray.empty) := by simp [List.getD, hj]
set_option maxRecDepth 100000 in
theorem contains_any (v : Value) (l : List ByteArray) (x : ByteArray) (w : World) (h : StrAt w v l) (hl : l.length ≤ 1073741824) : Calls Tryz.prog 56 #[v, .string x] w fun e w' => e = .returned (.bool (Lib.containsS l x)) ∧ w = w' := by
  rcases Nat.eq_zero_or_pos l.length with h0 | h0
  · obtain rfl := nil_of_len h0
    obtain ⟨ao, c, rfl, _, _⟩ := h.len
    exact (Tryz.slices_Contains_string_empty ao c x w).mono fun e w' ⟨h1, h2⟩ => ⟨by rw [h1]; rfl, h2.symm⟩
  · obtain ⟨b, o, c, rfl, _, _, _, hc⟩ := h.form h0
    refine (Tryz.slices_Contains_string b o l.length c l x w (Nat.le_refl _) (by omega) fun j hj => hc j _ (strAt_getD hj)).mono fun e w' ⟨h1, h2⟩ => ⟨?_, h2.symm⟩
    rw [h1, List.take_of_length_le (Nat.le_refl _)]
end Go.Proofs.YtnnceaapodgfbaaGreatDoor
namespace Go.Proofs.YtnnceaapodgfbaaGreatDoor
namespace Sto
open Go.RowKit
theorem str_take {w : World} {ao : Option Addr} {n c : Nat} {l : List ByteArray} (h : StrAt w (.slice ao n c) l) {i : Nat} (hi : i ≤ l.length) : StrAt w (.slice ao i c) (l.take i) := by
  rcases h with ⟨h1, rfl⟩ | ⟨a, c', h1, h2, h3, h4⟩
  · cases h1
    obtain rfl : i = 0 := by simpa using hi
    exact .inl ⟨rfl, by simp⟩
  · injection h1 with u1 u2 u3
    subst u1 u3
    have hlen : (l.take i).length = i := by rw [List.length_take]; omega
    refine .inr ⟨a, c, by rw [hlen], by omega, h3, fun j x hx => ?_⟩
    have hj : j < i := by have := (List.getElem?_eq_some_iff.1 hx).1; omega
    rw [List.getElem?_take_of_lt hj] at hx
    exact h4 j x hx
def twI (l : List ByteArray) (i : Nat) : Int := if (l.take i).Nodup then 0 else 5
theorem tw_step {l : List ByteArray} {i : Nat} {h : ByteArray} (hi : l[i]? = some h) (b : Int) : says b (twI l (i + 1)) = if Lib.containsS (l.take i) h = true then says (says b (twI l i)) 5 else says b (twI l i) := by
  have hnd : (l.take (i + 1)).Nodup ↔ (l.take i).Nodup ∧ h ∉ l.take i := by
    rw [List.take_add_one, hi]
    show (l.take i ++ [h]).Nodup ↔ _
    rw [List.nodup_append]
    constructor
    · rintro ⟨h1, _, h3⟩; exact ⟨h1, fun hm => h3 h hm h (List.mem_cons_self ..) rfl⟩
    · rintro ⟨h1, h2⟩; exact ⟨h1, List.nodup_cons.2 ⟨by simp, List.nodup_nil⟩, fun a ha c hc e => by rw [List.mem_singleton] at hc; subst hc; subst e; exact h2 ha⟩
  unfold twI
  by_cases hc : Lib.containsS (l.take i) h = true
  · rw [if_pos hc, if_neg (fun h9 => (hnd.1 h9).2 ((Lib.containsS_iff _ _).1 hc))]
    split
    · rw [says_zero]
    · unfold says; by_cases hb : b = 0 <;> simp [hb]
  · rw [if_neg hc]
    have hno : h ∉ l.take i := fun hm => hc ((Lib.containsS_iff _ _).2 hm)
    by_cases hd : (l.take i).Nodup
    · rw [if_pos (hnd.2 ⟨hd, hno⟩), if_pos hd]
    · rw [if_neg (fun h9 => hd (hnd.1 h9).1), if_neg hd]
theorem bad_cell {g : Nat} {w : World} {b : Int} (h : IsBad g w b) : w.cell? ⟨g, 0, none⟩ = some (.int .i64 b) := cell_block h 0
def bigO (n m : Nat) : Int := if 4 < n ∨ 4 < m then 2 else 0
set_option maxRecDepth 100000 in
set_option maxHeartbeats 6400000 in
theorem checkObj_any (o : GObject) (v1 v2 v3 : Value) (w : World) (hl : RowAt LabelR 2 w v1 o.labels) (ho : StrAt w v2 o.owners) (hh : StrAt w v3 o.holds) (hok : OkObj o) (ht : TabOK w) (hm : ∃ m, MaxOK m w) :
    Calls Tryz.prog 18 #[objW o v1 v2 v3] w fun e w' => e = .returned (.int .i64 (objE o)) ∧ Below w.heap.size w w' := by
  obtain ⟨mx, hmx⟩ := hm
  obtain ⟨a1, c1, rfl, -, -⟩ := hl.len
  obtain ⟨a2, c2, rfl, -, -⟩ := ho.row.len
  obtain ⟨a3, c3, rfl, hc3, -⟩ := hh.row.len
  obtain ⟨n1, Hn1⟩ : ∃ n, Hid (o.labels.length = n) := ⟨_, Lib.hid rfl⟩
  obtain ⟨n2, Hn2⟩ : ∃ n, Hid (o.owners.length = n) := ⟨_, Lib.hid rfl⟩
  obtain ⟨n3, Hn3⟩ : ∃ n, Hid (o.holds.length = n) := ⟨_, Lib.hid rfl⟩
  rw [Hn1.out] at hl
  rw [Hn2.out] at ho
  rw [Hn3.out] at hh hc3
  rw [Hn1.out, Hn2.out, Hn3.out]
  obtain ⟨kc, Hkc⟩ : ∃ x, Hid (keyK o.okey = x) := ⟨_, Lib.hid rfl⟩
  obtain ⟨lc, Hlc⟩ : ∃ x, Hid (labelsE o.labels = x) := ⟨_, Lib.hid rfl⟩
  obtain ⟨ce, Hce⟩ : ∃ x, Hid (JP.canonE o.doc.data.toList = x) := ⟨_, Lib.hid rfl⟩
  obtain ⟨ct, Hct⟩ : ∃ x, Hid (JP.canonT o.doc.data.toList = x) := ⟨_, Lib.hid rfl⟩
  obtain ⟨fo, Hfo⟩ : ∃ x, Hid (firstBad (o.owners.map chk) = x) := ⟨_, Lib.hid rfl⟩
  obtain ⟨fh, Hfh⟩ : ∃ x, Hid (firstBad (o.holds.map chk) = x) := ⟨_, Lib.hid rfl⟩
  obtain ⟨R, HR⟩ : ∃ x, Hid (objE o = x) := ⟨_, Lib.hid rfl⟩
  rw [HR.out]
  have HRe : Hid (R = if says (says kc lc) (bigO n2 n3) ≠ 0 then says (says kc lc) (bigO n2 n3) else says (says (says fo fh) (twI o.holds n3)) ce) := Lib.hid (by
    rw [← HR.out, ← Hkc.out, ← Hlc.out, ← Hce.out, ← Hfo.out, ← Hfh.out, ← Hn2.out, ← Hn3.out]
    unfold twI
    rw [List.take_of_length_le (Nat.le_refl _)]
    rfl)
  have HL := Lib.hid hl
  have HO := Lib.hid ho
  have HH := Lib.hid hh
  have Hok := Lib.hid hok
  have HT := Lib.hid ht
  have HM := Lib.hid hmx
  obtain ⟨w1, hw1⟩ : ∃ w1, w1 = (w.alloc (.cells #[.string o.okey.kind, .string o.okey.space, .string o.okey.name, .slice a1 n1 c1, .slice a2 n2 c2, .slice a3 n3 c3, .bool o.ending, .string o.uid, .int .i64 o.rev, .string o.doc] 30)).alloc (.cells #[.int .i64 0] 113) := ⟨_, rfl⟩
  obtain ⟨gb, hgb⟩ : ∃ gb, gb = w.heap.size := ⟨_, rfl⟩
  obtain ⟨gc, hgc⟩ : ∃ gc, gc = w.heap.size + 1 := ⟨_, rfl⟩
  have B1 : Hid (w1.heap[gb]? = some (.cells #[.string o.okey.kind, .string o.okey.space, .string o.okey.name, .slice a1 n1 c1, .slice a2 n2 c2, .slice a3 n3 c3, .bool o.ending, .string o.uid, .int .i64 o.rev, .string o.doc] 30 (0, 0))) := Lib.hid (by rw [hw1, hgb]; exact heap_alloc_old (heap_alloc_new w _))
  have C1 : Hid (IsBad gc w1 0) := Lib.hid (by unfold IsBad; rw [hw1, hgc]; exact heap_alloc_at (World.size_alloc _ _).symm)
  have hb1 : Below w.heap.size w w1 := by rw [hw1]; exact ((Below.refl _ w).alloc (Nat.le_refl _) _).alloc (by rw [World.size_alloc]; omega) _
  have hs1 : w1.heap.size = w.heap.size + 2 := by rw [hw1, World.size_alloc, World.size_alloc]
  have Hb1 := Lib.hid hb1
  have hne : gb ≠ gc := by omega
  have hwb : w.heap.size ≤ gb := by omega
  have hwc : w.heap.size ≤ gc := by omega
  have hgl : gc < w1.heap.size := by omega
  have N1 : Hid (∀ w', But gc w1 w' → Below w.heap.size w w' ∧ w'.heap[gb]? = some (.cells #[.string o.okey.kind, .string o.okey.space, .string o.okey.name, .slice a1 n1 c1, .slice a2 n2 c2, .slice a3 n3 c3, .bool o.ending, .string o.uid, .int .i64 o.rev, .string o.doc] 30 (0, 0))) := Lib.hid fun w' hb => ⟨hb.below Hb1.out (by omega) hwc, hb.keep B1.out hne⟩
  clear hl ho hh hok ht hmx hb1
  rw [show objW o (.slice a1 n1 c1) (.slice a2 n2 c2) (.slice a3 n3 c3) = .agg #[.string o.okey.kind, .string o.okey.space, .string o.okey.name, .slice a1 n1 c1, .slice a2 n2 c2, .slice a3 n3 c3, .bool o.ending, .string o.uid, .int .i64 o.rev, .string o.doc] from rfl]
  go_enter Tryz.func18, Tryz.ntmps18
  go_upto_region 2 with fail
  rw [← hw1]
  try rw [← hgc]
  rw [← hgb]
  clear hw1 hgb hgc
  -- says(CheckKey)
  have cc := fun i => cell_block B1.out i
  have HK := Lib.hid (key_any o.okey.kind o.okey.space o.okey.name w1 (by have := Hok.out.kind; omega) (by have := Hok.out.space; omega) (by have := Hok.out.name; omega))
  have hkc : AuP.keyE o.okey.kind.data.toList o.okey.space.data.toList o.okey.name.data.toList = kc := Hkc.out
  rw [hkc] at HK
  clear hkc
  go_wp2_with fail
  refine HK.out.mono ?_
  rintro E w2 ⟨rfl, hb2⟩
  have HS := Lib.hid (says_any gc 0 kc w2 (C1.out.below hb2))
  have K2 := Lib.hid (But.of (g := gc) hb2)
  clear hb2 HK cc
  go_wp2_with fail
  refine HS.out.mono ?_
  rintro E w3 ⟨rfl, hbd, hbt⟩
  rw [zero_says] at hbd
  have C3 := Lib.hid hbd
  have K3 := Lib.hid (K2.out.trans hbt)
  clear hbd hbt HS K2
  -- says(CheckLabels)
  have cc := fun i => cell_block (N1.out w3 K3.out).2 i
  have HLb := Lib.hid (labels_any (.slice a1 n1 c1) o.labels mx w3 (HL.out.below stays_label (N1.out w3 K3.out).1) (by have := Hok.out.labels.1; omega) Hok.out.labels.2 (HM.out.below (N1.out w3 K3.out).1))
  rw [Hlc.out] at HLb
  go_wp2_with fail
  refine HLb.out.mono ?_
  rintro E w4 ⟨rfl, hb4⟩
  have HS := Lib.hid (says_any gc kc lc w4 (C3.out.below hb4))
  have K4 := Lib.hid (K3.out.trans (But.of (g := gc) hb4))
  clear hb4 HLb cc
  go_wp2_with fail
  refine HS.out.mono ?_
  rintro E w5 ⟨rfl, hbd, hbt⟩
  have C5 := Lib.hid hbd
  have K5 := Lib.hid (K4.out.trans hbt)
  clear hbd hbt HS K4
  have cc := fun i => cell_block (N1.out w5 K5.out).2 i
  obtain ⟨b5, Hb5⟩ : ∃ x, Hid (says kc lc = x) := ⟨_, Lib.hid rfl⟩
  have HRe2 : Hid (R = if says b5 (bigO n2 n3) ≠ 0 then says b5 (bigO n2 n3) else says (says (says fo fh) (twI o.holds n3)) ce) := Lib.hid (by rw [← Hb5.out]; exact HRe.out)
  have C5b : Hid (IsBad gc w5 b5) := Lib.hid (by rw [← Hb5.out]; exact C5.out)
  clear C5 HRe Hb5 C3 K3 C1
  obtain ⟨bg, Hbg⟩ : ∃ bg, Hid (decide (4 < n2 ∨ 4 < n3) = bg) := ⟨_, Lib.hid rfl⟩
  have hbig : bigO n2 n3 = if bg = true then 2 else 0 := by
    rw [← Hbg.out]
    unfold bigO
    by_cases h : 4 < n2 ∨ 4 < n3
    · rw [if_pos h, if_pos (decide_eq_true h)]
    · rw [if_neg h, if_neg (by rw [decide_eq_false h]; decide)]
  have Hbig := Lib.hid hbig
  clear hbig
  go_upto_region 4 with fail
  go_cut [29] (fun u29 wx => u29 = .bool bg ∧ w5 = wx)
  case first =>
    by_cases h4 : 4 < n2
    · have q1 : (4 : Int) < (n2 : Int) := by omega
      have hb : bg = true := by rw [← Hbg.out]; exact decide_eq_true (.inl h4)
      subst hb
      clear Hbig Hbg
      go_wp2_with fail
      go_meet
      exact ⟨rfl, rfl⟩
    · have q1 : ¬ (4 : Int) < (n2 : Int) := by omega
      by_cases h5 : 4 < n3
      · have q2 : (4 : Int) < (n3 : Int) := by omega
        have hb : bg = true := by rw [← Hbg.out]; exact decide_eq_true (.inr h5)
        subst hb
        clear Hbig Hbg
        go_wp2_with fail
        go_meet
        exact ⟨rfl, rfl⟩
      · have q2 : ¬ (4 : Int) < (n3 : Int) := by omega
        have hb : bg = false := by rw [← Hbg.out]; exact decide_eq_false (by omega)
        subst hb
        clear Hbig Hbg
        go_wp2_with fail
        go_meet
        exact ⟨rfl, rfl⟩
  case rest =>
  obtain ⟨rfl, rfl⟩ := hcut
  go_upto_if 29 with fail
  go_cut [29] (fun u29 wx => Hid (IsBad gc wx (says b5 (bigO n2 n3))) ∧ Hid (But gc w1 wx))
  case first =>
    have hbig := Hbig.out
    cases bg with
    | true =>
      rw [if_pos rfl] at hbig
      have HS := Lib.hid (says_any gc b5 2 w5 C5b.out)
      have Hb2 := Lib.hid hbig
      clear hbig Hbig
      go_wp2_with fail
      refine HS.out.mono ?_
      rintro E w6 ⟨rfl, hbd, hbt⟩
      go_wp2_with fail
      go_meet
      exact ⟨Lib.hid (by rw [Hb2.out]; exact hbd), Lib.hid (K5.out.trans hbt)⟩
    | false =>
      rw [if_neg (by decide)] at hbig
      have Hb2 := Lib.hid hbig
      clear hbig Hbig
      go_wp2_with fail
      go_meet
      exact ⟨Lib.hid (by rw [Hb2.out, says_zero]; exact C5b.out), K5⟩
  case rest =>
  obtain ⟨C6, K6⟩ := hcut
  obtain ⟨b6, Hb6⟩ : ∃ x, Hid (says b5 (bigO n2 n3) = x) := ⟨_, Lib.hid rfl⟩
  rw [Hb6.out] at C6 HRe2
  have cg := bad_cell C6.out
  clear cc C5b K5
  by_cases h0 : b6 = 0
  · subst h0
    have HRe3 : Hid (R = says (says (says fo fh) (twI o.holds n3)) ce) := Lib.hid (by rw [HRe2.out]; exact if_neg fun h => h rfl)
    clear HRe2 Hb6
    have cc := fun i => cell_block (N1.out wc K6.out).2 i
    have HNo := Lib.hid (names_any gc 0 (.slice a2 n2 c2) o.owners wc C6.out (HO.out.below (N1.out wc K6.out).1) (fun hpos a n c he hab => by
      rcases HO.out.form hpos with ⟨b, o', c', hv, _, _, hbs, _⟩
      injection he with e1
      injection hv with e2
      rw [e2] at e1
      injection e1 with e1
      rw [← e1] at hab
      have : b = gc := hab
      omega) (fun x hx => by have := Hok.out.owners.2 x hx; omega) (by have := Hok.out.owners.1; omega))
    rw [Hfo.out, zero_says] at HNo
    go_wp2_with fail
    refine HNo.out.mono ?_
    rintro E w7 ⟨rfl, hbd, hbt⟩
    have C7 := Lib.hid hbd
    have K7 := Lib.hid (K6.out.trans hbt)
    clear hbd hbt HNo cc cg C6 K6
    have cc := fun i => cell_block (N1.out w7 K7.out).2 i
    have HNh := Lib.hid (names_any gc fo (.slice a3 n3 c3) o.holds w7 C7.out (HH.out.below (N1.out w7 K7.out).1) (fun hpos a n c he hab => by
      rcases HH.out.form hpos with ⟨b, o', c', hv, _, _, hbs, _⟩
      injection he with e1
      injection hv with e2
      rw [e2] at e1
      injection e1 with e1
      rw [← e1] at hab
      have : b = gc := hab
      omega) (fun x hx => by have := Hok.out.holds.2 x hx; omega) (by have := Hok.out.holds.1; omega))
    rw [Hfh.out] at HNh
    go_wp2_with fail
    refine HNh.out.mono ?_
    rintro E w8 ⟨rfl, hbd, hbt⟩
    have C8 := Lib.hid hbd
    have K8 := Lib.hid (K7.out.trans hbt)
    obtain ⟨b8, Hb8⟩ : ∃ x, Hid (says fo fh = x) := ⟨_, Lib.hid rfl⟩
    rw [Hb8.out] at C8 HRe3
    clear hbd hbt HNh cc C7 K7 Hb8
    have cc := fun i => cell_block (N1.out w8 K8.out).2 i
    have hn3 : n3 ≤ 1048576 := by rw [← Hn3.out]; exact Hok.out.holds.1
    go_wp2_with fail
    clear cc
    go_loopg [52] n3 (fun k u52 wr => ∃ i : Nat, i + k = n3 ∧ u52 = .int .i64 (i : Int) ∧ Hid (IsBad gc wr (says b8 (twI o.holds i))) ∧ Hid (But gc w1 wr))
    case atStart => exact ⟨0, by omega, rfl, Lib.hid (by unfold twI; rw [List.take_zero, if_pos List.nodup_nil, says_zero]; exact C8.out), K8⟩
    case round =>
      obtain ⟨i, hik, rfl, Cr, Kr⟩ := hrel
      cases gk with
      | zero =>
        obtain rfl : i = n3 := by omega
        have cc := fun i => cell_block (N1.out wr Kr.out).2 i
        have HCn := Lib.hid (canon_any o.doc wr Hok.out.doc (HT.out.below (N1.out wr Kr.out).1))
        rw [Hct.out, Hce.out] at HCn
        obtain ⟨b9, Hb9⟩ : ∃ x, Hid (says b8 (twI o.holds i) = x) := ⟨_, Lib.hid rfl⟩
        rw [Hb9.out] at Cr HRe3
        clear Hb9
        go_wp2_with fail
        refine HCn.out.mono ?_
        rintro E w10 ⟨rfl, hb10⟩
        have HS := Lib.hid (says_any gc b9 ce w10 (Cr.out.below hb10))
        have K10 := Lib.hid (Kr.out.trans (But.of (g := gc) hb10))
        clear hb10 HCn cc Cr Kr
        go_wp2_with fail
        refine HS.out.mono ?_
        rintro E w11 ⟨rfl, hbd, hbt⟩
        have C11 := Lib.hid hbd
        have K11 := Lib.hid (K10.out.trans hbt)
        have cg := bad_cell hbd
        rw [← HRe3.out] at cg
        clear hbd hbt HS K10
        go_wp2_with fail
        go_ret
        exact ⟨rfl, (N1.out w11 K11.out).1⟩
      | succ k =>
        have hil : i < n3 := by omega
        obtain ⟨x, hx⟩ : ∃ x, o.holds[i]? = some x := ⟨o.holds[i]'(by rw [Hn3.out]; exact hil), List.getElem?_eq_getElem _⟩
        have hrow := HH.out.below (N1.out wr Kr.out).1
        obtain ⟨b, o', c', hv, _, _, _, hcell⟩ := hrow.form (by rw [Hn3.out]; omega)
        injection hv with u1 u2 u3
        subst u1
        clear u2 u3
        have e0 := hcell i x hx
        have HCt := Lib.hid (contains_any _ (o.holds.take i) x wr (str_take hrow (i := i) (by rw [Hn3.out]; omega)) (by rw [List.length_take]; have := Hok.out.holds.1; omega))
        have cc := fun i => cell_block (N1.out wr Kr.out).2 i
        have q1 : (0 : Int) ≤ (i : Int) := by omega
        have q2 : (i : Int) < (n3 : Int) := by omega
        have q3 : i ≤ c3 := by omega
        have q4 : (i : Int) ≤ (c3 : Int) := by omega
        have Hst := Lib.hid (tw_step hx b8)
        obtain ⟨cn, Hcn⟩ : ∃ x', Hid (Lib.containsS (o.holds.take i) x = x') := ⟨_, Lib.hid rfl⟩
        rw [Hcn.out] at HCt Hst
        clear hcell hrow hx
        go_wp2_with fail
        refine HCt.out.mono ?_
        rintro E w9 ⟨rfl, rfl⟩
        cases cn with
        | true =>
          have hst := Hst.out
          rw [if_pos rfl] at hst
          have HS := Lib.hid (says_any gc (says b8 (twI o.holds i)) 5 wr Cr.out)
          rw [← hst] at HS
          clear hst Hst HCt cc e0
          go_wp2_with fail
          refine HS.out.mono ?_
          rintro E w10 ⟨rfl, hbd, hbt⟩
          have C10 := Lib.hid hbd
          have K10 := Lib.hid (Kr.out.trans hbt)
          clear hbd hbt HS
          go_wp2_with fail
          go_roundg k
          case measure => omega
          case rel => exact ⟨i + 1, by omega, by go_num, C10, K10⟩
        | false =>
          have hst := Hst.out
          rw [if_neg (by decide)] at hst
          have C10 : Hid (IsBad gc wr (says b8 (twI o.holds (i + 1)))) := Lib.hid (by rw [hst]; exact Cr.out)
          clear hst Hst HCt cc e0
          go_wp2_with fail
          go_roundg k
          case measure => omega
          case rel => exact ⟨i + 1, by omega, by go_num, C10, Kr⟩
  · have q0 : (b6 == 0) = false := by rw [beq_eq_false_iff_ne]; exact h0
    have HRe3 : Hid (R = b6) := Lib.hid (by rw [HRe2.out]; exact if_pos h0)
    clear HRe2 h0 Hb6
    go_wp2_with fail
    go_ret
    exact ⟨congrArg (fun x => Ending.returned (.int .i64 x)) HRe3.out.symm, (N1.out wc K6.out).1⟩
end Sto
end Go.Proofs.YtnnceaapodgfbaaGreatDoor
namespace Go.Proofs.YtnnceaapodgfbaaGreatDoor
namespace Sto
open Go.RowKit
theorem results_one_obj {fn : Func} {p : Tmp} (h : fn.results = #[.cell p 30]) (tmps : Array Value) (w : World) (g : Nat) (cs : Array Value) (hp : tmps.getD p undef = .pointer (some ⟨g, 0, none⟩)) (hg : w.heap[g]? = some (.cells cs 30 (0, 0))) (hs : cs.size = 10) :
    (results fn tmps).run Tryz.prog w = .ok (.agg cs) w := by
  have hp' : tmps[p]?.getD undef = .pointer (some ⟨g, 0, none⟩) := by simpa using hp
  have hi : (Tryz.prog.info? 30).map (·.size) = some cs.size := by rw [hs]; exact Tryz.sizeObj
  have hr := run_loadVar_row (P := Tryz.prog) w g 30 30 cs (0, 0) _ hg Tryz.underlying30 rfl hi
  simp [results, h, hp', asAddr, hr]
set_option maxRecDepth 100000 in
set_option maxHeartbeats 6400000 in
theorem kept_any (o : GObject) (v1 v2 v3 : Value) (w : World) (hl : RowAt LabelR 2 w v1 o.labels) (ho : StrAt w v2 o.owners) (hh : StrAt w v3 o.holds) (hok : OkObj o) (ht : TabOK w) :
    Calls Tryz.prog 52 #[objW o v1 v2 v3] w fun e w' => ∃ E u1 u2 u3, e = .returned (objW (keptO o) u1 u2 u3) ∧ ObjIn E w' u1 u2 u3 (keptO o) ∧ (∀ b, E b → w.heap.size ≤ b ∧ b < w'.heap.size) ∧ Below w.heap.size w w' := by
  obtain ⟨a1, c1, rfl, -, -⟩ := hl.len
  obtain ⟨a2, c2, rfl, -, -⟩ := ho.row.len
  obtain ⟨a3, c3, rfl, -, -⟩ := hh.row.len
  obtain ⟨n1, Hn1⟩ : ∃ n, Hid (o.labels.length = n) := ⟨_, Lib.hid rfl⟩
  obtain ⟨n2, Hn2⟩ : ∃ n, Hid (o.owners.length = n) := ⟨_, Lib.hid rfl⟩
  obtain ⟨n3, Hn3⟩ : ∃ n, Hid (o.holds.length = n) := ⟨_, Lib.hid rfl⟩
  rw [Hn1.out] at hl
  rw [Hn2.out] at ho
  rw [Hn3.out] at hh
  rw [Hn1.out, Hn2.out, Hn3.out]
  obtain ⟨ce, Hce⟩ : ∃ x, Hid (JP.canonE o.doc.data.toList = x) := ⟨_, Lib.hid rfl⟩
  obtain ⟨ct, Hct⟩ : ∃ x, Hid (mkB (JP.canonT o.doc.data.toList) = x) := ⟨_, Lib.hid rfl⟩
  obtain ⟨w1, hw1⟩ : ∃ w1, w1 = (w.alloc (.cells #[.string o.okey.kind, .string o.okey.space, .string o.okey.name, .slice a1 n1 c1, .slice a2 n2 c2, .slice a3 n3 c3, .bool o.ending, .string o.uid, .int .i64 o.rev, .string o.doc] 30)).alloc (.cells noA 30) := ⟨_, rfl⟩
  obtain ⟨gb, hgb⟩ : ∃ gb, gb = w.heap.size := ⟨_, rfl⟩
  obtain ⟨gr, hgr⟩ : ∃ gr, gr = w.heap.size + 1 := ⟨_, rfl⟩
  have B1 : Hid (w1.heap[gb]? = some (.cells #[.string o.okey.kind, .string o.okey.space, .string o.okey.name, .slice a1 n1 c1, .slice a2 n2 c2, .slice a3 n3 c3, .bool o.ending, .string o.uid, .int .i64 o.rev, .string o.doc] 30 (0, 0))) := Lib.hid (by rw [hw1, hgb]; exact heap_alloc_old (heap_alloc_new w _))
  have R1 : Hid (w1.heap[gr]? = some (.cells noA 30 (0, 0))) := Lib.hid (by rw [hw1, hgr]; exact heap_alloc_at (World.size_alloc _ _).symm)
  have hb1 : Below w.heap.size w w1 := by rw [hw1]; exact ((Below.refl _ w).alloc (Nat.le_refl _) _).alloc (by rw [World.size_alloc]; omega) _
  have hs1 : w1.heap.size = w.heap.size + 2 := by rw [hw1, World.size_alloc, World.size_alloc]
  have HCp : Hid (Calls Tryz.prog 65 #[.agg #[.string o.okey.kind, .string o.okey.space, .string o.okey.name, .slice a1 n1 c1, .slice a2 n2 c2, .slice a3 n3 c3, .bool o.ending, .string o.uid, .int .i64 o.rev, .string o.doc]] w1 fun E w' => ∃ vl' vo' vh', E = .returned (objV o.okey vl' vo' vh' o.ending o.uid o.rev o.doc) ∧
      OwnAt LabelR 2 w' w1.heap.size 66 vl' o.labels ∧ OwnAt RString 1 w' w1.heap.size 9 vo' o.owners ∧ OwnAt RString 1 w' w1.heap.size 9 vh' o.holds ∧ (∀ g, vh'.ownBlock = some g → vo'.ownBlock ≠ some g) ∧ Below w1.heap.size w1 w') :=
    Lib.hid (storeCopy_any o.okey (.slice a1 n1 c1) (.slice a2 n2 c2) (.slice a3 n3 c3) o.ending o.uid o.rev o.doc o.labels o.owners o.holds w1 (hl.below stays_label hb1) (ho.below hb1) (hh.below hb1) (by have := hok.labels.1; omega) (by have := hok.owners.1; omega) (by have := hok.holds.1; omega))
  have Hb1 := Lib.hid hb1
  have Hok := Lib.hid hok
  have HT := Lib.hid ht
  have hne : gb ≠ gr := by omega
  have hwb : w.heap.size ≤ gb := by omega
  have hwr : w.heap.size ≤ gr := by omega
  have hrl : gr < w.heap.size + 2 := by omega
  have hbl : gb < w.heap.size + 2 := by omega
  clear hl ho hh hok ht hb1
  rw [show objW o (.slice a1 n1 c1) (.slice a2 n2 c2) (.slice a3 n3 c3) = .agg #[.string o.okey.kind, .string o.okey.space, .string o.okey.name, .slice a1 n1 c1, .slice a2 n2 c2, .slice a3 n3 c3, .bool o.ending, .string o.uid, .int .i64 o.rev, .string o.doc] from rfl]
  go_enter Tryz.func52, Tryz.ntmps52
  go_upto_region 1 with fail
  have hex : ((w.alloc (.cells #[.string o.okey.kind, .string o.okey.space, .string o.okey.name, .slice a1 n1 c1, .slice a2 n2 c2, .slice a3 n3 c3, .bool o.ending, .string o.uid, .int .i64 o.rev, .string o.doc] 30)).alloc (.cells #[.string { data := #[] }, .string { data := #[] }, .string { data := #[] }, .slice none 0 0, .slice none 0 0, .slice none 0 0, .bool false, .string { data := #[] }, .int .i64 0, .string { data := #[] }] 30)) = w1 := hw1.symm
  rw [hex]
  try rw [← hgr]
  rw [← hgb]
  clear hw1 hex hgb hgr
  have cc := fun i => cell_block B1.out i
  go_wp2_with fail
  refine HCp.out.mono ?_
  rintro E w2 ⟨u1, u2, u3, rfl, k1, k2, k3, -, hb2⟩
  obtain ⟨d1, e1, rfl, -, -⟩ := k1.row.len
  obtain ⟨d2, e2, rfl, -, -⟩ := k2.row.len
  obtain ⟨d3, e3, rfl, -, -⟩ := k3.row.len
  have K1 := Lib.hid k1
  have K2 := Lib.hid k2
  have K3 := Lib.hid k3
  rw [Hn1.out] at K1
  rw [Hn2.out] at K2
  rw [Hn3.out] at K3
  rw [Hn1.out, Hn2.out, Hn3.out]
  have B2 := Lib.hid (below_block hb2 B1.out)
  have R2 := Lib.hid (below_block hb2 R1.out)
  have Hb2 := Lib.hid (Hb1.out.trans (hb2.mono (by omega)))
  have hs2 := hb2.size
  clear k1 k2 k3 hb2 cc HCp B1 R1
  unfold objV
  go_wp2_with (refine wpList_store_box (by rfl) _ _ _ (by rfl) gb #[.string o.okey.kind, .string o.okey.space, .string o.okey.name, .slice d1 n1 e1, .slice d2 n2 e2, .slice d3 n3 e3, .bool o.ending, .string o.uid, .int .i64 o.rev, .string o.doc] (by rfl) (by rfl) _ _ (by exact B2.out) (by exact Tryz.sizeObj) (by rfl) (by simp [Value.oneCell']) ?_)
  intro w3 b3 t3
  have B3 := Lib.hid b3
  have R3 := Lib.hid (t3.block R2.out (Ne.symm hne))
  have Hb3 := Lib.hid (t3.below Hb2.out hwb)
  have hs3 := t3.size
  have M1 := Lib.hid (K1.out.touch flat_label t3 fun q hq e => by have := (K1.out.at hq).1; omega)
  have M2 := Lib.hid (K2.out.touch flat_string t3 fun q hq e => by have := (K2.out.at hq).1; omega)
  have M3 := Lib.hid (K3.out.touch flat_string t3 fun q hq e => by have := (K3.out.at hq).1; omega)
  clear b3 t3 K1 K2 K3 B2 R2 Hb2
  have cc := fun i => cell_block B3.out i
  have HCn := Lib.hid (canon_any o.doc w3 Hok.out.doc (HT.out.below Hb3.out))
  rw [Hct.out, Hce.out] at HCn
  go_upto_region 2 with fail
  go_wp2_with fail
  refine HCn.out.mono ?_
  rintro E w4 ⟨rfl, hb4⟩
  have B4 := Lib.hid (below_block hb4 B3.out)
  have R4 := Lib.hid (below_block hb4 R3.out)
  have Hb4 := Lib.hid (Hb3.out.trans (hb4.mono (by omega)))
  have M4 := Lib.hid (M1.out.below stays_label hb4)
  have M5 := Lib.hid (M2.out.below stays_string hb4)
  have M6 := Lib.hid (M3.out.below stays_string hb4)
  have hs4 := hb4.size
  clear hb4 HCn cc B3 R3 Hb3 M1 M2 M3
  have fb := fun i => free_block B4.out i
  have cb := fun i => cell_block B4.out i
  obtain ⟨w5, hw5⟩ : ∃ w5, w4.setCell ⟨gb, 9, none⟩ (.string ct) = w5 := ⟨_, rfl⟩
  have t1 := touch_setCell (i := 9) (v := .string ct) B4.out
  rw [hw5] at t1
  have B5 : Hid (w5.heap[gb]? = some (.cells #[.string o.okey.kind, .string o.okey.space, .string o.okey.name, .slice d1 n1 e1, .slice d2 n2 e2, .slice d3 n3 e3, .bool o.ending, .string o.uid, .int .i64 o.rev, .string ct] 30 (0, 0))) := Lib.hid t1.1
  have R5 := Lib.hid (t1.2.block R4.out (Ne.symm hne))
  have Hb5 := Lib.hid (t1.2.below Hb4.out hwb)
  have hs5 := t1.2.size
  have M1 := Lib.hid (M4.out.touch flat_label t1.2 fun q hq e => by have := (M4.out.at hq).1; omega)
  have M2 := Lib.hid (M5.out.touch flat_string t1.2 fun q hq e => by have := (M5.out.at hq).1; omega)
  have M3 := Lib.hid (M6.out.touch flat_string t1.2 fun q hq e => by have := (M6.out.at hq).1; omega)
  go_upto_region 3 with fail
  try rw [hw5]
  clear t1 hw5 fb cb B4 R4 Hb4 M4 M5 M6
  have fb := fun i => free_block B5.out i
  have cb := fun i => cell_block B5.out i
  obtain ⟨w6, hw6⟩ : ∃ w6, w5.setCell ⟨gb, 7, none⟩ (.string { data := #[] }) = w6 := ⟨_, rfl⟩
  have t1 := touch_setCell (i := 7) (v := .string { data := #[] }) B5.out
  rw [hw6] at t1
  have B6 : Hid (w6.heap[gb]? = some (.cells #[.string o.okey.kind, .string o.okey.space, .string o.okey.name, .slice d1 n1 e1, .slice d2 n2 e2, .slice d3 n3 e3, .bool o.ending, .string { data := #[] }, .int .i64 o.rev, .string ct] 30 (0, 0))) := Lib.hid t1.1
  have R6 := Lib.hid (t1.2.block R5.out (Ne.symm hne))
  have Hb6 := Lib.hid (t1.2.below Hb5.out hwb)
  have hs6 := t1.2.size
  have M4 := Lib.hid (M1.out.touch flat_label t1.2 fun q hq e => by have := (M1.out.at hq).1; omega)
  have M5 := Lib.hid (M2.out.touch flat_string t1.2 fun q hq e => by have := (M2.out.at hq).1; omega)
  have M6 := Lib.hid (M3.out.touch flat_string t1.2 fun q hq e => by have := (M3.out.at hq).1; omega)
  go_upto_region 4 with fail
  try rw [hw6]
  clear t1 hw6 fb cb B5 R5 Hb5 M1 M2 M3
  have cb := fun i => cell_block B6.out i
  go_wp2_with (refine wpList_store_box (by rfl) _ _ _ (by rfl) gr #[.string o.okey.kind, .string o.okey.space, .string o.okey.name, .slice d1 n1 e1, .slice d2 n2 e2, .slice d3 n3 e3, .bool o.ending, .string { data := #[] }, .int .i64 o.rev, .string ct] (by rfl) (by rfl) _ _ (by exact R6.out) (by exact Tryz.sizeObj) (by rfl) (by simp [Value.oneCell']) ?_)
  intro w7 b7 t7
  have B7 := Lib.hid b7
  have Hb7 := Lib.hid (t7.below Hb6.out hwr)
  have hs7 := t7.size
  have M1 := Lib.hid (M4.out.touch flat_label t7 fun q hq e => by have := (M4.out.at hq).1; omega)
  have M2 := Lib.hid (M5.out.touch flat_string t7 fun q hq e => by have := (M5.out.at hq).1; omega)
  have M3 := Lib.hid (M6.out.touch flat_string t7 fun q hq e => by have := (M6.out.at hq).1; omega)
  clear b7 t7 cb B6 R6 Hb6 M4 M5 M6
  go_wp2_with fail
  refine bodyPost_ret (v := .agg #[.string o.okey.kind, .string o.okey.space, .string o.okey.name, .slice d1 n1 e1, .slice d2 n2 e2, .slice d3 n3 e3, .bool o.ending, .string { data := #[] }, .int .i64 o.rev, .string ct]) ?_ rfl ?_
  · exact results_one_obj Tryz.results52 _ _ gr _ (by rfl) B7.out rfl
  · refine ⟨fun b => w.heap.size ≤ b ∧ b < w7.heap.size, _, _, _, by rw [← Hct.out]; rfl, ⟨OwnX.ofFlat M1.out fun b hb => ⟨by have := (M1.out.at hb).1; omega, (M1.out.at hb).2.1⟩, OwnX.ofFlat M2.out fun b hb => ⟨by have := (M2.out.at hb).1; omega, (M2.out.at hb).2.1⟩, OwnX.ofFlat M3.out fun b hb => ⟨by have := (M3.out.at hb).1; omega, (M3.out.at hb).2.1⟩⟩, fun b hb => hb, Hb7.out⟩
end Sto
end Go.Proofs.YtnnceaapodgfbaaGreatDoor
namespace Go.Proofs.YtnnceaapodgfbaaGreatDoor
open Go.RowKit Go.ChangeMaps Go.MapKept Go.WideMaps
open Go.WideElems (Fit rd rg pl rd_val rd_key rg_of rd_mk other_key)
open Go.Maps (Keyed)
variable {κ : Type}
theorem pair_one {α β : Type} {f : α → β} : ∀ {l : List α}, (l.map f).Pairwise (· ≠ ·) → ∀ {x y : α}, x ∈ l → y ∈ l → f x = f y → x = y
  | [], _, _, _, h, _, _ => by cases h
  | a :: r, hp, x, y, hx, hy, he => by
    rw [List.map_cons, List.pairwise_cons] at hp
    rcases List.mem_cons.1 hx with e1 | hx2
    · rcases List.mem_cons.1 hy with e2 | hy2
      · rw [e1, e2]
      · exact absurd (by rw [← e1]; exact he) (hp.1 _ (List.mem_map.2 ⟨y, hy2, rfl⟩))
    · rcases List.mem_cons.1 hy with e2 | hy2
      · exact absurd (by rw [← e2]; exact he.symm) (hp.1 _ (List.mem_map.2 ⟨x, hx2, rfl⟩))
      · exact pair_one hp.2 hx2 hy2 he
def EntryAt {P : Program} {K : TypeId} [DecidableEq κ] (C : KeyCode P K κ) (t : TypeId) (w1 : World) (b n : Nat) (f : κ → Option Value) (k : κ) (st : Value) : Prop :=
  ∀ w2 v, w2.heap[b]? = w1.heap[b]? → ∃ w3, (Instr.entryStore t (.map (some b)) st v).run P w2 = .ok () w3 ∧ w2.mapTurned w3 b ∧ MapK C w3 b (n + 1) (updK f k v)
theorem EntryAt.block {P : Program} {K : TypeId} [DecidableEq κ] {C : KeyCode P K κ} {t : TypeId} {w1 w1' : World} {b n : Nat} {f : κ → Option Value} {k : κ} {st : Value} (h : EntryAt C t w1 b n f k st) (hb : w1'.heap[b]? = w1.heap[b]?) : EntryAt C t w1' b n f k st :=
  fun w2 v hv => h w2 v (hv.trans hb)
theorem MapK.entry [DecidableEq κ] {P : Program} {K e t : TypeId} {C : KeyCode P K κ} {w : World} {b n : Nat} {f : κ → Option Value} (h : MapK C w b n f) (hL : KeyLaw P K) (ht : P.underlying t = some (.map K e)) (hn : n < maxLen) {z : Value} (hz : ∀ u : World, (zeroValue e).run P u = .ok z u) (k : κ) (hs : C.ok k) :
    ∃ st w1, (Instr.mapEntry t (.map (some b)) (C.val k)).run P w = .ok (.tuple #[(f k).getD z, st]) w1 ∧ w.mapTurned w1 b ∧ EntryAt C t w1 b n f k st := by
  have hlook := (h.look ht (hz w) k hs).2
  obtain ⟨w', hst, hm, htr⟩ := h.store ht hn k hs (.bool false)
  have hstore := fun v => h.store ht hn k hs v
  obtain ⟨D, ⟨es, clock, hb, F, hsz, hD⟩, h2, h3⟩ := h
  have hkey := C.key k hs
  obtain ⟨v0, st, es1, clock1, hrun, hv0, hen⟩ := WideElems.entry_then_store hL ht hz hb F hkey
  have hval : v0 = (f k).getD z := by
    rcases C.keyed.find w hkey es.toList F.keys with ⟨q1, q2⟩ | ⟨j, e1, q1, q2, q3⟩
    · rcases hv0 with ⟨e0, g1, g2, _⟩ | ⟨_, g2⟩
      · exact absurd g2 (q2 e0 g1)
      · have hr : (Instr.lookup t (.map (some b)) (C.val k) false).run P w = .ok z w := by
          simp [Instr.lookup, run_underlying ht, MapKept.run_getObj_map hb, C.keyed.check w es.isEmpty hkey, q1, hz, Result.andThen]
        rw [hr] at hlook
        injection hlook with hlook
        rw [g2, ← hlook]
    · have hr : (Instr.lookup t (.map (some b)) (C.val k) false).run P w = .ok e1.val w := by
        simp [Instr.lookup, run_underlying ht, MapKept.run_getObj_map hb, C.keyed.check w es.isEmpty hkey, q1, hz, Result.andThen]
      rw [hr] at hlook
      injection hlook with hlook
      have hmem : e1 ∈ es.toList := List.mem_of_getElem? q2
      rcases hv0 with ⟨e0, g1, g2, g3⟩ | ⟨g1, _⟩
      · have hone : e0 = e1 := by
          have hp : (es.toList.map fun x => (rg P K rawE x).1).Pairwise (· ≠ ·) := by
            have := F.apart hL
            rw [List.pairwise_map] at this ⊢
            exact this
          refine pair_one hp g1 hmem ?_
          obtain ⟨y0, hy0⟩ := F.reads e0 g1
          obtain ⟨y1, hy1⟩ := F.reads e1 hmem
          rw [rg_of hy0, rg_of hy1]
          have k0 := rd_key hy0
          have k1 := rd_key hy1
          rw [g2] at k0
          rw [q3] at k1
          exact Option.some.inj (k0.symm.trans k1)
        rw [g3, hone, hlook]
      · exact absurd q3 (g1 e1 hmem)
  refine ⟨goInt st, _, by rw [hrun, hval], ⟨es, clock, es1, clock1, hb, rfl⟩, fun w2 v hv => ?_⟩
  have hb1 : (setBlock w b (.map es1 clock1)).heap[b]? = some (.map es1 clock1) := heap_setBlock_same hb _
  rw [hb1] at hv
  obtain ⟨es', clock', g1, g2⟩ := hen w2 v hv
  obtain ⟨w4, r1, r2, r3⟩ := hstore v
  have hw4 : w4 = setBlock w b (.map es' clock') := by
    have := r1.symm.trans g2
    injection this
  refine ⟨_, g1, ⟨es1, clock1, es', clock', hv, rfl⟩, ?_⟩
  rw [hw4] at r2
  refine r2.block ?_
  rw [heap_setBlock_same hv, heap_setBlock_same hb]
section
variable {P : Program} {K : TypeId} {C : KeyCode P K κ} (w : World) {ops : Array Oper} {rest : List Oper} {o : Oper} {a : Act} {Q : Exit → Act → World → Prop}
theorem wpList_entry_mapK [DecidableEq κ] (hg : o.guard = none) (m x v : Operand) (t : TypeId) (hop : o.op = Op.entryStore t m x v) (b n : Nat) (f : κ → Option Value) (k : κ) (st : Value) (hm : a.eval m = .map (some b)) (hx : a.eval x = st) (h : EntryAt C t w b n f k st) (u : Value) (hv : a.eval v = u)
    (hK : ∀ w', MapK C w' b (n + 1) (updK f k u) → w.mapTurned w' b → wpList P ops Q rest (a.put o.dst undef) w') : wpList P ops Q (o :: rest) a w := by
  refine wpList_plain hg fun K' hK' => ?_
  obtain ⟨w', hrun, r1, r2⟩ := h w u rfl
  unfold Oper.wp
  simp [execOp, hop, hm, hx, hv, hrun, Result.andThen]
  exact hK' _ _ (hK w' r2 r1)
end
end Go.Proofs.YtnnceaapodgfbaaGreatDoor
