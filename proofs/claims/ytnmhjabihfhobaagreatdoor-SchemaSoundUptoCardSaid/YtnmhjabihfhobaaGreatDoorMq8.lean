/- Texts of ours joined: SchemaSoundP, SchemaNeed, SchemaChk, SchemaIdx, SchemaClo. -/
import Derived.WalkSpells
import Derived.Deep.LoopGhost
import Derived.Test.YtnmhjabihfhobaaGreatDoorMq7
set_option linter.unusedVariables false
set_option linter.unusedSimpArgs false
/- schema: a document without faults has nothing to be pruned. -/
namespace Go.Proofs.YtnmhjabihfhobaaGreatDoor
open Go.RowKit
open JP (JV Bs)

theorem prune_sound (s : List GPart) : ∀ (n : Nat) (p : GPart) (way : List Bs) (v : JV), lookV s n p way v = [] → thruV s pruneO n p v = v
  | 0, _, _, _, _ => rfl
  | n + 1, p, way, v, h => by
    have ih := prune_sound s n
    rw [lookV] at h
    rw [thruV]
    by_cases hk : JP.kind v ≠ p.kind
    · rw [if_pos hk]
    · rw [if_neg hk] at h ⊢
      obtain ⟨_, hb⟩ := List.append_eq_nil_iff.1 h
      cases v with
      | list l =>
        obtain ⟨_, h2⟩ := List.append_eq_nil_iff.1 hb
        rw [List.flatMap_eq_nil_iff] at h2
        refine congrArg JV.list (List.ext_getElem? fun i => ?_)
        rw [List.getElem?_map]
        by_cases hi : i < l.length
        · have h3 := h2 i (List.mem_range.2 hi)
          rw [List.getElem?_eq_getElem hi] at h3 ⊢
          exact congrArg some (ih _ _ _ h3)
        · rw [List.getElem?_eq_none (by omega)]; rfl
      | obj l =>
        obtain ⟨_, h2⟩ := List.append_eq_nil_iff.1 hb
        obtain ⟨h3, h4⟩ := List.append_eq_nil_iff.1 h2
        rw [List.flatMap_eq_nil_iff] at h3 h4
        have e1 : pruneO p l = l := List.filter_eq_self.2 fun y hy => by
          have := h3 y hy
          rw [Bool.or_eq_true]
          by_cases hc : (fieldL p.fields (mkB y.1)).isSome = true ∨ p.extra = true
          · exact hc
          · rw [if_neg hc] at this; cases this
        show JV.obj ((pruneO p l).map _) = _
        rw [e1]
        refine congrArg JV.obj ((List.map_congr_left (g := id) fun y hy => ?_).trans (List.map_id l))
        have := h4 y hy
        unfold kidV
        cases hf : fieldL p.fields (mkB y.1) with
        | none => rfl
        | some k =>
          rw [hf] at this
          dsimp only at this ⊢
          rw [ih _ _ _ this]; rfl
      | _ => rfl
end Go.Proofs.YtnmhjabihfhobaaGreatDoor
/- schema: the checker's need. -/
namespace Go.Proofs.YtnmhjabihfhobaaGreatDoor
namespace Sch
open Go.RowKit

/-- the first thing that was wrong lies there -/
def IsBad (g : Nat) (w : World) (b : Int) : Prop := w.heap[g]? = some (.cells #[.int .i64 b] 123 (0, 0))
theorem IsBad.below {g : Nat} {w w' : World} {b : Int} (h : IsBad g w b) (hb : Below w.heap.size w w') : IsBad g w' b := below_block hb h
theorem IsBad.lt {g : Nat} {w : World} {b : Int} (h : IsBad g w b) : g < w.heap.size := by
  rcases Nat.lt_or_ge g w.heap.size with h1 | h1
  · exact h1
  · unfold IsBad at h; rw [Array.getElem?_eq_none h1] at h; cases h
def needE (b : Int) (is : Bool) (e : Int) : Int := if b = 0 ∧ is = false then e else b
/-- what a checker's method does -/
def Said (g : Nat) (b : Int) (w : World) (E : Ending) (w' : World) : Prop := E = .returned (.tuple #[]) ∧ IsBad g w' b ∧ But g w w'
set_option maxRecDepth 100000 in
theorem need_any (g : Nat) (b e : Int) (is : Bool) (w : World) (h : IsBad g w b) : Calls Tryz.prog 73 #[.pointer (some ⟨g, 0, none⟩), .bool is, .int .i64 e] w (Said g (needE b is e) w) := by
  have h' : w.heap[g]? = some (.cells #[.int .i64 b] 123 (0, 0)) := h
  have c0 : w.cell? ⟨g, 0, none⟩ = some (.int .i64 b) := cell_block h' 0
  have z0 : w.frozen? ⟨g, 0, none⟩ = false := free_block h' 0
  have Hh := Lib.hid h'
  clear h h'
  by_cases hb : b = 0
  · subst hb
    cases is
    · go_enter Tryz.func73, Tryz.ntmps73
      go_wp2_with fail
      obtain ⟨t1, t2⟩ := touch_setCell (i := 0) (v := .int .i64 e) Hh.out
      go_end0
      exact ⟨rfl, t1, But.touch t2⟩
    · go_enter Tryz.func73, Tryz.ntmps73
      go_wp2_with fail
      go_end0
      exact ⟨rfl, Hh.out, But.refl _ _⟩
  · have q : (b == 0) = false := by rw [beq_eq_false_iff_ne]; exact hb
    have Hs : Hid (needE b is e = b) := Lib.hid (by unfold needE; rw [if_neg (fun h => hb h.1)])
    clear hb
    go_enter Tryz.func73, Tryz.ntmps73
    go_wp2_with fail
    go_end0
    exact ⟨rfl, by rw [Hs.out]; exact Hh.out, But.refl _ _⟩
end Sch
end Go.Proofs.YtnmhjabihfhobaaGreatDoor
/- schema.Check: plain; what a schema that is one keeps to. -/
namespace Go.Proofs.YtnmhjabihfhobaaGreatDoor
namespace Sch
open Go.RowKit
open JP (JV Bs)

abbrev Ts := List (Bool × Int)
def runT (b : Int) (l : Ts) : Int := l.foldl (fun b t => needE b t.1 t.2) b
theorem runT_append (b : Int) (l m : Ts) : runT b (l ++ m) = runT (runT b l) m := List.foldl_append
theorem runT_cons (b : Int) (t : Bool × Int) (l : Ts) : runT b (t :: l) = runT (needE b t.1 t.2) l := rfl
theorem runT_stays {b : Int} (h : b ≠ 0) : ∀ l : Ts, runT b l = b
  | [] => rfl
  | t :: r => by
    rw [runT_cons]
    have e : needE b t.1 t.2 = b := by unfold needE; rw [if_neg (fun h2 => h h2.1)]
    rw [e]
    exact runT_stays h r
theorem runT_ok : ∀ {l : Ts}, runT 0 l = 0 → ∀ t ∈ l, t.1 = true ∨ t.2 = 0
  | [], _, _, h => by cases h
  | t :: r, h, u, hu => by
    rw [runT_cons] at h
    by_cases e : needE 0 t.1 t.2 = 0
    · rw [e] at h
      rcases List.mem_cons.1 hu with rfl | hu
      · unfold needE at e
        by_cases h1 : u.1 = true
        · exact .inl h1
        · rw [if_pos ⟨rfl, by simpa using h1⟩] at e
          exact .inr e
      · exact runT_ok h u hu
    · rw [runT_stays e] at h
      exact absurd h e
/-- what is wrong with a document -/
def readE (d : ByteArray) : Int := (JP.readL d.data.toList).2
def docT (d : ByteArray) : Bool × Int := (decide (readE d = 0), readE d)
def behindB (n i : Nat) (k : Int) : Bool := decide ((i : Int) < k) && decide (k < (n : Int))
def fieldTs (n i : Nat) (F : List GField) (k : Nat) : Ts := match F[k]? with
  | some f => [(!((F.take k).any fun g => decide (g.name = f.name)), 5), (behindB n i f.part, 7)]
  | none => []
def headTs (p : GPart) : Ts := [
  (decide (2 ≤ p.kind) && decide (p.kind ≤ 6), 1),
  (decide (p.fields.length ≤ 8) && decide (p.need.length ≤ 8) && decide (p.enum.length ≤ 8), 2),
  (decide (p.kind = 6) || (decide (p.fields.length + p.need.length = 0) && !p.extra), 1),
  (decide (p.kind = 5) || decide (p.items = 0), 1),
  ((!decide (p.kind = 5) && !decide (p.kind = 6)) || decide (p.enum.length = 0), 1),
  ((!decide (p.kind = 6) && !decide (p.kind = 2)) || (decide (p.least = 0) && decide (p.most = 0)), 1)]
def partTs (n i : Nat) (p : GPart) : Ts :=
  headTs p ++ ((List.range p.fields.length).flatMap (fieldTs n i p.fields) ++ ([(!decide (p.kind = 5) || behindB n i p.items, 7)] ++ (p.enum.map docT ++ (if p.deflt = ByteArray.empty then [] else [docT p.deflt]))))
def allTs (s : List GPart) : Ts := [(decide (0 < s.length), 1), (decide (s.length ≤ 30), 2)] ++ (List.range s.length).flatMap fun i => partTs s.length i (partAt s (i : Int))
/-- what a part that is in order keeps to -/
structure GoodP (n i : Nat) (p : GPart) : Prop where
  kind : 2 ≤ p.kind ∧ p.kind ≤ 6
  few : p.fields.length ≤ 8 ∧ p.need.length ≤ 8 ∧ p.enum.length ≤ 8
  obj : p.kind = 6 ∨ p.fields = [] ∧ p.need = [] ∧ p.extra = false
  enums : p.kind = 5 ∨ p.kind = 6 → p.enum = []
  parts : ∀ f ∈ p.fields, (i : Int) < f.part ∧ f.part < n
  names : ∀ (k : Nat) (f : GField), p.fields[k]? = some f → ∀ g ∈ p.fields.take k, g.name ≠ f.name
  items : p.kind = 5 → (i : Int) < p.items ∧ p.items < n
  docs : ∀ d ∈ p.enum, readE d = 0
  deflt : p.deflt ≠ ByteArray.empty → readE p.deflt = 0
def GoodS (s : List GPart) : Prop := 0 < s.length ∧ s.length ≤ 30 ∧ ∀ (i : Nat) (p : GPart), s[i]? = some p → GoodP s.length i p
theorem partAt_of {s : List GPart} {i : Nat} {p : GPart} (h : s[i]? = some p) : partAt s (i : Int) = p := by
  unfold partAt
  rw [Int.toNat_natCast, h]; rfl
theorem no_code {α : Prop} {c : Int} (hc : c ≠ 0) (h : c = 0) : α := absurd h hc
theorem behind_of {n i : Nat} {k : Int} (h : behindB n i k = true) : (i : Int) < k ∧ k < n := by
  unfold behindB at h
  rw [Bool.and_eq_true] at h
  exact ⟨of_decide_eq_true h.1, of_decide_eq_true h.2⟩
theorem doc_of {d : ByteArray} (h : (docT d).1 = true ∨ (docT d).2 = 0) : readE d = 0 := h.elim (fun h => of_decide_eq_true h) id
theorem good_of {s : List GPart} (h : runT 0 (allTs s) = 0) : GoodS s := by
  have hall := runT_ok h
  have h1 := hall (decide (0 < s.length), 1) (by unfold allTs; simp)
  have h2 := hall (decide (s.length ≤ 30), 2) (by unfold allTs; simp)
  refine ⟨by simpa using h1, by simpa using h2, fun i p hp => ?_⟩
  have hpt : ∀ t ∈ partTs s.length i p, t.1 = true ∨ t.2 = 0 := fun t ht => hall t (by
    unfold allTs
    refine List.mem_append_right _ (List.mem_flatMap.2 ⟨i, List.mem_range.2 (List.getElem?_eq_some_iff.1 hp).1, ?_⟩)
    rw [partAt_of hp]; exact ht)
  have hhd : ∀ t ∈ headTs p, t.1 = true ∨ t.2 = 0 := fun t ht => hpt t (by unfold partTs; exact List.mem_append_left _ ht)
  have t0 := hhd _ (show (decide (2 ≤ p.kind) && decide (p.kind ≤ 6), (1 : Int)) ∈ headTs p by unfold headTs; simp)
  have t1 := hhd _ (show (decide (p.fields.length ≤ 8) && decide (p.need.length ≤ 8) && decide (p.enum.length ≤ 8), (2 : Int)) ∈ headTs p by unfold headTs; simp)
  have t2 := hhd _ (show (decide (p.kind = 6) || (decide (p.fields.length + p.need.length = 0) && !p.extra), (1 : Int)) ∈ headTs p by unfold headTs; simp)
  have t4 := hhd _ (show ((!decide (p.kind = 5) && !decide (p.kind = 6)) || decide (p.enum.length = 0), (1 : Int)) ∈ headTs p by unfold headTs; simp)
  refine ⟨by simpa using t0, ?_, ?_, ?_, ?_, ?_, ?_, ?_, ?_⟩
  · have : (p.fields.length ≤ 8 ∧ p.need.length ≤ 8) ∧ p.enum.length ≤ 8 := by simpa using t1
    exact ⟨this.1.1, this.1.2, this.2⟩
  · have : p.kind = 6 ∨ (p.fields = [] ∧ p.need = []) ∧ p.extra = false := by simpa using t2
    rcases this with h | h
    · exact .inl h
    · exact .inr ⟨h.1.1, h.1.2, h.2⟩
  · intro hk
    have : (¬ p.kind = 5 ∧ ¬ p.kind = 6) ∨ p.enum = [] := by simpa using t4
    rcases this with h | h
    · exact absurd hk (by rintro (h3 | h3); exact h.1 h3; exact h.2 h3)
    · exact h
  · intro f hf
    obtain ⟨k, hk, hkf⟩ := List.getElem_of_mem hf
    have := hpt (behindB s.length i f.part, 7) (by
      unfold partTs
      refine List.mem_append_right _ (List.mem_append_left _ (List.mem_flatMap.2 ⟨k, List.mem_range.2 hk, ?_⟩))
      unfold fieldTs
      rw [List.getElem?_eq_getElem hk, hkf]; simp)
    exact behind_of (this.elim id fun h => no_code (c := 7) (by decide) h)
  · intro k f hf g hg he
    have := hpt (!((p.fields.take k).any fun g => decide (g.name = f.name)), 5) (by
      unfold partTs
      refine List.mem_append_right _ (List.mem_append_left _ (List.mem_flatMap.2 ⟨k, List.mem_range.2 (List.getElem?_eq_some_iff.1 hf).1, ?_⟩))
      unfold fieldTs
      rw [hf]; simp)
    have h2 : ((p.fields.take k).any fun g => decide (g.name = f.name)) = false := by
      have := this.elim id fun h => no_code (c := 5) (by decide) h
      simpa using this
    rw [List.any_eq_false] at h2
    exact h2 g hg (decide_eq_true he)
  · intro hk
    have := hpt (!decide (p.kind = 5) || behindB s.length i p.items, 7) (by
      unfold partTs
      exact List.mem_append_right _ (List.mem_append_right _ (List.mem_append_left _ (List.mem_singleton.2 rfl))))
    have := this.elim id fun h => no_code (c := 7) (by decide) h
    rw [hk] at this
    exact behind_of (by simpa using this)
  · intro d hd
    exact doc_of (hpt (docT d) (by
      unfold partTs
      exact List.mem_append_right _ (List.mem_append_right _ (List.mem_append_right _ (List.mem_append_left _ (List.mem_map_of_mem hd))))))
  · intro hd
    exact doc_of (hpt (docT p.deflt) (by
      unfold partTs
      refine List.mem_append_right _ (List.mem_append_right _ (List.mem_append_right _ (List.mem_append_right _ ?_)))
      rw [if_neg hd]; exact List.mem_singleton.2 rfl))
/-- the faults of a value, as a document of part i -/
def faultsV (s : List GPart) (i : Int) (v : JV) : List (List Bs × Int) := lookV s s.length (partAt s i) [] v
def badDef (s : List GPart) (i : Nat) : Bool := decide ((partAt s (i : Int)).deflt ≠ ByteArray.empty) && !(faultsV s (i : Int) (JP.readL (partAt s (i : Int)).deflt.data.toList).1).isEmpty
def checkE (s : List GPart) : Int := if runT 0 (allTs s) ≠ 0 then runT 0 (allTs s) else if (List.range s.length).any (badDef s) then 19 else 0
theorem check_good {s : List GPart} (h : checkE s = 0) : GoodS s ∧ ∀ (i : Nat) (p : GPart), s[i]? = some p → p.deflt ≠ ByteArray.empty → faultsV s (i : Int) (JP.readL p.deflt.data.toList).1 = [] := by
  unfold checkE at h
  by_cases h1 : runT 0 (allTs s) ≠ 0
  · rw [if_pos h1] at h; exact absurd h h1
  · rw [if_neg h1] at h
    refine ⟨good_of (Decidable.not_not.1 h1), fun i p hp hd => ?_⟩
    by_cases h2 : (List.range s.length).any (badDef s) = true
    · rw [if_pos h2] at h; exact no_code (by decide) h
    · have h3 : (List.range s.length).any (badDef s) = false := by simpa using h2
      rw [List.any_eq_false] at h3
      have h4 := h3 i (List.mem_range.2 (List.getElem?_eq_some_iff.1 hp).1)
      unfold badDef at h4
      rw [partAt_of hp] at h4
      simpa [hd] using h4
/-- Faults -/
def bothE (s : List GPart) (d : Bs) : Int := if checkE s = 0 then (JP.readL d).2 else checkE s
def faultsL (s : List GPart) (d : Bs) : List (List Bs × Int) := if bothE s d = 0 then faultsV s 0 (JP.readL d).1 else []
theorem both_ok {s : List GPart} {d : Bs} (h : bothE s d = 0) : checkE s = 0 ∧ (JP.readL d).2 = 0 := by
  unfold bothE at h
  split at h
  · exact ⟨by assumption, h⟩
  · exact absurd h (by assumption)
end Sch
end Go.Proofs.YtnmhjabihfhobaaGreatDoor
/- slices.IndexFunc and slices.ContainsFunc: for whatever function value that answers a plain predicate. -/
namespace Go.Proofs.YtnmhjabihfhobaaGreatDoor
open Go.RowKit

/-- is one of them so? -/
def AnyAt {α : Type} (l : List α) (p : α → Bool) (w : World) (e : Ending) (w' : World) : Prop := ∃ n : Int, e = .returned (.int .i64 n) ∧ (decide (0 ≤ n) = l.any p) ∧ Below w.heap.size w w'
set_option maxRecDepth 100000 in
set_option maxHeartbeats 800000 in
theorem idxStr_any {f : FuncId} {cap : Value} {Cap : World → Prop} {p : ByteArray → Bool} {OK : ByteArray → Prop} (enter : ∀ (a : Array Value) (w : World), (callFunc f a).run Tryz.prog w = .ok (.enter f a) w)
    (keepC : ∀ w w' : World, Cap w → Below w.heap.size w w' → Cap w')
    (clo : ∀ (x : ByteArray) (w : World), RString w [.string x] x → OK x → Cap w → Calls Tryz.prog f #[.string x, cap] w fun e w' => e = .returned (.bool (p x)) ∧ Below w.heap.size w w')
    (v : Value) (l : List ByteArray) (w : World) (h : RowAt RString 1 w v l) (hl : l.length ≤ 1073741824) (hok : ∀ x ∈ l, OK x) (hc : Cap w) : Calls Tryz.prog 119 #[v, .func (.func f) #[] #[cap]] w (AnyAt l p w) := by
  obtain ⟨a1, c1, rfl, _, _⟩ := h.len
  have H := Lib.hid h
  have Hc := Lib.hid hc
  have HC := Lib.hid clo
  have HK := Lib.hid keepC
  have Hok := Lib.hid hok
  have ep := enter
  clear h hc clo keepC enter hok
  go_enter Tryz.func119, Tryz.ntmps119
  go_wp2_with fail
  go_loopg [8] l.length (fun g u8 wr => ∃ i : Nat, i + g = l.length ∧ u8 = .int .i64 (i : Int) ∧ Hid (∀ x ∈ l.take i, p x = false) ∧ Hid (Cap wr) ∧ Below w.heap.size w wr)
  case atStart => exact ⟨0, by omega, rfl, Lib.hid (fun x hx => by simp at hx), Hc, Below.refl _ _⟩
  case round =>
    obtain ⟨i, hig, rfl, Hall, Hcr, hbel⟩ := hrel
    cases gk with
    | zero =>
      obtain rfl : i = l.length := by omega
      have Hany : Hid (decide ((0 : Int) ≤ -1) = l.any p) := by
        refine Lib.hid ?_
        rw [decide_eq_false (by omega), eq_comm, List.any_eq_false]
        intro x hx
        rw [Hall.out x (by rw [List.take_length]; exact hx)]; simp
      have Hbel := Lib.hid hbel
      clear hbel
      go_wp2_with fail
      go_ret
      exact ⟨-1, rfl, Hany.out, Hbel.out⟩
    | succ g =>
      have hil : i < l.length := by omega
      obtain ⟨x, hxi⟩ : ∃ x, l[i]? = some x := ⟨l[i]'(by omega), List.getElem?_eq_getElem _⟩
      obtain ⟨b, o, c', hv, _, _, hbs, hcell⟩ := H.out.form (by omega) (by omega)
      cases hv
      obtain ⟨ds, _, hcc, hR⟩ := hcell i x hxi
      have hR2 := hR
      obtain rfl : ds = [.string x] := hR
      have HR := Lib.hid (stays_string _ _ _ _ (keeps_below hbel) hR2)
      have e0 : wr.cell? ⟨b, o + i, none⟩ = some (.string x) := (hbel.cell (p := ⟨b, _, none⟩) hbs).trans (by simpa using hcc 0 _ rfl)
      have q1 : (0 : Int) ≤ (i : Int) := by omega
      have q2 : (i : Int) < (l.length : Int) := by omega
      have Hbel := Lib.hid hbel
      have hs0 := hbel.size
      have Hxi := Lib.hid hxi
      clear hcc hcell hbel hR2 hxi
      obtain ⟨pb, Hpb⟩ : ∃ pb, Hid (p x = pb) := ⟨_, Lib.hid rfl⟩
      go_wp2_with fail
      refine (HC.out x  wr HR.out (Hok.out x (List.mem_of_getElem? Hxi.out)) Hcr.out).mono ?_
      rintro E w1 ⟨rfl, hb1⟩
      rw [Hpb.out]
      have Hb1 := Lib.hid (Hbel.out.trans (hb1.mono hs0))
      have Hc1 := Lib.hid (HK.out _ _ Hcr.out hb1)
      clear hb1 e0
      cases pb with
      | true =>
        have Hany : Hid (decide ((0 : Int) ≤ (i : Int)) = l.any p) := by
          refine Lib.hid ?_
          rw [decide_eq_true (by omega), eq_comm, List.any_eq_true]
          exact ⟨x, List.mem_of_getElem? Hxi.out, Hpb.out⟩
        go_wp2_with fail
        go_ret
        exact ⟨_, rfl, Hany.out, Hb1.out⟩
      | false =>
        have Hall2 : Hid (∀ x ∈ l.take (i + 1), p x = false) := Lib.hid fun y hy => by
          rw [List.take_add_one, Hxi.out] at hy
          rcases List.mem_append.1 hy with h | h
          · exact Hall.out y h
          · have h9 : y = x := by simpa using h
            rw [h9]; exact Hpb.out
        go_wp2_with fail
        go_roundg g
        case measure => omega
        case rel => exact ⟨i + 1, by omega, by go_num, Hall2, Hc1, Hb1.out⟩
set_option maxRecDepth 100000 in
theorem anyStr_any {f : FuncId} {cap : Value} {Cap : World → Prop} {p : ByteArray → Bool} {OK : ByteArray → Prop} (enter : ∀ (a : Array Value) (w : World), (callFunc f a).run Tryz.prog w = .ok (.enter f a) w)
    (keepC : ∀ w w' : World, Cap w → Below w.heap.size w w' → Cap w')
    (clo : ∀ (x : ByteArray) (w : World), RString w [.string x] x → OK x → Cap w → Calls Tryz.prog f #[.string x, cap] w fun e w' => e = .returned (.bool (p x)) ∧ Below w.heap.size w w')
    (v : Value) (l : List ByteArray) (w : World) (h : RowAt RString 1 w v l) (hl : l.length ≤ 1073741824) (hok : ∀ x ∈ l, OK x) (hc : Cap w) : Calls Tryz.prog 76 #[v, .func (.func f) #[] #[cap]] w fun e w' => e = .returned (.bool (l.any p)) ∧ Below w.heap.size w w' := by
  have H := Lib.hid (idxStr_any enter keepC clo v l w h hl hok hc)
  obtain ⟨B, HB⟩ : ∃ B, Hid (l.any p = B) := ⟨_, Lib.hid rfl⟩
  rw [HB.out]
  clear h hc clo keepC enter
  go_enter Tryz.func76, Tryz.ntmps76
  go_wp2_with fail
  refine H.out.mono ?_
  rintro E w1 ⟨n, rfl, hn, hb⟩
  rw [HB.out] at hn
  have Hb := Lib.hid hb
  have Hn := Lib.hid hn
  clear hb hn H
  go_wp2_with fail
  go_ret
  exact ⟨congrArg (fun b => Ending.returned (Value.bool b)) Hn.out, Hb.out⟩
set_option maxRecDepth 100000 in
set_option maxHeartbeats 800000 in
theorem idxField_any {f : FuncId} {cap : Value} {Cap : World → Prop} {p : GField → Bool} {OK : GField → Prop} (enter : ∀ (a : Array Value) (w : World), (callFunc f a).run Tryz.prog w = .ok (.enter f a) w)
    (keepC : ∀ w w' : World, Cap w → Below w.heap.size w w' → Cap w')
    (clo : ∀ (x : GField) (w : World), FieldR w [.string x.name, .int .i64 x.part] x → OK x → Cap w → Calls Tryz.prog f #[.agg #[.string x.name, .int .i64 x.part], cap] w fun e w' => e = .returned (.bool (p x)) ∧ Below w.heap.size w w')
    (v : Value) (l : List GField) (w : World) (h : RowAt FieldR 2 w v l) (hl : l.length ≤ 1073741824) (hok : ∀ x ∈ l, OK x) (hc : Cap w) : Calls Tryz.prog 156 #[v, .func (.func f) #[] #[cap]] w (AnyAt l p w) := by
  obtain ⟨a1, c1, rfl, _, _⟩ := h.len
  have H := Lib.hid h
  have Hc := Lib.hid hc
  have HC := Lib.hid clo
  have HK := Lib.hid keepC
  have Hok := Lib.hid hok
  have ep := enter
  clear h hc clo keepC enter hok
  go_enter Tryz.func156, Tryz.ntmps156
  go_wp2_with fail
  go_loopg [8] l.length (fun g u8 wr => ∃ i : Nat, i + g = l.length ∧ u8 = .int .i64 (i : Int) ∧ Hid (∀ x ∈ l.take i, p x = false) ∧ Hid (Cap wr) ∧ Below w.heap.size w wr)
  case atStart => exact ⟨0, by omega, rfl, Lib.hid (fun x hx => by simp at hx), Hc, Below.refl _ _⟩
  case round =>
    obtain ⟨i, hig, rfl, Hall, Hcr, hbel⟩ := hrel
    cases gk with
    | zero =>
      obtain rfl : i = l.length := by omega
      have Hany : Hid (decide ((0 : Int) ≤ -1) = l.any p) := by
        refine Lib.hid ?_
        rw [decide_eq_false (by omega), eq_comm, List.any_eq_false]
        intro x hx
        rw [Hall.out x (by rw [List.take_length]; exact hx)]; simp
      have Hbel := Lib.hid hbel
      clear hbel
      go_wp2_with fail
      go_ret
      exact ⟨-1, rfl, Hany.out, Hbel.out⟩
    | succ g =>
      have hil : i < l.length := by omega
      obtain ⟨x, hxi⟩ : ∃ x, l[i]? = some x := ⟨l[i]'(by omega), List.getElem?_eq_getElem _⟩
      obtain ⟨b, o, c', hv, _, _, hbs, hcell⟩ := H.out.form (by omega) (by omega)
      cases hv
      obtain ⟨ds, _, hcc, hR⟩ := hcell i x hxi
      have hR2 := hR
      obtain rfl : ds = [.string x.name, .int .i64 x.part] := by first | exact hR | exact hR.1
      have HR := Lib.hid (stays_field _ _ _ _ (keeps_below hbel) hR2)
      have e0 : wr.cell? ⟨b, o + i * 2, none⟩ = some (.string x.name) := (hbel.cell (p := ⟨b, _, none⟩) hbs).trans (by simpa using hcc 0 _ rfl)
      have e1 : wr.cell? ⟨b, o + i * 2 + 1, none⟩ = some (.int .i64 x.part) := (hbel.cell (p := ⟨b, _, none⟩) hbs).trans (hcc 1 _ rfl)
      have q1 : (0 : Int) ≤ (i : Int) := by omega
      have q2 : (i : Int) < (l.length : Int) := by omega
      have Hbel := Lib.hid hbel
      have hs0 := hbel.size
      have Hxi := Lib.hid hxi
      clear hcc hcell hbel hR2 hxi
      obtain ⟨pb, Hpb⟩ : ∃ pb, Hid (p x = pb) := ⟨_, Lib.hid rfl⟩
      go_wp2_with fail
      refine (HC.out x  wr HR.out (Hok.out x (List.mem_of_getElem? Hxi.out)) Hcr.out).mono ?_
      rintro E w1 ⟨rfl, hb1⟩
      rw [Hpb.out]
      have Hb1 := Lib.hid (Hbel.out.trans (hb1.mono hs0))
      have Hc1 := Lib.hid (HK.out _ _ Hcr.out hb1)
      clear hb1 e0 e1
      cases pb with
      | true =>
        have Hany : Hid (decide ((0 : Int) ≤ (i : Int)) = l.any p) := by
          refine Lib.hid ?_
          rw [decide_eq_true (by omega), eq_comm, List.any_eq_true]
          exact ⟨x, List.mem_of_getElem? Hxi.out, Hpb.out⟩
        go_wp2_with fail
        go_ret
        exact ⟨_, rfl, Hany.out, Hb1.out⟩
      | false =>
        have Hall2 : Hid (∀ x ∈ l.take (i + 1), p x = false) := Lib.hid fun y hy => by
          rw [List.take_add_one, Hxi.out] at hy
          rcases List.mem_append.1 hy with h | h
          · exact Hall.out y h
          · have h9 : y = x := by simpa using h
            rw [h9]; exact Hpb.out
        go_wp2_with fail
        go_roundg g
        case measure => omega
        case rel => exact ⟨i + 1, by omega, by go_num, Hall2, Hc1, Hb1.out⟩
set_option maxRecDepth 100000 in
theorem anyField_any {f : FuncId} {cap : Value} {Cap : World → Prop} {p : GField → Bool} {OK : GField → Prop} (enter : ∀ (a : Array Value) (w : World), (callFunc f a).run Tryz.prog w = .ok (.enter f a) w)
    (keepC : ∀ w w' : World, Cap w → Below w.heap.size w w' → Cap w')
    (clo : ∀ (x : GField) (w : World), FieldR w [.string x.name, .int .i64 x.part] x → OK x → Cap w → Calls Tryz.prog f #[.agg #[.string x.name, .int .i64 x.part], cap] w fun e w' => e = .returned (.bool (p x)) ∧ Below w.heap.size w w')
    (v : Value) (l : List GField) (w : World) (h : RowAt FieldR 2 w v l) (hl : l.length ≤ 1073741824) (hok : ∀ x ∈ l, OK x) (hc : Cap w) : Calls Tryz.prog 116 #[v, .func (.func f) #[] #[cap]] w fun e w' => e = .returned (.bool (l.any p)) ∧ Below w.heap.size w w' := by
  have H := Lib.hid (idxField_any enter keepC clo v l w h hl hok hc)
  obtain ⟨B, HB⟩ : ∃ B, Hid (l.any p = B) := ⟨_, Lib.hid rfl⟩
  rw [HB.out]
  clear h hc clo keepC enter
  go_enter Tryz.func116, Tryz.ntmps116
  go_wp2_with fail
  refine H.out.mono ?_
  rintro E w1 ⟨n, rfl, hn, hb⟩
  rw [HB.out] at hn
  have Hb := Lib.hid hb
  have Hn := Lib.hid hn
  clear hb hn H
  go_wp2_with fail
  go_ret
  exact ⟨congrArg (fun b => Ending.returned (Value.bool b)) Hn.out, Hb.out⟩
end Go.Proofs.YtnmhjabihfhobaaGreatDoor
/- schema: what is fixed while one looks; the closure that looks for a value among those listed. -/
namespace Go.Proofs.YtnmhjabihfhobaaGreatDoor
namespace Sch
open Go.RowKit
open JP (JV Bs)

def SmallP (p : GPart) : Prop := p.fields.length ≤ 1048576 ∧ total p.need ≤ 1048576 ∧ p.enum.length ≤ 1048576 ∧ (∀ d ∈ p.enum, d.size ≤ 1048576) ∧ p.deflt.size ≤ 1048576
/-- the parts lie there -/
structure Lies (S : List GPart) (sv : Value) (w0 : World) : Prop where
  row : RowAt PartR 9 w0 sv S
  small : ∀ p ∈ S, SmallP p
  env : Env w0
theorem Lies.below {S : List GPart} {sv : Value} {w0 w : World} (h : Lies S sv w0) (hb : Below w0.heap.size w0 w) : Lies S sv w := ⟨h.row.keep stays_part (keeps_below hb), h.small, h.env.below hb⟩
/-- a part in its cells -/
structure PartIn (S : List GPart) (w0 : World) (i : Nat) (p : GPart) (b o : Nat) (fa : Option Addr) (fn fc : Nat) (na : Option Addr) (nn nc : Nat) (ea : Option Addr) (en ec : Nat) : Prop where
  at_ : S[i]? = some p
  blk : b < w0.heap.size
  c0 : w0.cell? ⟨b, o, none⟩ = some (.int .i64 p.kind)
  c1 : w0.cell? ⟨b, o + 1, none⟩ = some (.slice fa fn fc)
  c2 : w0.cell? ⟨b, o + 2, none⟩ = some (.slice na nn nc)
  c3 : w0.cell? ⟨b, o + 3, none⟩ = some (.bool p.extra)
  c4 : w0.cell? ⟨b, o + 4, none⟩ = some (.int .i64 p.items)
  c5 : w0.cell? ⟨b, o + 5, none⟩ = some (.int .i64 p.least)
  c6 : w0.cell? ⟨b, o + 6, none⟩ = some (.int .i64 p.most)
  c7 : w0.cell? ⟨b, o + 7, none⟩ = some (.slice ea en ec)
  c8 : w0.cell? ⟨b, o + 8, none⟩ = some (.string p.deflt)
  fields : RowAt FieldR 2 w0 (.slice fa fn fc) p.fields
  need : StrAt w0 (.slice na nn nc) p.need
  enum : StrAt w0 (.slice ea en ec) p.enum
  fl : p.fields.length = fn
  nl : p.need.length = nn
  el : p.enum.length = en
theorem Lies.part {S : List GPart} {sa : Option Addr} {sn sc : Nat} {w0 : World} (h : Lies S (.slice sa sn sc) w0) {i : Nat} (hi : i < S.length) :
    ∃ b o p fa fn fc na nn nc ea en ec, sa = some ⟨b, o, none⟩ ∧ sn = S.length ∧ PartIn S w0 i p b (o + i * 9) fa fn fc na nn nc ea en ec := by
  obtain ⟨p, hp⟩ : ∃ p, S[i]? = some p := ⟨S[i], List.getElem?_eq_getElem hi⟩
  obtain ⟨b, o, c', hv, _, _, hbs, hcell⟩ := h.row.form (by omega) (by omega)
  injection hv with u1 u2 u3
  obtain ⟨ds, _, hcc, v1, v2, v7, hds, _, h1, h2, _, _, _, h7⟩ := hcell i p hp
  subst hds
  obtain ⟨fa, fc, rfl, _⟩ := h1.len
  obtain ⟨na, nc, rfl, _⟩ := h2.row.len
  obtain ⟨ea, ec, rfl, _⟩ := h7.row.len
  exact ⟨b, o, p, fa, _, fc, na, _, nc, ea, _, ec, u1, u2, hp, hbs, by simpa using hcc 0 _ rfl, hcc 1 _ rfl, hcc 2 _ rfl, hcc 3 _ rfl, hcc 4 _ rfl, hcc 5 _ rfl, hcc 6 _ rfl, hcc 7 _ rfl, hcc 8 _ rfl, h1, h2, h7, rfl, rfl, rfl⟩
/-- the value that is looked for -/
def CapV (gb : Nat) (x : JV) (w : World) : Prop := ∃ v n, w.heap[gb]? = some (.cells #[v] 53 (0, 0)) ∧ JvAt n [] w v x ∧ TabOK w
theorem capV_keep (gb : Nat) (x : JV) (w w' : World) (h : CapV gb x w) (hb : Below w.heap.size w w') : CapV gb x w' := by
  obtain ⟨v, n, h1, h2, h3⟩ := h
  exact ⟨v, n, below_block hb h1, h2.below hb, h3.below hb⟩
set_option maxRecDepth 100000 in
set_option maxHeartbeats 1600000 in
theorem cloEnum_any (gb : Nat) (x : JV) (hx : (JP.text x).length ≤ 20000) (d : ByteArray) (w : World) (hd : d.size ≤ 1048576) (he : readE d = 0) (hc : CapV gb x w) :
    Calls Tryz.prog 77 #[.string d, .pointer (some ⟨gb, 0, none⟩)] w fun e w' => e = .returned (.bool (decide (JP.text x = JP.text (JP.readL d.data.toList).1))) ∧ Below w.heap.size w w' := by
  have HR := Lib.hid (read_any d w hd)
  have hz := (JP.read_fit' (a := d.data.toList) he).2.2.2
  obtain ⟨y, hy⟩ : ∃ y, (JP.readL d.data.toList).1 = y := ⟨_, rfl⟩
  rw [hy] at HR hz ⊢
  obtain ⟨e0, he0⟩ : ∃ y, (JP.readL d.data.toList).2 = y := ⟨_, rfl⟩
  rw [he0] at HR
  have HC := Lib.hid hc
  obtain ⟨bb, hbb⟩ : ∃ b, decide (JP.text x = JP.text y) = b := ⟨_, rfl⟩
  rw [hbb]
  have Hbb := Lib.hid hbb
  clear hd he hc hy he0 hbb
  go_enter Tryz.func77, Tryz.ntmps77
  go_wp2_with fail
  refine HR.out.mono ?_
  rintro E w1 ⟨u, rfl, ⟨n1, hu⟩, hb⟩
  obtain ⟨v, n, h1, h2, h3⟩ := capV_keep gb x w w1 HC.out hb
  have c0 := cell_block h1 0
  have hS := same_any h2 hu (by omega) (by omega) h3
  rw [Hbb.out] at hS
  have HS := Lib.hid hS
  have HB := Lib.hid hb
  clear h1 h2 h3 hu hb hS HR HC
  go_wp2_with fail
  refine HS.out.mono ?_
  rintro E w2 ⟨rfl, hb⟩
  have HB2 := Lib.hid (HB.out.trans (hb.mono HB.out.size))
  clear hb
  go_wp2_with fail
  go_ret
  exact ⟨rfl, HB2.out⟩
end Sch
end Go.Proofs.YtnmhjabihfhobaaGreatDoor
