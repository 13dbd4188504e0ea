/- Texts of ours joined. -/
import Derived.RangeFuncRecord
import Derived.RangeFuncSeq
import Derived.RangeFuncCalls
import Derived.RangeFuncOwn
import Derived.Lib.IndexBytes
import Derived.Lib.IndexLaws
import Derived.RangeFuncLeaves
import Derived.Shelf.Abstract
import Derived.Shelf.RegionOpen
import Derived.WalkKit
import Derived.OwnWalkIn
import Derived.TacticsInMore
import Derived.LoopNIn
import Derived.LoopIn
import Derived.IntWalk
import Derived.Test.YtnnceaapodgfbaaGreatDoorShelf
import Derived.Test.YtnnceaapodgfbaaGreatDoorChecked
import Derived.WalkSpells
import Derived.WalkLawsBesides
import Derived.Lib.Hide
import Derived.KernelRfl
import Derived.RangeFuncNested
import Derived.Deep.LoopGhost
import Derived.Deep.DeepCutAuto
import Derived.Deep.QuietTactic
import Derived.BigQuiet
import Derived.OwnWalk
import Derived.Test.YtnnceaapodgfbaaGreatDoorMw1
set_option linter.unusedVariables false
set_option linter.unusedSimpArgs false
namespace Go.Proofs.YtnnceaapodgfbaaGreatDoor
namespace Pag
open Go.RowKit
open JP (Bs)
theorem split_any (s : ByteArray) (c : UInt8) (m : Int) (w : World) (hs : s.size ≤ 16777216) (hm : MaxOK m w) :
    Calls Tryz.prog 105 #[.string s, .string ⟨#[c]⟩] w fun e w' => ∃ L : List ByteArray, L.map (·.data.toList) = splitL c s.data.toList ∧ e = .returned (.slice (some ⟨w.heap.size, 0, none⟩) L.length L.length) ∧
      w'.heap[w.heap.size]? = some (.cells (strs L).toArray 9 (0, 0)) ∧ w'.heap.size = w.heap.size + 1 ∧ Below w.heap.size w w' := by
  refine (Tryz.strings_Split s ⟨#[c]⟩ m w (by omega) hm (Nat.le_refl 1)).mono ?_
  rintro E w' ⟨rfl, rfl⟩
  have h1 : (Lib.splitB ⟨#[c]⟩ 0 (Lib.countB s ⟨#[c]⟩) s).length = Lib.countB s ⟨#[c]⟩ + 1 := Lib.splitB_all ⟨#[c]⟩ (Nat.le_refl 1) 0 _ s rfl
  refine ⟨Lib.splitB ⟨#[c]⟩ 0 (Lib.countB s ⟨#[c]⟩) s, ?_, by rw [h1], heap_alloc_at rfl, World.size_alloc _ _, (Below.refl _ w).alloc (Nat.le_refl _) _⟩
  rw [Lib.splitB_data]
  exact splitK_scan c s.data.toList
theorem joinC_any {w : World} {v : Value} {l : List ByteArray} (c : UInt8) (h : RowAt RString 1 w v l) (hl : l.length ≤ 1073741824) (h1 : (Lib.join (l.map (·.data.toList)) [c]).length ≤ 1073741824) :
    Calls Tryz.prog 101 #[v, .string ⟨#[c]⟩] w fun e w' => e = .returned (.string (mkB (Lib.join (l.map (·.data.toList)) [c]))) ∧ Below w.heap.size w w' := by
  by_cases h0 : 0 < l.length
  · obtain ⟨b, o, cp, rfl, hc, _, hbs, hcell⟩ := h.form h0 (by omega)
    refine Tryz.strings_Join b o cp l ⟨#[c]⟩ w (fun j x hx => ?_) hbs (by omega) hc ?_
    · obtain ⟨cs, _, h2, h3⟩ := hcell j x hx
      rw [h3] at h2
      have := h2 0 _ rfl
      simpa using this
    · show (Lib.join _ [c]).length ≤ _; omega
  · have hn : l = [] := List.eq_nil_of_length_eq_zero (by omega)
    subst hn
    obtain ⟨a, cp, rfl, _, _⟩ := h.len
    refine (Tryz.strings_Join_none a cp ⟨#[c]⟩ w).mono ?_
    rintro e w' ⟨rfl, rfl⟩
    exact ⟨rfl, Below.refl _ _⟩
end Pag
end Go.Proofs.YtnnceaapodgfbaaGreatDoor
namespace Go.Proofs.YtnnceaapodgfbaaGreatDoor
open Go.RowKit Go.ChangeShapes Go.WideShapes
structure GKey where
  kind : ByteArray
  space : ByteArray
  name : ByteArray
def KeyR : Rd GKey := fun _ cs x => cs = [.string x.kind, .string x.space, .string x.name]
def keyB (x : GKey) : Nat := ((x.kind.size + 1) + ((x.space.size + 1) + ((x.name.size + 1) + 0))) + 1
set_option maxRecDepth 10000 in
theorem opens_key : Opens Tryz.prog 24 KeyR keyB := by
  intro H enc w base spare held fuel cs x h
  obtain ⟨xs, n, _, rfl, hl, hx, hf⟩ := DataW.trod_struct Tryz.underlying24 h
  have hl2 : cs.length = 3 := hl.trans (by kernel_rfl)
  clear hl h
  match cs, hl2, xs, hx, hf with
  | [c0, c1, c2], _, [x0, x1, x2], _, hf =>
    obtain ⟨a0, r0, m0⟩ := (opens_string Tryz.underlying9).at (o := 0) (cs := [c0, c1, c2]) (ds := [c0]) (x := x0) (hf 0 _ rfl) (k := 1) (by kernel_rfl) rfl
    obtain ⟨a1, r1, m1⟩ := (opens_string Tryz.underlying9).at (o := 1) (cs := [c0, c1, c2]) (ds := [c1]) (x := x1) (hf 1 _ rfl) (k := 1) (by kernel_rfl) rfl
    obtain ⟨a2, r2, m2⟩ := (opens_string Tryz.underlying9).at (o := 2) (cs := [c0, c1, c2]) (ds := [c2]) (x := x2) (hf 2 _ rfl) (k := 1) (by kernel_rfl) rfl
    clear hf
    obtain rfl : c0 = .string a0 := by simpa [RString] using r0
    obtain rfl : c1 = .string a1 := by simpa [RString] using r1
    obtain rfl : c2 = .string a2 := by simpa [RString] using r2
    refine ⟨⟨a0, a1, a2⟩, rfl, ?_⟩
    simp only [List.map_cons, List.map_nil, Rows.uptoBulk, Rows.uptoBulkAll, keyB]
    omega
structure GLabel where
  key : ByteArray
  val : ByteArray
def LabelR : Rd GLabel := fun _ cs x => cs = [.string x.key, .string x.val]
theorem stays_label : Stays LabelR := fun _ _ _ _ _ h => h
def labelB (x : GLabel) : Nat := ((x.key.size + 1) + ((x.val.size + 1) + 0)) + 1
set_option maxRecDepth 10000 in
theorem opens_label : Opens Tryz.prog 66 LabelR labelB := by
  intro H enc w base spare held fuel cs x h
  obtain ⟨xs, n, _, rfl, hl, hx, hf⟩ := DataW.trod_struct Tryz.underlying66 h
  have hl2 : cs.length = 2 := hl.trans (by kernel_rfl)
  clear hl h
  match cs, hl2, xs, hx, hf with
  | [c0, c1], _, [x0, x1], _, hf =>
    obtain ⟨a0, r0, m0⟩ := (opens_string Tryz.underlying9).at (o := 0) (cs := [c0, c1]) (ds := [c0]) (x := x0) (hf 0 _ rfl) (k := 1) (by kernel_rfl) rfl
    obtain ⟨a1, r1, m1⟩ := (opens_string Tryz.underlying9).at (o := 1) (cs := [c0, c1]) (ds := [c1]) (x := x1) (hf 1 _ rfl) (k := 1) (by kernel_rfl) rfl
    clear hf
    obtain rfl : c0 = .string a0 := by simpa [RString] using r0
    obtain rfl : c1 = .string a1 := by simpa [RString] using r1
    refine ⟨⟨a0, a1⟩, rfl, ?_⟩
    simp only [List.map_cons, List.map_nil, Rows.uptoBulk, Rows.uptoBulkAll, labelB]
    omega
structure GObject where
  okey : GKey
  labels : List GLabel
  owners : List ByteArray
  holds : List ByteArray
  ending : Bool
  uid : ByteArray
  rev : Int
  doc : ByteArray
def ObjectR : Rd GObject := fun w cs x => ∃ v1 v2 v3, cs = [.string x.okey.kind, .string x.okey.space, .string x.okey.name, v1, v2, v3, .bool x.ending, .string x.uid, .int .i64 x.rev, .string x.doc] ∧ RowAt LabelR 2 w v1 x.labels ∧ StrAt w v2 x.owners ∧ StrAt w v3 x.holds ∧ (Lit.int .i64 x.rev).wf = true
theorem stays_object : Stays ObjectR := fun _ _ _ _ hk ⟨v1, v2, v3, h, g1, g2, g3, g6_0⟩ => ⟨v1, v2, v3, h, g1.keep stays_label hk, g2.keep hk, g3.keep hk, g6_0⟩
def objectB (x : GObject) : Nat := (keyB x.okey + (((x.labels.map labelB).sum + 1) + ((total x.owners + 1) + ((total x.holds + 1) + (1 + ((x.uid.size + 1) + (1 + ((x.doc.size + 1) + 0)))))))) + 1
set_option maxRecDepth 10000 in
theorem opens_object : Opens Tryz.prog 30 ObjectR objectB := by
  intro H enc w base spare held fuel cs x h
  obtain ⟨xs, n, _, rfl, hl, hx, hf⟩ := DataW.trod_struct Tryz.underlying30 h
  have hl2 : cs.length = 10 := hl.trans (by kernel_rfl)
  clear hl h
  match cs, hl2, xs, hx, hf with
  | [c0, c1, c2, c3, c4, c5, c6, c7, c8, c9], _, [x0, x1, x2, x3, x4, x5, x6, x7], _, hf =>
    obtain ⟨a0, r0, m0⟩ := (opens_key).at (o := 0) (cs := [c0, c1, c2, c3, c4, c5, c6, c7, c8, c9]) (ds := [c0, c1, c2]) (x := x0) (hf 0 _ rfl) (k := 3) (by kernel_rfl) rfl
    obtain ⟨a1, r1, m1⟩ := (opens_row (k := 2) Tryz.underlying27 (by kernel_rfl) opens_label).at (o := 3) (cs := [c0, c1, c2, c3, c4, c5, c6, c7, c8, c9]) (ds := [c3]) (x := x1) (hf 1 _ rfl) (k := 1) (by kernel_rfl) rfl
    obtain ⟨a2, r2, m2⟩ := (opens_strs Tryz.underlying28 Tryz.underlying9 (by kernel_rfl)).at (o := 4) (cs := [c0, c1, c2, c3, c4, c5, c6, c7, c8, c9]) (ds := [c4]) (x := x2) (hf 2 _ rfl) (k := 1) (by kernel_rfl) rfl
    obtain ⟨a3, r3, m3⟩ := (opens_strs Tryz.underlying28 Tryz.underlying9 (by kernel_rfl)).at (o := 5) (cs := [c0, c1, c2, c3, c4, c5, c6, c7, c8, c9]) (ds := [c5]) (x := x3) (hf 3 _ rfl) (k := 1) (by kernel_rfl) rfl
    obtain ⟨a4, r4, m4⟩ := (opens_bool Tryz.underlying4).at (o := 6) (cs := [c0, c1, c2, c3, c4, c5, c6, c7, c8, c9]) (ds := [c6]) (x := x4) (hf 4 _ rfl) (k := 1) (by kernel_rfl) rfl
    obtain ⟨a5, r5, m5⟩ := (opens_string Tryz.underlying9).at (o := 7) (cs := [c0, c1, c2, c3, c4, c5, c6, c7, c8, c9]) (ds := [c7]) (x := x5) (hf 5 _ rfl) (k := 1) (by kernel_rfl) rfl
    obtain ⟨a6, r6, m6⟩ := (opens_int Tryz.underlying3).at (o := 8) (cs := [c0, c1, c2, c3, c4, c5, c6, c7, c8, c9]) (ds := [c8]) (x := x6) (hf 6 _ rfl) (k := 1) (by kernel_rfl) rfl
    obtain ⟨a7, r7, m7⟩ := (opens_string Tryz.underlying9).at (o := 9) (cs := [c0, c1, c2, c3, c4, c5, c6, c7, c8, c9]) (ds := [c9]) (x := x7) (hf 7 _ rfl) (k := 1) (by kernel_rfl) rfl
    clear hf
    have q0 := r0
    simp only [KeyR, List.cons.injEq, and_true] at q0
    obtain ⟨rfl, rfl, rfl⟩ := q0
    obtain ⟨v1, r1, s1⟩ := r1
    obtain rfl : c3 = v1 := by simpa using r1
    obtain ⟨v2, r2, s2⟩ := r2
    obtain rfl : c4 = v2 := by simpa using r2
    obtain ⟨v3, r3, s3⟩ := r3
    obtain rfl : c5 = v3 := by simpa using r3
    obtain rfl : c6 = .bool a4 := by simpa [RBool] using r4
    obtain rfl : c7 = .string a5 := by simpa [RString] using r5
    obtain ⟨r6, w6⟩ := r6
    obtain rfl : c8 = .int .i64 a6 := by simpa using r6
    obtain rfl : c9 = .string a7 := by simpa [RString] using r7
    refine ⟨⟨a0, a1, a2, a3, a4, a5, a6, a7⟩, ⟨c3, c4, c5, rfl, s1, s2, s3, w6⟩, ?_⟩
    simp only [List.map_cons, List.map_nil, Rows.uptoBulk, Rows.uptoBulkAll, objectB]
    omega
end Go.Proofs.YtnnceaapodgfbaaGreatDoor
namespace Go.Proofs.YtnnceaapodgfbaaGreatDoor
open Go.RowKit Go.ChangeShapes Go.WideShapes
structure GEvent where
  kind : Int
  rev : Int
  object : GObject
structure GStoreStep where
  kind : Int
  rev : Int
  o : GObject
def StoreStepR : Rd GStoreStep := fun w cs x => ∃ (c2 : List Value), cs = [.int .i64 x.kind, .int .i64 x.rev] ++ c2 ∧ (Lit.int .i64 x.kind).wf = true ∧ (Lit.int .i64 x.rev).wf = true ∧ ObjectR w c2 x.o
def storeStepB (x : GStoreStep) : Nat := (1 + (1 + (objectB x.o + 0))) + 1
set_option maxRecDepth 10000 in
theorem opens_storeStep : Opens Tryz.prog 40 StoreStepR storeStepB := by
  intro H enc w base spare held fuel cs x h
  obtain ⟨xs, n, _, rfl, hl, hx, hf⟩ := DataW.trod_struct Tryz.underlying40 h
  have hl2 : cs.length = 12 := hl.trans (by kernel_rfl)
  clear hl h
  match cs, hl2, xs, hx, hf with
  | [c0, c1, c2, c3, c4, c5, c6, c7, c8, c9, c10, c11], _, [x0, x1, x2], _, hf =>
    obtain ⟨a0, r0, m0⟩ := (opens_int Tryz.underlying3).at (o := 0) (cs := [c0, c1, c2, c3, c4, c5, c6, c7, c8, c9, c10, c11]) (ds := [c0]) (x := x0) (hf 0 _ rfl) (k := 1) (by kernel_rfl) rfl
    obtain ⟨a1, r1, m1⟩ := (opens_int Tryz.underlying3).at (o := 1) (cs := [c0, c1, c2, c3, c4, c5, c6, c7, c8, c9, c10, c11]) (ds := [c1]) (x := x1) (hf 1 _ rfl) (k := 1) (by kernel_rfl) rfl
    obtain ⟨a2, r2, m2⟩ := (opens_object).at (o := 2) (cs := [c0, c1, c2, c3, c4, c5, c6, c7, c8, c9, c10, c11]) (ds := [c2, c3, c4, c5, c6, c7, c8, c9, c10, c11]) (x := x2) (hf 2 _ rfl) (k := 10) (by kernel_rfl) rfl
    clear hf
    obtain ⟨r0, w0⟩ := r0
    obtain rfl : c0 = .int .i64 a0 := by simpa using r0
    obtain ⟨r1, w1⟩ := r1
    obtain rfl : c1 = .int .i64 a1 := by simpa using r1
    refine ⟨⟨a0, a1, a2⟩, ⟨[c2, c3, c4, c5, c6, c7, c8, c9, c10, c11], rfl, w0, w1, r2⟩, ?_⟩
    simp only [List.map_cons, List.map_nil, Rows.uptoBulk, Rows.uptoBulkAll, storeStepB]
    omega
end Go.Proofs.YtnnceaapodgfbaaGreatDoor
namespace Go.Proofs.YtnnceaapodgfbaaGreatDoor
open Go.RowKit
def SeqEach {α : Type} (F : Fence) (n : Nat) (P : Program) (gf : Nat) (lb : Array Value) (enc : α → Value) (xs : List α) (bs b3 n0 : Nat) (w : World) : Prop :=
  ∀ (l : Nat) (J : List α → World → Prop) (W : World), (∀ k, k < n0 → W.heap[k]? = w.heap[k]?) → (∀ pre A B, J pre A → Touch bs A B → J pre B) →
    (∀ pre x W1, J pre W1 → pre.length < xs.length → YieldAt F (n - 1) P l #[enc x] W1 fun e W' => e = .returned (.bool true) ∧ J (pre ++ [x]) W' ∧ ∀ k, k < n0 → k ≠ b3 → W'.heap[k]? = W1.heap[k]?) →
    J [] W → CallsIn F n P gf (#[.func (.yield l) #[] #[]] ++ lb) W fun e W' => (∃ v, e = .returned v) ∧ J xs W'
def eachPost {α : Type} (I : List α → World → Prop) (xs : List α) (b3 : Nat) (W : World) : Exit → Act → World → Prop
  | .normal, _, W' => I xs W' ∧ W.heap.size ≤ W'.heap.size ∧ ∀ k, k < W.heap.size → k ≠ b3 → W'.heap[k]? = W.heap[k]?
  | _, _, _ => False
theorem below_putObj {B : Nat} (W : World) (l : Nat) (o : Obj) (h : B ≤ l) : Below B W (W.putObj l o) :=
  ⟨rfl, rfl, rfl, by simp, fun k hk => World.putObj_heap_other (by omega)⟩
theorem wpIn_range_each {α : Type} {F : Fence} {n : Nat} {P : Program} {g : Operand} {p : Tmp} {assign body : Code} {Q : Exit → Act → World → Prop} {a : Act} {w : World}
    (hro : F.round = none) (h1 : 1 ≤ n) {gf : Nat} {lb : Array Value} (hg : a.eval g = .func (.func gf) #[] lb) (hFg : F.fn gf) (eg : ∀ args w, (callFunc gf args).run P w = .ok (.enter gf args) w)
    {enc : α → Value} {xs : List α} {bs b3 : Nat} (hbs : bs < w.heap.size) (hb3 : b3 < w.heap.size) (hseq : SeqEach F (n - 1) P gf lb enc xs bs b3 w.heap.size w)
    (I : List α → World → Prop) (hI : ∀ pre A B, I pre A → Below w.heap.size A B → I pre B) (hIs : ∀ pre A B, I pre A → Touch bs A B → I pre B) (h0 : I [] w) (a₁ : α → Act)
    (hassign : ∀ (l : Nat) (x : α) (W : World) (K : Act → World → Prop), K (a₁ x) W →
      assign.wpIn (F.inRound l) (n - 1 - 1) P (Exit.then K (fun _ _ _ => False)) { tmps := a.tmps.setIfInBounds p (enc x), defers := [] } W)
    (hbody : ∀ (l : Nat) (pre : List α) (x : α) (W : World), I pre W → pre.length < xs.length → body.wpIn (F.inRound l) (n - 1 - 1) P (eachPost I (pre ++ [x]) b3 W) (a₁ x) W)
    (hdone : ∀ (D : Nat) (W : World), I xs W → W.heap[D]? = some (.deferred (some [])) → w.heap.size ≤ D → Q .normal { a with defers := { target := .collected D, args := #[] } :: a.defers } W) :
    (Code.rangeFunc g #[p] assign body).wpIn F n P Q a w := by
  refine wpIn_rangeFunc ?_
  intro fn hfn
  rw [hro]
  obtain ⟨rec, hrec⟩ : ∃ rec : LoopState → Loop, rec = fun st => { state := st, pending := none, fn, tmps := a.tmps, params := #[p], assign, body, defers := w.heap.size } := ⟨_, rfl⟩
  obtain ⟨W1, hW1⟩ : ∃ W1, (w.alloc (.deferred (some []))).alloc (.loop (rec .ready)) = W1 := ⟨_, rfl⟩
  have hL1 : W1.heap[w.heap.size + 1]? = some (.loop (rec .ready)) := by
    rw [← hW1]; have := World.alloc_heap_new (w.alloc (.deferred (some []))) (.loop (rec .ready)); rwa [World.size_alloc] at this
  have hK1 : W1.heap[w.heap.size]? = some (.deferred (some [])) := by
    rw [← hW1]; exact (Below.heap_alloc _ _ _ (by simp)).trans (World.alloc_heap_new w _)
  have hB1 : Below w.heap.size w W1 := by
    rw [← hW1]; exact ((Below.refl _ w).alloc (Nat.le_refl _) _).alloc (by simp) _
  refine ⟨w.heap.size + 1, [{ target := .collected w.heap.size, args := #[] }], W1, { target := .fn (.func gf) lb, args := #[.func (.yield (w.heap.size + 1)) #[] #[]] }, W1, gf,
    #[.func (.yield (w.heap.size + 1)) #[] #[]] ++ lb, W1, ?_, ?_, ?_, ?_, fun _ => h1, ?_⟩
  · rw [← hW1, hrec]; exact run_enterLoop_outer _ _ _ _ _
  · simp only [resolve, hg]
    simp [go_sem]
  · intro f' hf'; simp [Target.leads] at hf'; subst hf'; exact hFg
  · simp [invoke, go_sem, eg]
  · refine (hseq (w.heap.size + 1) (fun pre W => I pre W ∧ W.heap[w.heap.size + 1]? = some (.loop (rec .ready)) ∧ W.heap[w.heap.size]? = some (.deferred (some []))) W1
      (fun k hk => hB1.block k hk) (fun pre A B h ht => ⟨hIs pre A B h.1 ht, (ht.other _ (by omega)).trans h.2.1, (ht.other _ (by omega)).trans h.2.2⟩) ?_ ⟨hI _ _ _ h0 hB1, hL1, hK1⟩).mono ?_
    · rintro pre x W ⟨hi, hl, hk⟩ hlen
      have hlt : w.heap.size + 1 < W.heap.size := (Array.getElem?_eq_some_iff.1 hl).1
      have hy := run_yield (P := P) (args := #[enc x]) hl (by rw [hrec]; rfl)
      rw [hrec] at hy
      have hz : (Array.zip #[p] #[enc x]).foldl (fun (t : Array Value) (q : Tmp × Value) => t.setIfInBounds q.1 q.2) a.tmps = a.tmps.setIfInBounds p (enc x) := by simp
      simp only [] at hy
      rw [hz] at hy
      refine ⟨fn, _, assign, body, hy, roundIn_of_wpIn hfn ?_⟩
      refine hassign _ x W _ ?_
      refine ⟨_, run_beginRound hl (by rw [hrec]), ?_⟩
      obtain ⟨W2, hW2⟩ : ∃ W2, W.putObj (w.heap.size + 1) (.loop { rec .ready with state := .busy }) = W2 := ⟨_, rfl⟩
      have hl2 : W2.heap[w.heap.size + 1]? = some (.loop { rec .ready with state := .busy }) := by rw [← hW2]; exact World.putObj_heap_same hlt
      have hk2 : W2.heap[w.heap.size]? = some (.deferred (some [])) := by rw [← hW2]; exact (World.putObj_heap_other (by omega)).trans hk
      have hB2 : Below w.heap.size W W2 := by rw [← hW2]; exact below_putObj W _ _ (by omega)
      have hs2 : W2.heap.size = W.heap.size := by rw [← hW2]; simp
      rw [hW2]
      refine wpIn_mono (hbody _ pre x _ (hI _ _ _ hi hB2) hlen) ?_
      rintro e a3 W3 hp
      cases e with
      | normal =>
        obtain ⟨hi3, hs3, hk3⟩ := hp
        have hl3 : W3.heap[w.heap.size + 1]? = some (.loop { rec .ready with state := .busy }) := (hk3 _ (by omega) (by omega)).trans hl2
        have hd3 : W3.heap[w.heap.size]? = some (.deferred (some [])) := (hk3 _ (by omega) (by omega)).trans hk2
        have he := run_endRound (P := P) none hl3
        refine ⟨_, _, he, rfl, ⟨hI _ _ _ hi3 (below_putObj W3 _ _ (by omega)), ?_, (World.putObj_heap_other (by omega)).trans hd3⟩, fun k hk hne => ?_⟩
        · rw [World.putObj_heap_same (Array.getElem?_eq_some_iff.1 hl3).1, hrec]; rfl
        · rw [World.putObj_heap_other (by omega), hk3 k (by omega) hne]
          exact hB2.block k hk
      | ret => exact hp.elim
      | exit id => exact hp.elim
      | goto t => exact hp.elim
      | panic ch => exact hp.elim
      | outgrown => exact hp.elim
    · rintro e W2 ⟨⟨v, rfl⟩, hi, hl, hk⟩
      have he := run_endLoop (P := P) hl (by rw [hrec]; simp)
      rw [hrec] at he
      refine ⟨none, _, he, hdone _ _ (hI _ _ _ hi (below_putObj W2 _ _ (by omega))) ((World.putObj_heap_other (by omega)).trans hk) (Nat.le_refl _)⟩
end Go.Proofs.YtnnceaapodgfbaaGreatDoor
namespace Go.Proofs.YtnnceaapodgfbaaGreatDoor
open Go.RowKit
attribute [local go_sem] Oper.semAt_some
theorem splitL_miss {c : UInt8} {l : List UInt8} (h : Lib.indexByte l c = -1) : splitL c l = [l] := by
  refine splitL_one c l fun hm => ?_
  obtain ⟨k, hk⟩ := List.getElem?_of_mem hm
  exact Lib.indexByte_none h k hk
def partsB (c : UInt8) (s : ByteArray) : List ByteArray := (splitL c s.data.toList).map fun l => ⟨l.toArray⟩
theorem partsB_miss {c : UInt8} {s : ByteArray} (h : Lib.indexByte s.data.toList c = -1) : partsB c s = [s] := by
  unfold partsB
  rw [splitL_miss h]
  simp
theorem partsB_hit {c : UInt8} {s : ByteArray} {i : Nat} (h : Lib.indexByte s.data.toList c = (i : Int)) : partsB c s = s.extract 0 i :: partsB c (s.extract (i + 1) s.size) := by
  obtain ⟨h1, h2⟩ := Lib.indexByte_some h
  have h3 : s.data.toList = s.data.toList.take i ++ c :: s.data.toList.drop (i + 1) := by
    obtain ⟨hl, he⟩ := List.getElem?_eq_some_iff.1 h1
    rw [← he, ← List.drop_eq_getElem_cons hl, List.take_append_drop]
  have h4 : c ∉ s.data.toList.take i := fun hm => by
    obtain ⟨k, hk⟩ := List.getElem?_of_mem hm
    have hki : k < i := by have := (List.getElem?_eq_some_iff.1 hk).1; simp at this; omega
    rw [List.getElem?_take_of_lt hki] at hk
    exact h2 k hki hk
  unfold partsB
  rw [h3, splitL_cut c _ _ h4, List.map_cons]
  congr 1
  · apply ByteArray.ext
    rw [ByteArray.data_extract]
    apply Array.toList_inj.1
    simp
  · congr 2
    rw [Lib.extract_to_end]
def leftS (b : Nat) (W : World) : Nat := match W.cell? ⟨b, 0, none⟩ with
  | some (.string r) => r.size + 1
  | _ => 0
set_option maxRecDepth 100000 in
set_option maxHeartbeats 2000000 in
theorem splitSeq_each (n : Nat) (hn : 1 ≤ n) (s : ByteArray) (c : UInt8) (bs bsep bsv b3 n0 : Nat) (w : World) (hbs : w.heap[bs]? = some (.cells #[.string s] 9 (0, 0))) (hsep : w.heap[bsep]? = some (.cells #[.string ⟨#[c]⟩] 9 (0, 0)))
    (hsv : w.heap[bsv]? = some (.cells #[.int .i64 0] 3 (0, 0))) (h1 : bs < n0 ∧ bs ≠ b3) (h2 : bsep < n0 ∧ bsep ≠ b3 ∧ bsep ≠ bs) (h3 : bsv < n0 ∧ bsv ≠ b3 ∧ bsv ≠ bs) (hs : s.size ≤ 8388608) :
    SeqEach Fence.wide n Tryz.prog 176 #[.pointer (some ⟨bsep, 0, none⟩), .pointer (some ⟨bs, 0, none⟩), .pointer (some ⟨bsv, 0, none⟩)] Value.string (partsB c s) bs b3 n0 w := by
  intro l J W hW hJt hY h0
  have wbs := cell_block ((hW bs h1.1).trans hbs)
  have wsep := cell_block ((hW bsep h2.1).trans hsep)
  have wsv := cell_block ((hW bsv h3.1).trans hsv)
  refine callsIn_of_wp Tryz.func176 rfl trivial ?_ rfl
  simp only [Tryz.ntmps176, List.size_toArray, List.length_cons, List.length_nil, Nat.reduceAdd, Nat.reduceSub, Array.replicate_succ, Array.replicate_zero, List.push_toArray, List.append_toArray, List.nil_append, List.cons_append]
  gi_wp2
  gi_loopw [7] (fun p wr => ∃ (pre : List ByteArray) (r : ByteArray), pre ++ partsB c r = partsB c s ∧ J pre wr ∧ wr.heap[bs]? = some (.cells #[.string r] 9 (0, 0)) ∧ wr.heap[bsep]? = some (.cells #[.string ⟨#[c]⟩] 9 (0, 0)) ∧ wr.heap[bsv]? = some (.cells #[.int .i64 0] 3 (0, 0)) ∧ r.size ≤ 8388608) (fun p wr => leftS bs wr)
  case atStart => exact ⟨[], s, rfl, h0, (hW bs h1.1).trans hbs, (hW bsep h2.1).trans hsep, (hW bsv h3.1).trans hsv, hs⟩
  case round =>
    clear wbs wsep wsv
    obtain ⟨pre, r, hpre, hJ, xbs, xsep, xsv, hr⟩ := hrel
    have wbs := cell_block xbs
    have wsep := cell_block xsep
    have wsv := cell_block xsv
    have hpl : (partsB c s).length = pre.length + (partsB c r).length := by rw [← hpre, List.length_append]
    by_cases hi : Lib.indexByte r.data.toList c = -1
    · have hp1 := partsB_miss hi
      have Hpre : Hid (pre ++ [r] = partsB c s) := Lib.hid (by rw [← hp1, hpre])
      have q0 : Lib.indexByte r.data.toList c < 0 := by omega
      obtain ⟨fn, tmps, assign, body, hy, hR⟩ := hY pre r wr hJ (by rw [hpl, hp1]; simp)
      have HR := Lib.hid hR
      clear hi hp1 hpl hpre hR
      gi_wp2_with (refine ⟨trivial, ?_⟩; gi_at_call 171; refine (callsIn_wide.2 (Tryz.strings_Index_one _ _ _)).mono ?_; rintro e w' ⟨rfl, rfl⟩)
      refine HR.out.mono ?_
      rintro e W' ⟨rfl, hJ', hk⟩
      gi_wp2
      go_end0
      exact ⟨⟨_, rfl⟩, by rw [← Hpre.out]; exact hJ'⟩
    · have hge := Lib.indexByte_ge r.data.toList c
      obtain ⟨i, hi2⟩ : ∃ i : Nat, Lib.indexByte r.data.toList c = (i : Int) := ⟨(Lib.indexByte r.data.toList c).toNat, by omega⟩
      have q0 : ¬ (i : Int) < 0 := by omega
      have hir : i < r.size := by
        have := (List.getElem?_eq_some_iff.1 (Lib.indexByte_some hi2).1).1
        simpa using this
      have q1 : (0 : Int) ≤ (i : Int) := by omega
      have q2 : (i : Int) ≤ (r.size : Int) := by omega
      have q3 : (i : Int) + 1 ≤ (r.size : Int) := by omega
      have q4 : (0 : Int) ≤ (i : Int) + 1 := by omega
      have Hi := Lib.hid hi2
      have hp1 : partsB c r = r.extract 0 i :: partsB c (r.extract (i + 1) r.size) := partsB_hit hi2
      have Hpre : Hid ((pre ++ [r.extract 0 i]) ++ partsB c (r.extract (i + 1) r.size) = partsB c s) := Lib.hid (by rw [← hpre, hp1, List.append_assoc]; rfl)
      obtain ⟨fn, tmps, assign, body, hy, hR⟩ := hY pre (r.extract 0 i) wr hJ (by rw [hpl, hp1]; simp)
      have HR := Lib.hid hR
      clear hi hge hi2 hp1 hpl hpre hR hY hJ
      gi_wp2_with (refine ⟨trivial, ?_⟩; gi_at_call 171; refine (callsIn_wide.2 (Tryz.strings_Index_one _ _ _)).mono ?_; rintro e w' ⟨rfl, rfl⟩; rw [Hi.out])
      refine HR.out.mono ?_
      rintro e W' ⟨rfl, hJ', hk⟩
      clear wbs wsep wsv hy
      have ybs := (hk bs h1.1 h1.2).trans xbs
      have ysep := (hk bsep h2.1 h2.2.1).trans xsep
      have ysv := (hk bsv h3.1 h3.2.1).trans xsv
      have wbs := cell_block ybs
      have fbs := free_block ybs
      have wsep := cell_block ysep
      have wsv := cell_block ysv
      gi_wp2
      go_roundw
      case rel =>
        have t := touch_setCell (i := 0) (v := .string (r.extract (i + 1) r.size)) ybs
        refine ⟨pre ++ [r.extract 0 i], r.extract (i + 1) r.size, Hpre.out, hJt _ _ _ hJ' t.2, t.1, (t.2.other _ h2.2.2).trans ysep, (t.2.other _ h3.2.2).trans ysv, ?_⟩
        rw [ByteArray.size_extract]; omega
      case measure =>
        have t := touch_setCell (i := 0) (v := .string (r.extract (i + 1) r.size)) ybs
        unfold leftS
        rw [cell_block t.1 0, cell_block xbs 0]
        show (r.extract (i + 1) r.size).size + 1 < r.size + 1
        rw [ByteArray.size_extract]; omega
end Go.Proofs.YtnnceaapodgfbaaGreatDoor
namespace Go.Proofs.YtnnceaapodgfbaaGreatDoor
open Go.RowKit
theorem byteRanges (c : Nat) : c < 48 ∨ (48 ≤ c ∧ c ≤ 57) ∨ (57 < c ∧ c < 65) ∨ (65 ≤ c ∧ c ≤ 90) ∨ (90 < c ∧ c < 97) ∨ (97 ≤ c ∧ c ≤ 122) ∨ 122 < c := by omega
set_option maxHeartbeats 800000 in
theorem isEdge_any (c : Nat) (w : World) (_h8 : c < 256) :
    Calls Tryz.prog 147 #[.int .u8 (c : Int)] w fun e w' => e = .returned (.bool (NameP.edge c)) ∧ w = w' := by
  rcases byteRanges c with h | ⟨h, h'⟩ | ⟨h, h'⟩ | ⟨h, h'⟩ | ⟨h, h'⟩ | ⟨h, h'⟩ | h
  all_goals
    go_enter Tryz.func147, Tryz.ntmps147
    go_wp2
    go_ret
    exact ⟨congrArg (fun b => Ending.returned (.bool b)) (by unfold NameP.edge; rw [Bool.eq_iff_iff]; simp; omega), rfl⟩
set_option maxHeartbeats 800000 in
theorem isLow_any (c : Nat) (w : World) (h8 : c < 256) :
    Calls Tryz.prog 145 #[.int .u8 (c : Int)] w fun e w' => e = .returned (.bool (NameP.low c)) ∧ w = w' := by
  cases he : NameP.edge c with
  | false =>
    have He := Lib.hid he; clear he
    go_enter Tryz.func145, Tryz.ntmps145
    go_wp2_with fail
    refine (isEdge_any c _ h8).mono ?_
    rintro e w' ⟨rfl, rfl⟩
    rw [He.out]
    go_wp2
    go_ret
    exact ⟨congrArg (fun b => Ending.returned (.bool b)) (by simp [NameP.low, He.out]), rfl⟩
  | true =>
    have He := Lib.hid he; clear he
    by_cases h1 : c < 65
    · go_enter Tryz.func145, Tryz.ntmps145
      go_wp2_with fail
      refine (isEdge_any c _ h8).mono ?_
      rintro e w' ⟨rfl, rfl⟩
      rw [He.out]
      go_wp2
      go_ret
      exact ⟨congrArg (fun b => Ending.returned (.bool b)) (by unfold NameP.low; rw [He.out, Bool.eq_iff_iff]; simp; omega), rfl⟩
    · by_cases h2 : 90 < c
      · go_enter Tryz.func145, Tryz.ntmps145
        go_wp2_with fail
        refine (isEdge_any c _ h8).mono ?_
        rintro e w' ⟨rfl, rfl⟩
        rw [He.out]
        go_wp2
        go_ret
        exact ⟨congrArg (fun b => Ending.returned (.bool b)) (by unfold NameP.low; rw [He.out, Bool.eq_iff_iff]; simp; omega), rfl⟩
      · go_enter Tryz.func145, Tryz.ntmps145
        go_wp2_with fail
        refine (isEdge_any c _ h8).mono ?_
        rintro e w' ⟨rfl, rfl⟩
        rw [He.out]
        go_wp2
        go_ret
        exact ⟨congrArg (fun b => Ending.returned (.bool b)) (by unfold NameP.low; rw [He.out, Bool.eq_iff_iff]; simp; omega), rfl⟩
theorem dash_any (c : Nat) (w : World) (_h8 : c < 256) :
    Calls Tryz.prog 146 #[.int .u8 (c : Int)] w fun e w' => e = .returned (.bool (NameP.dash c)) ∧ w = w' := by
  by_cases h : c = 45
  · subst h
    go_enter Tryz.func146, Tryz.ntmps146
    go_wp2
    go_ret
    exact ⟨rfl, rfl⟩
  · have hc : ((c : Int) == 45) = false := by rw [beq_eq_false_iff_ne]; omega
    have Hc := Lib.hid h; clear h
    go_enter Tryz.func146, Tryz.ntmps146
    go_wp2
    go_ret
    exact ⟨congrArg (fun b => Ending.returned (.bool b)) (by simp [NameP.dash]; exact Hc.out), rfl⟩
theorem wordIn_any (c : Nat) (w : World) (_h8 : c < 256) :
    Calls Tryz.prog 148 #[.int .u8 (c : Int)] w fun e w' => e = .returned (.bool (NameP.wordIn c)) ∧ w = w' := by
  by_cases h : c = 45
  · subst h
    go_enter Tryz.func148, Tryz.ntmps148
    go_wp2
    go_ret
    exact ⟨rfl, rfl⟩
  · have hc : ((c : Int) == 45) = false := by rw [beq_eq_false_iff_ne]; omega
    by_cases h2 : c = 95
    · subst h2
      go_enter Tryz.func148, Tryz.ntmps148
      go_wp2
      go_ret
      exact ⟨rfl, rfl⟩
    · have hc2 : ((c : Int) == 95) = false := by rw [beq_eq_false_iff_ne]; omega
      by_cases h3 : c = 46
      · subst h3
        go_enter Tryz.func148, Tryz.ntmps148
        go_wp2
        go_ret
        exact ⟨rfl, rfl⟩
      · have hc3 : ((c : Int) == 46) = false := by rw [beq_eq_false_iff_ne]; omega
        have Hc := Lib.hid (And.intro h (And.intro h2 h3)); clear h h2 h3
        go_enter Tryz.func148, Tryz.ntmps148
        go_wp2
        go_ret
        exact ⟨congrArg (fun b => Ending.returned (.bool b)) (by have := Hc.out; simp [NameP.wordIn]; exact ⟨⟨this.1, this.2.1⟩, this.2.2⟩), rfl⟩
end Go.Proofs.YtnnceaapodgfbaaGreatDoor
namespace Go.Proofs.YtnnceaapodgfbaaGreatDoor
open Go.RowKit
structure Tells (f : FuncId) (p : Nat → Bool) : Prop where
  enter : ∀ (a : Array Value) (w : World), (callFunc f a).run Tryz.prog w = .ok (.enter f a) w
  calls : ∀ (c : Nat) (w : World), c < 256 → Calls Tryz.prog f #[.int .u8 (c : Int)] w fun e w' => e = .returned (.bool (p c)) ∧ w = w'
theorem low_tells : Tells 145 NameP.low := ⟨run_callFunc_body Tryz.func145 (by kernel_rfl) (by kernel_rfl), fun c w h => isLow_any c w h⟩
theorem edge_tells : Tells 147 NameP.edge := ⟨run_callFunc_body Tryz.func147 (by kernel_rfl) (by kernel_rfl), fun c w h => isEdge_any c w h⟩
theorem dash_tells : Tells 146 NameP.dash := ⟨run_callFunc_body Tryz.func146 (by kernel_rfl) (by kernel_rfl), fun c w h => dash_any c w h⟩
theorem wordIn_tells : Tells 148 NameP.wordIn := ⟨run_callFunc_body Tryz.func148 (by kernel_rfl) (by kernel_rfl), fun c w h => wordIn_any c w h⟩
theorem made_nil {e v : Nat → Bool} {s : ByteArray} (h : s.toList = []) : NameP.made e v s.data.toList = false := by
  rw [ByteArray.toList_eq] at h; rw [h]; rfl
theorem made_cons {p q : Nat → Bool} (s : ByteArray) (h : 1 ≤ s.size) :
    NameP.made p q s.data.toList = (p s[0].toNat && p s[s.size - 1].toNat && s.data.toList.all fun c => p c.toNat || q c.toNat) := by
  have hl : s.data.toList.length = s.size := by simp
  have h0 : s.data.toList[0]? = some s[0] := by rw [List.getElem?_eq_getElem (by omega)]; rfl
  have h1 : s.data.toList.getLast? = some s[s.size - 1] := by
    rw [List.getLast?_eq_getElem?, hl, List.getElem?_eq_getElem (by omega)]; rfl
  cases hd : s.data.toList with
  | nil => rw [hd] at hl; simp at hl; omega
  | cons x r =>
    rw [hd] at h0 h1
    simp only [List.getElem?_cons_zero, Option.some.injEq] at h0
    rw [List.getLast?_eq_some_getLast (by simp)] at h1
    simp only [Option.some.injEq] at h1
    unfold NameP.made
    rw [← h0, ← h1]
theorem all_snocM {s : ByteArray} {k : Nat} {f : UInt8 → Bool} (h : k < s.size) (ha : Hid ((s.data.toList.take k).all f = true)) (hk : f s[k] = true) : Hid ((s.data.toList.take (k + 1)).all f = true) := by
  show _ = _
  rw [take_snoc s k h, List.all_append, ha.out]
  simp [hk]
theorem all_not {s : ByteArray} {k : Nat} {f : UInt8 → Bool} (h : k < s.size) (hk : f s[k] = false) : s.data.toList.all f = false := by
  rw [List.all_eq_false]
  refine ⟨s[k], ?_, by rw [hk]; simp⟩
  have : s[k] = s.data.toList[k]'(by simpa using h) := rfl
  rw [this]
  exact List.getElem_mem _
set_option maxRecDepth 100000 in
set_option maxHeartbeats 1600000 in
theorem made_any {ef vf : FuncId} {p q : Nat → Bool} (hp : Tells ef p) (hq : Tells vf q) (s : ByteArray) (w : World) (hs : s.size ≤ 1099511627776) :
    Calls Tryz.prog 144 #[.string s, .func (.func ef) #[] #[], .func (.func vf) #[] #[]] w fun e w' => e = .returned (.bool (NameP.made p q s.data.toList)) ∧ w = w' := by
  by_cases h0 : s.size = 0
  · have hl : s.toList = [] := by rw [ByteArray.toList_eq]; exact List.eq_nil_of_length_eq_zero (by simpa using h0)
    have Hm := Lib.hid (made_nil (e := p) (v := q) hl)
    have hle : s.toList.isEmpty = true := by rw [hl]; rfl
    clear h0
    go_enter Tryz.func144, Tryz.ntmps144
    go_wp2
    go_ret
    exact ⟨by rw [Hm.out]; rfl, rfl⟩
  · have h1 : 1 ≤ s.size := by omega
    have hne : (!s.toList.isEmpty) = true := by
      rw [ByteArray.toList_eq]
      have hl : s.data.toList.length = s.size := by simp
      cases hd : s.data.toList with | nil => rw [hd] at hl; simp at hl; omega | cons x r => rfl
    have hne2 : s.toList.isEmpty = false := by simpa using hne
    have HM := Lib.hid (made_cons (p := p) (q := q) s h1)
    clear h0
    have c0 : s[0].toNat < 256 := s[0].toNat_lt
    have cl : s[s.size - 1].toNat < 256 := s[s.size - 1].toNat_lt
    have i0 : (0 : Int) < (s.size : Int) := by omega
    have i1 : (0 : Int) ≤ (s.size : Int) - 1 := by omega
    have i2 : (s.size : Int) - 1 < (s.size : Int) := by omega
    have i3 : ((s.size : Int) - 1).toNat = s.size - 1 := by omega
    have ep := hp.enter
    have eq := hq.enter
    cases h2 : p s[0].toNat with
    | false =>
      have H2 := Lib.hid h2; clear h2
      go_enter Tryz.func144, Tryz.ntmps144
      go_wp2_with fail
      refine (hp.calls _ _ c0).mono ?_
      rintro e w' ⟨rfl, rfl⟩
      rw [H2.out]
      go_wp2_with fail
      go_ret
      exact ⟨congrArg (fun b => Ending.returned (.bool b)) (by rw [HM.out, H2.out]; rfl), rfl⟩
    | true =>
      have H2 := Lib.hid h2; clear h2
      cases h3 : p s[s.size - 1].toNat with
      | false =>
        have H3 := Lib.hid h3; clear h3
        go_enter Tryz.func144, Tryz.ntmps144
        go_wp2_with fail
        refine (hp.calls _ _ c0).mono ?_
        rintro e w' ⟨rfl, rfl⟩
        rw [H2.out]
        go_wp2_with fail
        refine (hp.calls _ _ cl).mono ?_
        rintro e w' ⟨rfl, rfl⟩
        rw [H3.out]
        go_wp2_with fail
        go_ret
        exact ⟨congrArg (fun b => Ending.returned (.bool b)) (by rw [HM.out, H2.out, H3.out]; rfl), rfl⟩
      | true =>
        have H3 := Lib.hid h3; clear h3
        go_enter Tryz.func144, Tryz.ntmps144
        go_wp2_with fail
        refine (hp.calls _ _ c0).mono ?_
        rintro e w' ⟨rfl, rfl⟩
        rw [H2.out]
        go_wp2_with fail
        refine (hp.calls _ _ cl).mono ?_
        rintro e w' ⟨rfl, rfl⟩
        rw [H3.out]
        go_wp2_with fail
        go_loop [29] (fun i => ∃ k : Nat, k ≤ s.size ∧ i = .int .i64 k ∧ Hid (((s.data.toList.take k).all fun c => p c.toNat || q c.toNat) = true)) (fun i => s.size - (intOf i).toNat)
        case atStart => exact ⟨0, Nat.zero_le _, rfl, by show _ = _; simp⟩
        case round =>
          obtain ⟨k, hk, rfl, HA⟩ := hrel
          by_cases hlt : k < s.size
          · have ck : s[k].toNat < 256 := s[k].toNat_lt
            have j0 : (0 : Int) ≤ (k : Int) := by omega
            have j1 : (k : Int) < (s.size : Int) := by omega
            cases h4 : p s[k].toNat with
            | true =>
              have H4 := Lib.hid h4; clear h4
              go_wp2_with fail
              refine (hp.calls _ _ ck).mono ?_
              rintro e w' ⟨rfl, rfl⟩
              rw [H4.out]
              go_wp2_with fail
              go_round
              case rel => exact ⟨k + 1, by omega, by go_num, all_snocM hlt HA (by rw [H4.out]; rfl)⟩
              case measure => simp [intOf]; omega
            | false =>
              have H4 := Lib.hid h4; clear h4
              cases h5 : q s[k].toNat with
              | true =>
                have H5 := Lib.hid h5; clear h5
                go_wp2_with fail
                refine (hp.calls _ _ ck).mono ?_
                rintro e w' ⟨rfl, rfl⟩
                rw [H4.out]
                go_wp2_with fail
                refine (hq.calls _ _ ck).mono ?_
                rintro e w' ⟨rfl, rfl⟩
                rw [H5.out]
                go_wp2_with fail
                go_round
                case rel => exact ⟨k + 1, by omega, by go_num, all_snocM hlt HA (by rw [H4.out, H5.out]; rfl)⟩
                case measure => simp [intOf]; omega
              | false =>
                have H5 := Lib.hid h5; clear h5
                go_wp2_with fail
                refine (hp.calls _ _ ck).mono ?_
                rintro e w' ⟨rfl, rfl⟩
                rw [H4.out]
                go_wp2_with fail
                refine (hq.calls _ _ ck).mono ?_
                rintro e w' ⟨rfl, rfl⟩
                rw [H5.out]
                go_wp2_with fail
                go_ret
                exact ⟨congrArg (fun b => Ending.returned (.bool b)) (by rw [HM.out, all_not hlt (by rw [H4.out, H5.out]; rfl)]; simp), rfl⟩
          · go_wp2_with fail
            go_ret
            refine ⟨congrArg (fun b => Ending.returned (.bool b)) ?_, rfl⟩
            have := HA.out
            rw [List.take_of_length_le (by simp; omega)] at this
            rw [HM.out, H2.out, H3.out, this]; rfl
set_option maxHeartbeats 800000 in
theorem judge_any (s : ByteArray) (most : Nat) (b : Bool) (w : World) (_hs : s.size ≤ 1099511627776) (_hm : most ≤ 1000) :
    Calls Tryz.prog 116 #[.string s, .int .i64 (most : Int), .bool b] w fun e w' => e = .returned (.int .i64 (NameP.judge s.size most b)) ∧ w = w' := by
  by_cases h : most < s.size
  · go_enter Tryz.func116, Tryz.ntmps116
    go_wp2
    go_ret
    exact ⟨congrArg (fun b => Ending.returned (.int .i64 b)) (by unfold NameP.judge; rw [if_pos h]), rfl⟩
  · cases b
    all_goals
      go_enter Tryz.func116, Tryz.ntmps116
      go_wp2
      go_ret
      exact ⟨congrArg (fun b => Ending.returned (.int .i64 b)) (by unfold NameP.judge; rw [if_neg h]; rfl), rfl⟩
theorem isName_any (s : ByteArray) (w : World) (hs : s.size ≤ 1099511627776) :
    Calls Tryz.prog 115 #[.string s] w fun e w' => e = .returned (.bool (NameP.isName s.data.toList)) ∧ w = w' := by
  go_enter Tryz.func115, Tryz.ntmps115
  go_wp2_with fail
  refine (made_any low_tells dash_tells s _ hs).mono ?_
  rintro e w' ⟨rfl, rfl⟩
  go_wp2_with fail
  go_ret
  exact ⟨rfl, rfl⟩
theorem check_any (s : ByteArray) (w : World) (hs : s.size ≤ 1099511627776) :
    Calls Tryz.prog 89 #[.string s] w fun e w' => e = .returned (.int .i64 (NameP.check s.data.toList)) ∧ w = w' := by
  go_enter Tryz.func89, Tryz.ntmps89
  go_wp2_with fail
  refine (isName_any s _ hs).mono ?_
  rintro e w' ⟨rfl, rfl⟩
  go_wp2_with fail
  refine (judge_any s 63 _ _ hs (by omega)).mono ?_
  rintro e w' ⟨rfl, rfl⟩
  go_wp2_with fail
  go_ret
  exact ⟨by simp [NameP.check], rfl⟩
theorem isWord_any (s : ByteArray) (w : World) (hs : s.size ≤ 1099511627776) :
    Calls Tryz.prog 117 #[.string s] w fun e w' => e = .returned (.bool (NameP.isWord s.data.toList)) ∧ w = w' := by
  go_enter Tryz.func117, Tryz.ntmps117
  go_wp2_with fail
  refine (made_any edge_tells wordIn_tells s _ hs).mono ?_
  rintro e w' ⟨rfl, rfl⟩
  go_wp2_with fail
  go_ret
  exact ⟨rfl, rfl⟩
end Go.Proofs.YtnnceaapodgfbaaGreatDoor
namespace Go.Proofs.YtnnceaapodgfbaaGreatDoor
open Go.RowKit
attribute [local go_sem] Oper.semAt_some
namespace NameP
def part (l : List UInt8) : Bool := decide (l.length ≤ 63) && isName l
def keyGood (l : List UInt8) : Bool :=
  if (Lib.cut l [47]).2.2 = true then (splitL 46 (Lib.cut l [47]).1).all part && (decide ((Lib.cut l [47]).2.1.length ≤ 63) && isWord (Lib.cut l [47]).2.1)
  else decide ((Lib.cut l [47]).1.length ≤ 63) && isWord (Lib.cut l [47]).1
def checkKey (l : List UInt8) : Int := judge l.length 64 (keyGood l)
end NameP
set_option maxRecDepth 100000 in
theorem splitSeq0_any (s : ByteArray) (c : UInt8) (w : World) :
    Calls Tryz.prog 143 #[.string s, .string ⟨#[c]⟩, .int .i64 0] w fun e w' => e = .returned (.func (.func 176) #[] #[.pointer (some ⟨w.heap.size + 1, 0, none⟩), .pointer (some ⟨w.heap.size, 0, none⟩), .pointer (some ⟨w.heap.size + 2, 0, none⟩)]) ∧
      w' = ((w.alloc (.cells #[.string s] 9)).alloc (.cells #[.string ⟨#[c]⟩] 9)).alloc (.cells #[.int .i64 0] 3) := by
  go_enter Tryz.func143, Tryz.ntmps143
  go_wp2_with fail
  go_ret
  exact ⟨by simp, rfl⟩
set_option maxRecDepth 100000 in
theorem splitSeq_any (s : ByteArray) (c : UInt8) (w : World) :
    Calls Tryz.prog 114 #[.string s, .string ⟨#[c]⟩] w fun e w' => e = .returned (.func (.func 176) #[] #[.pointer (some ⟨w.heap.size + 1, 0, none⟩), .pointer (some ⟨w.heap.size, 0, none⟩), .pointer (some ⟨w.heap.size + 2, 0, none⟩)]) ∧
      w' = ((w.alloc (.cells #[.string s] 9)).alloc (.cells #[.string ⟨#[c]⟩] 9)).alloc (.cells #[.int .i64 0] 3) := by
  go_enter Tryz.func114, Tryz.ntmps114
  go_wp2_with fail
  refine (splitSeq0_any _ _ _).mono ?_
  rintro E w' ⟨rfl, rfl⟩
  go_wp2_with fail
  go_ret
  exact ⟨rfl, rfl⟩
theorem all_snoc1 {α : Type} (f : α → Bool) (l : List α) (x : α) : (l ++ [x]).all f = (l.all f && f x) := by simp
theorem below_drewN (B : Nat) (w : World) (k : Nat) : Below B w (w.drewN k) := ⟨rfl, rfl, rfl, Nat.le_refl _, fun _ _ => rfl⟩
theorem cut_len (s : ByteArray) (l : List UInt8) (h : s.size ≤ 8388608) : (Lib.cut s.data.toList l).1.length ≤ 8388608 ∧ (Lib.cut s.data.toList l).2.1.length ≤ 8388608 := by
  have h1 : s.data.toList.length = s.size := by simp
  unfold Lib.cut
  split
  · refine ⟨?_, ?_⟩ <;> simp <;> omega
  · refine ⟨?_, ?_⟩ <;> simp <;> omega
def partB (x : ByteArray) : Bool := NameP.part x.data.toList
set_option maxRecDepth 100000 in
set_option maxHeartbeats 4000000 in
theorem checkKey_any (s : ByteArray) (m : Int) (w : World) (hs : s.size ≤ 8388608) (hm : MaxOK m w) :
    Calls Tryz.prog 87 #[.string s] w fun e w' => e = .returned (.int .i64 (NameP.checkKey s.data.toList)) ∧ Below w.heap.size w w' := by
  obtain ⟨R, HR⟩ : ∃ R, Hid (NameP.checkKey s.data.toList = R) := ⟨_, Lib.hid rfl⟩
  rw [HR.out]
  refine (callsIn_wide (n := 3)).1 ?_
  refine callsIn_of_wp_marks Tryz.func87 rfl trivial ?_ rfl
  simp only [Tryz.ntmps87, List.size_toArray, List.length_cons, List.length_nil, Nat.reduceAdd, Nat.reduceSub, Array.replicate_succ, Array.replicate_zero, List.push_toArray, List.append_toArray, List.nil_append, List.cons_append]
  gi_wp2_with fail
  refine ⟨trivial, ?_⟩
  gi_at_call 113
  obtain ⟨W0, hW0⟩ : ∃ W0, w.alloc (Obj.cells #[Value.bool true] 4) = W0 := ⟨_, rfl⟩
  have b0 : W0.heap[w.heap.size]? = some (.cells #[.bool true] 4 (0, 0)) := by rw [← hW0]; exact heap_alloc_at rfl
  have z0 : W0.heap.size = w.heap.size + 1 := by rw [← hW0]; exact World.size_alloc _ _
  have B0 : Below w.heap.size w W0 := by rw [← hW0]; exact (Below.refl _ w).alloc (Nat.le_refl _) _
  rw [hW0]
  refine (callsIn_wide.2 (Tryz.strings_Cut s ⟨#[47]⟩ m W0 (by omega) (hm.below B0))).mono ?_
  rintro E w1 ⟨rfl, nd, hw1⟩
  have b1 : w1.heap[w.heap.size]? = some (.cells #[.bool true] 4 (0, 0)) := by rw [hw1]; exact b0
  have z1 : w1.heap.size = w.heap.size + 1 := by rw [hw1]; exact z0
  have B1 := Lib.hid (B0.trans (below_drewN (w.heap.size) W0 nd))
  rw [← hw1] at B1
  clear hw1 b0 z0 B0 hW0
  have hcut : (Lib.cut s.data.toList [47]).1.length ≤ 8388608 ∧ (Lib.cut s.data.toList [47]).2.1.length ≤ 8388608 := cut_len s [47] (by omega)
  have hgood : ∀ b, b = NameP.keyGood s.data.toList → NameP.judge s.size 64 b = R := fun b hb => by
    rw [← HR.out, hb]
    show _ = NameP.judge s.data.toList.length 64 _
    congr 1
  have hco : (Lib.cut s.data.toList (⟨#[47]⟩ : ByteArray).data.toList) = Lib.cut s.data.toList [47] := rfl
  rw [hco]
  obtain ⟨ca, cb, ct, hc⟩ : ∃ ca cb ct, Lib.cut s.data.toList [47] = (ca, cb, ct) := ⟨_, _, _, rfl⟩
  unfold NameP.keyGood at hgood
  rw [hc] at hgood hcut
  rw [hc]
  obtain ⟨hca, hcb⟩ : ca.length ≤ 8388608 ∧ cb.length ≤ 8388608 := hcut
  clear hco hc
  obtain ⟨A, HA⟩ : ∃ A : ByteArray, Hid ((⟨ca.toArray⟩ : ByteArray) = A) := ⟨_, Lib.hid rfl⟩
  obtain ⟨B, HB⟩ : ∃ B : ByteArray, Hid ((⟨cb.toArray⟩ : ByteArray) = B) := ⟨_, Lib.hid rfl⟩
  have hA : A.data.toList = ca := by rw [← HA.out]
  have hB : B.data.toList = cb := by rw [← HB.out]
  have hAs : A.size ≤ 8388608 := by rw [← HA.out]; show ca.toArray.size ≤ _; simpa using hca
  have hBs : B.size ≤ 8388608 := by rw [← HB.out]; show cb.toArray.size ≤ _; simpa using hcb
  simp only [HA.out, HB.out]
  have c1 := cell_block b1 0
  cases ct with
  | false =>
    have hR1 : ∀ b, b = (decide (A.size ≤ 63) && NameP.isWord A.data.toList) → NameP.judge s.size 64 b = R := fun b hb => hgood b (by rw [hb, hA, if_neg (by simp), show A.size = ca.length by rw [← hA]; simp])
    have HR1 := Lib.hid hR1
    clear hR1 hgood HA HB hA hB
    by_cases h63 : A.size ≤ 63
    · have q0 : (A.size : Int) ≤ 63 := by omega
      have HR2 : Hid (NameP.judge s.size 64 (NameP.isWord A.data.toList) = R) := Lib.hid (HR1.out _ (by rw [decide_eq_true h63, Bool.true_and]))
      clear h63
      gi_wp2_with (refine ⟨trivial, ?_⟩; gi_at_call 117; refine (callsIn_wide.2 (isWord_any _ _ (by omega))).mono ?_; rintro e w' ⟨rfl, rfl⟩)
      refine ⟨trivial, ?_⟩
      gi_at_call 116
      refine (callsIn_wide.2 (judge_any s 64 _ _ (by omega) (by decide))).mono ?_
      rintro e w' ⟨rfl, rfl⟩
      gi_wp2
      exact ⟨_, results_tmp rfl _ _ _, by simpa using HR2.out, B1.out⟩
    · have q0 : ¬ (A.size : Int) ≤ 63 := by omega
      have HR2 : Hid (NameP.judge s.size 64 false = R) := Lib.hid (HR1.out _ (by rw [decide_eq_false h63, Bool.false_and]))
      clear h63
      gi_wp2_with fail
      refine ⟨trivial, ?_⟩
      gi_wp2_with fail
      refine ⟨trivial, ?_⟩
      gi_at_call 116
      refine (callsIn_wide.2 (judge_any s 64 _ _ (by omega) (by decide))).mono ?_
      rintro e w' ⟨rfl, rfl⟩
      gi_wp2
      exact ⟨_, results_tmp rfl _ _ _, by simpa using HR2.out, B1.out⟩
  | true =>
    have hR1 : ∀ b, b = ((partsB 46 A).all partB && (decide (B.size ≤ 63) && NameP.isWord B.data.toList)) → NameP.judge s.size 64 b = R := fun b hb => hgood b (by
      rw [hb, hB, if_pos rfl, show B.size = cb.length by rw [← hB]; simp]
      congr 1
      unfold partsB partB
      rw [List.all_map, hA]
      rfl)
    have HR1 := Lib.hid hR1
    clear hR1 hgood HA HB hA hB
    gi_wp2_with fail
    refine ⟨trivial, ?_⟩
    gi_at_call 114
    refine (callsIn_wide.2 (splitSeq_any A 46 w1)).mono ?_
    rintro e w2 ⟨rfl, hw2⟩
    have z2 : w2.heap.size = w.heap.size + 4 := by rw [hw2, World.size_alloc, World.size_alloc, World.size_alloc, z1]
    have b2 : w2.heap[w.heap.size]? = some (.cells #[.bool true] 4 (0, 0)) := by rw [hw2]; exact heap_alloc_old (heap_alloc_old (heap_alloc_old b1))
    have s2 : w2.heap[w.heap.size + 1]? = some (.cells #[.string A] 9 (0, 0)) := by rw [hw2]; exact heap_alloc_old (heap_alloc_old (heap_alloc_at z1.symm))
    have p2 : w2.heap[w.heap.size + 2]? = some (.cells #[.string ⟨#[46]⟩] 9 (0, 0)) := by rw [hw2]; exact heap_alloc_old (heap_alloc_at (by rw [World.size_alloc, z1]))
    have v2 : w2.heap[w.heap.size + 3]? = some (.cells #[.int .i64 0] 3 (0, 0)) := by rw [hw2]; exact heap_alloc_at (by rw [World.size_alloc, World.size_alloc, z1])
    have B2 : Below w.heap.size w w2 := by rw [hw2]; exact ((B1.out.alloc (by omega) _).alloc (by rw [World.size_alloc]; omega) _).alloc (by rw [World.size_alloc, World.size_alloc]; omega) _
    rw [z1]
    clear hw2
    gi_wp2_with fail
    refine wpIn_range_each (α := ByteArray) rfl (by omega) (gf := 176) (lb := #[.pointer (some ⟨w.heap.size + 2, 0, none⟩), .pointer (some ⟨w.heap.size + 1, 0, none⟩), .pointer (some ⟨w.heap.size + 3, 0, none⟩)]) rfl trivial (enters_of Tryz.func176 (by kernel_rfl) rfl)
      (enc := Value.string) (xs := partsB 46 A) (bs := w.heap.size + 1) (b3 := w.heap.size) (by omega) (by omega)
      (splitSeq_each _ (by omega) A 46 (w.heap.size + 1) (w.heap.size + 2) (w.heap.size + 3) w.heap.size w2.heap.size w2 s2 p2 v2 ⟨by omega, by omega⟩ ⟨by omega, by omega, by omega⟩ ⟨by omega, by omega, by omega⟩ hAs)
      (fun pre W => W.heap[w.heap.size]? = some (.cells #[.bool (pre.all partB)] 4 (0, 0)) ∧ Below w.heap.size w W)
      (fun pre X Y h hb => ⟨(hb.block _ (by omega)).trans h.1, h.2.trans (hb.mono (by omega))⟩)
      (fun pre X Y h ht => ⟨(ht.other _ (by omega)).trans h.1, ht.below h.2 (by omega)⟩)
      ⟨b2, B2⟩ (fun x => { tmps := #[Value.string s, undef, Value.int IntKind.i64 0, Value.pointer (some ⟨w.heap.size, 0, none⟩), Value.string A, Value.string B, Value.bool true, Value.string x, Value.tuple #[Value.string A, Value.string B, Value.bool true], Value.string s, Value.tuple #[Value.string A, Value.string B, Value.bool true], Value.string A, Value.string B, Value.bool true, Value.bool true, Value.bool false, undef, Value.string A, Value.func (Fn.func 176) #[] #[Value.pointer (some ⟨w.heap.size + 1 + 1, 0, none⟩), Value.pointer (some ⟨w.heap.size + 1, 0, none⟩), Value.pointer (some ⟨w.heap.size + 1 + 2, 0, none⟩)], Value.string x, undef, undef, undef, undef, undef, undef, undef, undef, undef, undef, undef, undef, undef, undef, undef, undef, undef, undef, undef, undef, undef, undef], defers := [] }) ?assign ?body ?done
    case assign =>
      intro l x W K hK
      gi_wp2
      exact hK
    case body =>
      rintro l pre x W ⟨hb, hB⟩ _
      obtain ⟨g, Hg⟩ : ∃ g, Hid (pre.all partB = g) := ⟨_, Lib.hid rfl⟩
      have Hb := Lib.hid hb
      rw [Hg.out] at hb
      have HBl := Lib.hid hB
      have c1 := cell_block hb 0
      have f1 := free_block hb 0
      have fin : ∀ (a : Act) (v : Bool), v = (pre ++ [x]).all partB → eachPost (fun pre W => W.heap[w.heap.size]? = some (.cells #[.bool (pre.all partB)] 4 (0, 0)) ∧ Below w.heap.size w W) (pre ++ [x]) w.heap.size W .normal a (W.setCell ⟨w.heap.size, 0, none⟩ (.bool v)) := fun _ v hv => by
        have t := touch_setCell (i := 0) (v := .bool v) Hb.out
        refine ⟨⟨?_, t.2.below HBl.out (Nat.le_refl _)⟩, by rw [t.2.size]; exact Nat.le_refl _, fun k hk hne => t.2.other k hne⟩
        rw [t.1, hv]; rfl
      have Hfin := Lib.hid fin
      clear hb fin hB
      cases g with
      | false =>
        have Hv : Hid (false = (pre ++ [x]).all partB) := Lib.hid (by rw [all_snoc1, Hg.out, Bool.false_and])
        gi_wp2_with (refine ⟨trivial, ?_⟩)
        exact Hfin.out _ _ Hv.out
      | true =>
        by_cases h63 : x.size ≤ 63
        · have q0 : (x.size : Int) ≤ 63 := by omega
          have Hv : Hid (NameP.isName x.data.toList = (pre ++ [x]).all partB) := Lib.hid (by
            rw [all_snoc1, Hg.out, Bool.true_and]
            unfold partB NameP.part
            rw [decide_eq_true (by simpa using h63), Bool.true_and])
          clear h63
          gi_wp2_with (refine ⟨trivial, ?_⟩; gi_at_call 115; refine (CallsIn.inRound l (callsIn_wide.2 (isName_any x _ (by omega)))).mono ?_; rintro e w' ⟨rfl, rfl⟩)
          exact Hfin.out _ _ Hv.out
        · have q0 : ¬ (x.size : Int) ≤ 63 := by omega
          have Hv : Hid (false = (pre ++ [x]).all partB) := Lib.hid (by
            rw [all_snoc1, Hg.out, Bool.true_and]
            unfold partB NameP.part
            rw [decide_eq_false (by simpa using h63), Bool.false_and])
          clear h63
          gi_wp2_with (refine ⟨trivial, ?_⟩)
          exact Hfin.out _ _ Hv.out
    case done =>
      rintro D W ⟨hb, hB⟩ hK hD
      obtain ⟨g, Hg⟩ : ∃ g, Hid ((partsB 46 A).all partB = g) := ⟨_, Lib.hid rfl⟩
      rw [Hg.out] at hb
      have HBl := Lib.hid hB
      have c1 : W.cell? ⟨w.heap.size, 0, none⟩ = some (.bool g) := cell_block hb 0
      clear hb hB
      cases g with
      | false =>
        have HR2 : Hid (NameP.judge s.size 64 false = R) := Lib.hid (HR1.out _ (by rw [Hg.out, Bool.false_and]))
        gi_wp2_with fail
        refine ⟨trivial, ?_⟩
        gi_wp2_with fail
        refine ⟨trivial, ?_⟩
        gi_at_call 116
        refine (callsIn_wide.2 (judge_any s 64 _ _ (by omega) (by decide))).mono ?_
        rintro e w' ⟨rfl, rfl⟩
        gi_wp2
        refine ⟨by simp, .inl ⟨_, _, rfl, run_takeDeferred hK, ?_⟩⟩
        exact ⟨_, results_tmp rfl _ _ _, by simpa using HR2.out, HBl.out.trans (below_putObj W _ _ (by omega))⟩
      | true =>
        by_cases h63 : B.size ≤ 63
        · have q0 : (B.size : Int) ≤ 63 := by omega
          have HR2 : Hid (NameP.judge s.size 64 (NameP.isWord B.data.toList) = R) := Lib.hid (HR1.out _ (by rw [Hg.out, decide_eq_true h63, Bool.true_and, Bool.true_and]))
          clear h63
          gi_wp2_with (refine ⟨trivial, ?_⟩; gi_at_call 117; refine (callsIn_wide.2 (isWord_any _ _ (by omega))).mono ?_; rintro e w' ⟨rfl, rfl⟩)
          refine ⟨trivial, ?_⟩
          gi_at_call 116
          refine (callsIn_wide.2 (judge_any s 64 _ _ (by omega) (by decide))).mono ?_
          rintro e w' ⟨rfl, rfl⟩
          gi_wp2
          refine ⟨by simp, .inl ⟨_, _, rfl, run_takeDeferred hK, ?_⟩⟩
          exact ⟨_, results_tmp rfl _ _ _, by simpa using HR2.out, HBl.out.trans (below_putObj W _ _ (by omega))⟩
        · have q0 : ¬ (B.size : Int) ≤ 63 := by omega
          have HR2 : Hid (NameP.judge s.size 64 false = R) := Lib.hid (HR1.out _ (by rw [Hg.out, decide_eq_false h63, Bool.true_and, Bool.false_and]))
          clear h63
          gi_wp2_with fail
          refine ⟨trivial, ?_⟩
          gi_wp2_with fail
          refine ⟨trivial, ?_⟩
          gi_at_call 116
          refine (callsIn_wide.2 (judge_any s 64 _ _ (by omega) (by decide))).mono ?_
          rintro e w' ⟨rfl, rfl⟩
          gi_wp2
          refine ⟨by simp, .inl ⟨_, _, rfl, run_takeDeferred hK, ?_⟩⟩
          exact ⟨_, results_tmp rfl _ _ _, by simpa using HR2.out, HBl.out.trans (below_putObj W _ _ (by omega))⟩
end Go.Proofs.YtnnceaapodgfbaaGreatDoor
namespace Go.Proofs.YtnnceaapodgfbaaGreatDoor
open Go.RowKit
theorem ret_i64 {a b : Int} (h : a = b) : Ending.returned (.int .i64 a) = .returned (.int .i64 b) := by rw [h]
set_option maxHeartbeats 800000 in
theorem checkVal_any (s : ByteArray) (w : World) (hs : s.size ≤ 1099511627776) :
    Calls Tryz.prog 88 #[.string s] w fun e w' => e = .returned (.int .i64 (NameP.checkVal s.data.toList)) ∧ w = w' := by
  by_cases h0 : s.size = 0
  · have hl : s.toList = [] := by rw [ByteArray.toList_eq]; exact List.eq_nil_of_length_eq_zero (by simpa using h0)
    have hle : s.toList.isEmpty = true := by rw [hl]; rfl
    have Hs : Hid (NameP.judge s.size 63 true = NameP.checkVal s.data.toList) := by
      show _ = _
      rw [ByteArray.toList_eq] at hl
      simp [NameP.checkVal, hl, h0]
    clear h0
    go_enter Tryz.func88, Tryz.ntmps88
    go_wp2_with fail
    refine (judge_any s 63 _ _ hs (by omega)).mono ?_
    rintro e w' ⟨rfl, rfl⟩
    go_wp2_with fail
    go_ret
    exact ⟨ret_i64 Hs.out, rfl⟩
  · have hl : s.data.toList.length = s.size := by simp
    have hne2 : s.toList.isEmpty = false := by
      rw [ByteArray.toList_eq]
      cases hd : s.data.toList with | nil => rw [hd] at hl; simp at hl; omega | cons x r => rfl
    have hne : (!s.toList.isEmpty) = true := by rw [hne2]; rfl
    have Hs : Hid (NameP.judge s.size 63 (NameP.isWord s.data.toList) = NameP.checkVal s.data.toList) := by
      show _ = _
      rw [ByteArray.toList_eq] at hne2
      unfold NameP.checkVal
      rw [hl, hne2]; rfl
    clear h0 hl
    go_enter Tryz.func88, Tryz.ntmps88
    go_wp2_with fail
    refine (isWord_any s _ hs).mono ?_
    rintro e w' ⟨rfl, rfl⟩
    go_wp2_with fail
    refine (judge_any s 63 _ _ hs (by omega)).mono ?_
    rintro e w' ⟨rfl, rfl⟩
    go_wp2_with fail
    go_ret
    exact ⟨ret_i64 Hs.out, rfl⟩
end Go.Proofs.YtnnceaapodgfbaaGreatDoor
namespace Go.Proofs.YtnnceaapodgfbaaGreatDoor
open Go.RowKit Go.ChangeShapes Go.WideShapes
structure GReq where
  key : ByteArray
  kind : Int
  vals : List ByteArray
end Go.Proofs.YtnnceaapodgfbaaGreatDoor
namespace Go.Proofs.YtnnceaapodgfbaaGreatDoor
open Go.RowKit
def lessB (a b : ByteArray) : Bool := Op.bytesLess a.toList b.toList
theorem toList_inj {a b : ByteArray} (h : a.toList = b.toList) : a = b := by
  rw [ByteArray.toList_eq, ByteArray.toList_eq] at h
  cases a; cases b
  simp only [ByteArray.mk.injEq]
  exact Array.toList_inj.1 h
def cmpB (a b : ByteArray) : Int := if lessB a b = true then -1 else if (a.toList == b.toList) = true then 0 else 1
end Go.Proofs.YtnnceaapodgfbaaGreatDoor
namespace Go.Proofs.YtnnceaapodgfbaaGreatDoor
open Go.RowKit
def errF {α : Type} (f : α → Int) (l : List α) : Int := match l.find? (fun x => f x != 0) with
  | none => 0
  | some x => f x
theorem errF_none {α : Type} {f : α → Int} {l : List α} (h : ∀ x ∈ l, f x = 0) : errF f l = 0 := by
  unfold errF
  rw [List.find?_eq_none.2 fun x hx => by rw [h x hx]; simp]
theorem errF_at {α : Type} {f : α → Int} {l : List α} {i : Nat} {x : α} (hx : l[i]? = some x) (h : ∀ y ∈ l.take i, f y = 0) (hf : f x ≠ 0) : errF f l = f x := by
  have hi := (List.getElem?_eq_some_iff.1 hx).1
  have he := (List.getElem?_eq_some_iff.1 hx).2
  have h1 : l = l.take i ++ x :: l.drop (i + 1) := by rw [← he, ← List.drop_eq_getElem_cons hi, List.take_append_drop]
  have h2 : l.find? (fun x => f x != 0) = some x := by
    rw [h1, List.find?_append, List.find?_eq_none.2 (fun y hy => by rw [h y hy]; simp)]
    simp [hf]
  unfold errF
  rw [h2]
def keyE (s : ByteArray) : Int := NameP.checkKey s.data.toList
def valE (s : ByteArray) : Int := NameP.checkVal s.data.toList
def labZ (l : List GLabel) : List (Option ByteArray × GLabel) := (none :: l.map (some ·.key)).zip l
def prevE (p : Option ByteArray) (key : ByteArray) : Int := match p with
  | none => 0
  | some k => if lessB k key = true then 0 else 1
def labE (x : Option ByteArray × GLabel) : Int :=
  if keyE x.2.key ≠ 0 then keyE x.2.key else if valE x.2.val ≠ 0 then valE x.2.val else prevE x.1 x.2.key
def labelsE (l : List GLabel) : Int := if 10 < l.length then 2 else errF labE (labZ l)
end Go.Proofs.YtnnceaapodgfbaaGreatDoor
namespace Go.Proofs.YtnnceaapodgfbaaGreatDoor
open Go
theorem drop_at {s : ByteArray} {i : Nat} (h : i < s.size) : s.data.toList.drop i = s[i] :: s.data.toList.drop (i + 1) := by
  have hl : s.data.toList.length = s.size := by simp
  rw [List.drop_eq_getElem_cons (by omega)]
  rfl
theorem drop_end {s : ByteArray} {i : Nat} (h : s.size ≤ i) : s.data.toList.drop i = [] := by
  have hl : s.data.toList.length = s.size := by simp
  exact List.drop_eq_nil_of_le (by omega)
structure Runs (p : UInt8 → Bool) (s : ByteArray) (a i : Nat) : Prop where
  le : a ≤ i
  room : i ≤ s.size
  drop : (s.data.toList.drop a).dropWhile p = (s.data.toList.drop i).dropWhile p
  take : (s.data.toList.drop a).takeWhile p = (s.data.toList.drop a).take (i - a) ++ (s.data.toList.drop i).takeWhile p
theorem Runs.start (p : UInt8 → Bool) {s : ByteArray} {a : Nat} (h : a ≤ s.size) : Runs p s a a := ⟨Nat.le_refl _, h, rfl, by simp⟩
theorem Runs.step {p : UInt8 → Bool} {s : ByteArray} {a i : Nat} (h : Runs p s a i) (hi : i < s.size) (hp : p s[i] = true) : Runs p s a (i + 1) := by
  obtain ⟨h1, h2, h3, h4⟩ := h
  refine ⟨by omega, by omega, ?_, ?_⟩
  · rw [h3, drop_at hi, List.dropWhile_cons_of_pos hp]
  · rw [h4, drop_at hi, List.takeWhile_cons_of_pos hp]
    have : (s.data.toList.drop a).take (i + 1 - a) = (s.data.toList.drop a).take (i - a) ++ [s[i]] := by
      rw [show i + 1 - a = (i - a) + 1 by omega, List.take_add_one, List.getElem?_drop, show a + (i - a) = i by omega]
      have hl : s.data.toList.length = s.size := by simp
      rw [List.getElem?_eq_getElem (by omega)]
      rfl
    rw [this, List.append_assoc]
    rfl
theorem Runs.stop {p : UInt8 → Bool} {s : ByteArray} {a i : Nat} (h : Runs p s a i) (hi : ∀ h : i < s.size, p s[i] = false) :
    (s.data.toList.drop a).dropWhile p = s.data.toList.drop i ∧ (s.data.toList.drop a).takeWhile p = (s.data.toList.drop a).take (i - a) := by
  obtain ⟨h1, h2, h3, h4⟩ := h
  by_cases hl : i < s.size
  · rw [drop_at hl] at h3 h4
    rw [List.dropWhile_cons_of_neg (by rw [hi hl]; simp), ← drop_at hl] at h3
    rw [List.takeWhile_cons_of_neg (by rw [hi hl]; simp), List.append_nil] at h4
    exact ⟨h3, h4⟩
  · rw [drop_end (i := i) (by omega)] at h3 h4 ⊢
    exact ⟨h3, by simpa using h4⟩
theorem extract_take {s : ByteArray} {a i : Nat} (h1 : a ≤ i) (h2 : i ≤ s.size) : (s.extract a i).data.toList = (s.data.toList.drop a).take (i - a) := by
  simp [ByteArray.data_extract]
end Go.Proofs.YtnnceaapodgfbaaGreatDoor
namespace Go.Proofs.YtnnceaapodgfbaaGreatDoor
open Go.RowKit
open JP (Bs)
def RU8 : Rd UInt8 := fun _ cs b => cs = [.int .u8 (b.toNat : Int)]
theorem flat_u8 : Flat RU8 := fun _ _ _ _ h => h
theorem one_u8 : OneR RU8 := fun _ _ _ h u hu => by rw [h] at hu; simp at hu; subst hu; rfl
theorem stays_u8 : Stays RU8 := fun _ _ _ _ _ h => h
theorem own_u8 {w : World} {B : Nat} {e : TypeId} {v : Value} {l : Bs} (h : OwnAt RU8 1 w B e v l) : w.ownsRow B e 1 v l.length (byteCells l) := by
  obtain ⟨css, h1, h2, h3, h4⟩ := h
  have : css.flatten = byteCells l := by
    apply List.ext_getElem?
    intro j
    by_cases hj : j < l.length
    · have hcs : css[j]? = some css[j] := List.getElem?_eq_getElem (by omega)
      have hR : css[j] = [.int .u8 (l[j].toNat : Int)] := h4 j _ _ hcs (List.getElem?_eq_getElem hj)
      have := get_flat h2 (j := j) (i := 0) hcs (u := .int .u8 (l[j].toNat : Int)) (by rw [hR]; rfl)
      rw [Nat.mul_one, Nat.add_zero] at this
      rw [this]
      simp [byteCells, hj]
    · rw [List.getElem?_eq_none (by rw [flat_len h2]; omega), List.getElem?_eq_none (by rw [byteCells_length]; omega)]
  rwa [this] at h3
theorem row_u8 {w : World} {b : Nat} {e : TypeId} {l : Bs} {fr : Nat × Nat} (hb : w.heap[b]? = some (.cells (byteCells l).toArray e fr)) (hl : l.length ≤ maxLen) : RowAt RU8 1 w (.slice (some ⟨b, 0, none⟩) l.length l.length) l := by
  refine .inr ⟨_, l.length, rfl, Nat.le_refl _, hl, fun j x hx => ⟨[.int .u8 (x.toNat : Int)], rfl, fun i u hu => ?_, rfl⟩⟩
  match i, hu with
  | 0, hu =>
    simp only [List.getElem?_cons_zero, Option.some.injEq] at hu
    subst hu
    rw [add_plain', cell_block hb]
    simp [byteCells, hx]
theorem esc_snoc {s : ByteArray} {i : Nat} (h : i < s.size) : 34 :: (s.data.toList.take (i + 1)).flatMap JP.escB = (34 :: (s.data.toList.take i).flatMap JP.escB) ++ JP.escB s[i] := by
  rw [take_snoc s i h, List.flatMap_append]
  simp
theorem u8_eq {a b : UInt8} (h : a.toNat = b.toNat) : a = b := UInt8.toNat_inj.1 h
set_option maxRecDepth 100000 in
set_option maxHeartbeats 3200000 in
theorem quote_any (s : ByteArray) (w : World) (hs : s.size ≤ 4194304) :
    Calls Tryz.prog 100 #[.string s] w fun e w' => e = .returned (.string (mkB (JP.quote s.data.toList))) ∧ Below w.heap.size w w' := by
  obtain ⟨i0, hi0, hz0, hz1, hz2⟩ := info_parts Tryz.infoU8
  have hel : ∀ i, i ≤ s.size → (34 :: (s.data.toList.take i).flatMap JP.escB).length ≤ 2 * i + 1 := fun i hi => by
    have hone : ∀ c, (JP.escB c).length ≤ 2 := fun c => by unfold JP.escB; split; · simp
                                                           · split; · simp
                                                             · split <;> simp
    have hgen : ∀ l : Bs, (l.flatMap JP.escB).length ≤ 2 * l.length := fun l => by
      induction l with
      | nil => simp
      | cons c r ih => rw [List.flatMap_cons, List.length_append, List.length_cons]; have := hone c; omega
    have := hgen (s.data.toList.take i)
    rw [List.length_take] at this
    rw [List.length_cons]
    omega
  have Hel := Lib.hid hel
  clear hel
  go_enter Tryz.func100, Tryz.ntmps100
  obtain ⟨w0, hw0⟩ : ∃ w0, w0 = w.alloc (.cells #[.int .u8 34] 5) := ⟨_, rfl⟩
  have h0 : OwnAt RU8 1 w0 w.heap.size 5 (.slice (some ⟨w.heap.size, 0, none⟩) 1 1) [34] := by
    refine ⟨[[.int .u8 34]], rfl, fun cs hcs => by rw [List.mem_singleton.1 hcs]; rfl, ⟨rfl, .inr ⟨w.heap.size, 1, #[.int .u8 34], rfl, Nat.le_refl _, by rw [hw0]; exact heap_alloc_new w _, Nat.le_refl _, by unfold maxLen; decide, rfl, rfl⟩⟩, fun j cs x hcs hx => ?_⟩
    match j, hcs, hx with
    | 0, hcs, hx =>
      simp at hcs hx
      subst hcs
      subst hx
      rfl
  have hb0 : Below w.heap.size w w0 := by rw [hw0]; exact (Below.refl _ _).alloc (Nat.le_refl _) _
  have H0 := Lib.hid h0
  have Hb0 := Lib.hid hb0
  clear h0 hb0
  go_upto_region 2 with fail
  rw [← hw0]
  clear hw0
  go_wp2_with fail
  go_loopg [3, 9] s.size (fun k u3 u9 wr => ∃ i : Nat, i + k = s.size ∧ u9 = .int .i64 (i : Int) ∧ Hid (OwnAt RU8 1 wr w.heap.size 5 u3 (34 :: (s.data.toList.take i).flatMap JP.escB)) ∧ Hid (Below w.heap.size w wr))
  case atStart => exact ⟨0, by omega, rfl, H0, Hb0⟩
  case round =>
    obtain ⟨i, hik, rfl, Hown, Hbel⟩ := hrel
    have hl1 := Hel.out i (by omega)
    have hbs := Hbel.out.size
    obtain ⟨L, HL⟩ : ∃ L, Hid (34 :: (s.data.toList.take i).flatMap JP.escB = L) := ⟨_, Lib.hid rfl⟩
    rw [HL.out] at Hown hl1
    cases gk with
    | zero =>
      obtain rfl : i = s.size := by omega
      have HLq : Hid (L ++ [34] = JP.quote s.data.toList) := Lib.hid (by
        rw [← HL.out, List.take_of_length_le (by simp)]
        rfl)
      obtain ⟨w1, hw1⟩ : ∃ w1, w1 = wr.alloc (.cells #[.int .u8 34] 5) := ⟨_, rfl⟩
      have hb1 : Below wr.heap.size wr w1 := by rw [hw1]; exact (Below.refl _ _).alloc (Nat.le_refl _) _
      have h1 : RowAt RU8 1 w1 (.slice (some ⟨wr.heap.size, 0, none⟩) 1 1) [34] := row_u8 (l := [34]) (by rw [hw1]; exact heap_alloc_new wr _) (by unfold maxLen; simp)
      have Ho1 := Lib.hid (Hown.out.below stays_u8 hb1)
      have H1 := Lib.hid h1
      have Hb1 := Lib.hid (Hbel.out.trans (hb1.mono hbs))
      clear h1 hb1
      go_upto_region 16 with fail
      go_wp2_with (at_builtin; rw [← hw1]; refine wpList_append_ownAt (R := RU8) (k := 1) (e := 5) (B := w.heap.size) (l := L) (m := [34]) _ (by rfl) _ _ _ (by rfl) i0 _ 1 Tryz.underlying228 hi0 hz0 hz1 hz2 rfl (by omega) flat_u8 one_u8 _ (by rfl) Ho1.out _ (by rfl) H1.out (by unfold maxLen; simp; omega) (by simp; omega) (by have := Hb1.out.size; omega) ?_)
      intro v' w2 hv' hg hr _
      rw [← hw1] at hg
      have hb2 : Below w.heap.size w w2 := below_of_grown Hb1.out (by have := Hb1.out.size; omega) hg hr
      have Hb2 := Lib.hid hb2
      have hcv := run_convert_own w2 228 9 5 Tryz.underlying228 Tryz.underlying5 Tryz.underlying9 (own_u8 hv')
      clear hv' hg hr hb2 hw1
      go_wp2_with fail
      go_ret
      exact ⟨by rw [HLq.out]; rfl, Hb2.out⟩
    | succ k =>
      have hil : i < s.size := by omega
      have q1 : (0 : Int) ≤ (i : Int) := by omega
      have q2 : (i : Int) < (s.size : Int) := by omega
      have HS := Lib.hid (esc_snoc hil)
      rw [HL.out] at HS
      by_cases h34 : s[i].toNat = 34
      · have he : s[i] = 34 := u8_eq h34
        have hesc : JP.escB s[i] = [92, 34] := by rw [he]; rfl
        have HE := Lib.hid hesc
        clear he hesc
        have HS2 : Hid (34 :: (s.data.toList.take (i + 1)).flatMap JP.escB = L ++ [92, 34]) := Lib.hid (by rw [HS.out, HE.out])
        clear HS
        go_wp2_with (at_builtin; refine wpList_append_ownAt (R := RU8) (k := 1) (e := 5) (B := w.heap.size) (l := L) (m := [92, 34]) _ (by rfl) _ _ _ (by rfl) i0 _ 1 Tryz.underlying228 hi0 hz0 hz1 hz2 rfl (by omega) flat_u8 one_u8 _ (by rfl) (Hown.out.alloc stays_u8 _) (.slice (some ⟨wr.heap.size, 0, none⟩) 2 2) (by rfl) (row_u8 (l := [92, 34]) (heap_alloc_new wr _) (by unfold maxLen; simp)) (by unfold maxLen; simp; omega) (by simp; omega) (by simp; omega) ?_)
        intro v' w2 hv' hg hr _
        have hb2 : Below w.heap.size w w2 := below_of_grown (Hbel.out.alloc hbs _) (by simp; omega) hg hr
        have Hb2 := Lib.hid hb2
        have Hv : Hid (OwnAt RU8 1 w2 w.heap.size 5 v' (34 :: (s.data.toList.take (i + 1)).flatMap JP.escB)) := Lib.hid (by rw [HS2.out]; exact hv')
        clear hv' hg hr hb2 HS2
        go_wp2_with fail
        go_roundg k
        case measure => omega
        case rel => exact ⟨i + 1, by omega, by go_num, Hv, Hb2⟩
      · have n34 : ((s[i].toNat : Int) == 34) = false := by rw [beq_eq_false_iff_ne]; omega
        by_cases h92 : s[i].toNat = 92
        · have he : s[i] = 92 := u8_eq h92
          have hesc : JP.escB s[i] = [92, 92] := by rw [he]; rfl
          have HE := Lib.hid hesc
          clear he hesc n34 h34
          have HS2 : Hid (34 :: (s.data.toList.take (i + 1)).flatMap JP.escB = L ++ [92, 92]) := Lib.hid (by rw [HS.out, HE.out])
          clear HS
          go_wp2_with (at_builtin; refine wpList_append_ownAt (R := RU8) (k := 1) (e := 5) (B := w.heap.size) (l := L) (m := [92, 92]) _ (by rfl) _ _ _ (by rfl) i0 _ 1 Tryz.underlying228 hi0 hz0 hz1 hz2 rfl (by omega) flat_u8 one_u8 _ (by rfl) (Hown.out.alloc stays_u8 _) (.slice (some ⟨wr.heap.size, 0, none⟩) 2 2) (by rfl) (row_u8 (l := [92, 92]) (heap_alloc_new wr _) (by unfold maxLen; simp)) (by unfold maxLen; simp; omega) (by simp; omega) (by simp; omega) ?_)
          intro v' w2 hv' hg hr _
          have hb2 : Below w.heap.size w w2 := below_of_grown (Hbel.out.alloc hbs _) (by simp; omega) hg hr
          have Hb2 := Lib.hid hb2
          have Hv : Hid (OwnAt RU8 1 w2 w.heap.size 5 v' (34 :: (s.data.toList.take (i + 1)).flatMap JP.escB)) := Lib.hid (by rw [HS2.out]; exact hv')
          clear hv' hg hr hb2 HS2
          go_wp2_with fail
          go_roundg k
          case measure => omega
          case rel => exact ⟨i + 1, by omega, by go_num, Hv, Hb2⟩
        · have n92 : ((s[i].toNat : Int) == 92) = false := by rw [beq_eq_false_iff_ne]; omega
          by_cases h10 : s[i].toNat = 10
          · have he : s[i] = 10 := u8_eq h10
            have hesc : JP.escB s[i] = [92, 110] := by rw [he]; rfl
            have HE := Lib.hid hesc
            clear he hesc n34 h34 n92 h92
            have HS2 : Hid (34 :: (s.data.toList.take (i + 1)).flatMap JP.escB = L ++ [92, 110]) := Lib.hid (by rw [HS.out, HE.out])
            clear HS
            go_wp2_with (at_builtin; refine wpList_append_ownAt (R := RU8) (k := 1) (e := 5) (B := w.heap.size) (l := L) (m := [92, 110]) _ (by rfl) _ _ _ (by rfl) i0 _ 1 Tryz.underlying228 hi0 hz0 hz1 hz2 rfl (by omega) flat_u8 one_u8 _ (by rfl) (Hown.out.alloc stays_u8 _) (.slice (some ⟨wr.heap.size, 0, none⟩) 2 2) (by rfl) (row_u8 (l := [92, 110]) (heap_alloc_new wr _) (by unfold maxLen; simp)) (by unfold maxLen; simp; omega) (by simp; omega) (by simp; omega) ?_)
            intro v' w2 hv' hg hr _
            have hb2 : Below w.heap.size w w2 := below_of_grown (Hbel.out.alloc hbs _) (by simp; omega) hg hr
            have Hb2 := Lib.hid hb2
            have Hv : Hid (OwnAt RU8 1 w2 w.heap.size 5 v' (34 :: (s.data.toList.take (i + 1)).flatMap JP.escB)) := Lib.hid (by rw [HS2.out]; exact hv')
            clear hv' hg hr hb2 HS2
            go_wp2_with fail
            go_roundg k
            case measure => omega
            case rel => exact ⟨i + 1, by omega, by go_num, Hv, Hb2⟩
          · have n10 : ((s[i].toNat : Int) == 10) = false := by rw [beq_eq_false_iff_ne]; omega
            by_cases h9 : s[i].toNat = 9
            · have he : s[i] = 9 := u8_eq h9
              have hesc : JP.escB s[i] = [92, 116] := by rw [he]; rfl
              have HE := Lib.hid hesc
              clear he hesc n34 h34 n92 h92 n10 h10
              have HS2 : Hid (34 :: (s.data.toList.take (i + 1)).flatMap JP.escB = L ++ [92, 116]) := Lib.hid (by rw [HS.out, HE.out])
              clear HS
              go_wp2_with (at_builtin; refine wpList_append_ownAt (R := RU8) (k := 1) (e := 5) (B := w.heap.size) (l := L) (m := [92, 116]) _ (by rfl) _ _ _ (by rfl) i0 _ 1 Tryz.underlying228 hi0 hz0 hz1 hz2 rfl (by omega) flat_u8 one_u8 _ (by rfl) (Hown.out.alloc stays_u8 _) (.slice (some ⟨wr.heap.size, 0, none⟩) 2 2) (by rfl) (row_u8 (l := [92, 116]) (heap_alloc_new wr _) (by unfold maxLen; simp)) (by unfold maxLen; simp; omega) (by simp; omega) (by simp; omega) ?_)
              intro v' w2 hv' hg hr _
              have hb2 : Below w.heap.size w w2 := below_of_grown (Hbel.out.alloc hbs _) (by simp; omega) hg hr
              have Hb2 := Lib.hid hb2
              have Hv : Hid (OwnAt RU8 1 w2 w.heap.size 5 v' (34 :: (s.data.toList.take (i + 1)).flatMap JP.escB)) := Lib.hid (by rw [HS2.out]; exact hv')
              clear hv' hg hr hb2 HS2
              go_wp2_with fail
              go_roundg k
              case measure => omega
              case rel => exact ⟨i + 1, by omega, by go_num, Hv, Hb2⟩
            · have n9 : ((s[i].toNat : Int) == 9) = false := by rw [beq_eq_false_iff_ne]; omega
              have hesc : JP.escB s[i] = [s[i]] := by
                have ne : ∀ (c : UInt8), s[i].toNat ≠ c.toNat → s[i] ≠ c := fun c h e => h (by rw [e])
                unfold JP.escB
                rw [if_neg (fun h => h.elim (ne 34 h34) (ne 92 h92)), if_neg (ne 10 h10), if_neg (ne 9 h9)]
              have HE := Lib.hid hesc
              clear hesc h34 h92 h10 h9
              have HS2 : Hid (34 :: (s.data.toList.take (i + 1)).flatMap JP.escB = L ++ [s[i]]) := Lib.hid (by rw [HS.out, HE.out])
              clear HS
              go_wp2_with (at_builtin; refine wpList_append_ownAt (R := RU8) (k := 1) (e := 5) (B := w.heap.size) (l := L) (m := [s[i]]) _ (by rfl) _ _ _ (by rfl) i0 _ 1 Tryz.underlying228 hi0 hz0 hz1 hz2 rfl (by omega) flat_u8 one_u8 _ (by rfl) (Hown.out.alloc stays_u8 _) (.slice (some ⟨wr.heap.size, 0, none⟩) 1 1) (by rfl) (row_u8 (l := [s[i]]) (heap_alloc_new wr _) (by unfold maxLen; simp)) (by unfold maxLen; simp; omega) (by simp; omega) (by simp; omega) ?_)
              intro v' w2 hv' hg hr _
              have hb2 : Below w.heap.size w w2 := below_of_grown (Hbel.out.alloc hbs _) (by simp; omega) hg hr
              have Hb2 := Lib.hid hb2
              have Hv : Hid (OwnAt RU8 1 w2 w.heap.size 5 v' (34 :: (s.data.toList.take (i + 1)).flatMap JP.escB)) := Lib.hid (by rw [HS2.out]; exact hv')
              clear hv' hg hr hb2 HS2
              go_wp2_with fail
              go_roundg k
              case measure => omega
              case rel => exact ⟨i + 1, by omega, by go_num, Hv, Hb2⟩
end Go.Proofs.YtnnceaapodgfbaaGreatDoor
namespace Go.Proofs.YtnnceaapodgfbaaGreatDoor
open Go.RowKit
open JP (JV Bs)
def RdAt (g : Nat) (s : ByteArray) (a m : Nat) (vst : Value) (bad : Int) (w : World) : Prop := w.heap[g]? = some (.cells #[.string s, .int .i64 (a : Int), .int .i64 (m : Int), vst, .int .i64 bad] 174 (0, 0))
theorem RdAt.drew {g : Nat} {s : ByteArray} {a m : Nat} {vst : Value} {bad : Int} {w : World} (h : RdAt g s a m vst bad w) (n : Nat) : RdAt g s a m vst bad (w.drewN n) := h
theorem But.drew {g : Nat} {w w' : World} (h : But g w w') (n : Nat) : But g w (w'.drewN n) := ⟨h.os, h.tape, h.output, h.size, h.block⟩
def hdN (r : Bs) : Int := match r with
  | [] => 0
  | c :: _ => (c.toNat : Int)
theorem hd_at {s : ByteArray} {i : Nat} (h : i < s.size) : hdN (s.data.toList.drop i) = (s[i].toNat : Int) := by rw [drop_at h]; rfl
theorem blank_nat (c : UInt8) : JP.blank c = decide (c.toNat = 32 ∨ c.toNat = 9 ∨ c.toNat = 10) := by
  unfold JP.blank
  rw [Bool.eq_iff_iff]
  simp only [Bool.or_eq_true, beq_iff_eq, decide_eq_true_eq, or_assoc]
  have e : ∀ k : UInt8, c = k ↔ c.toNat = k.toNat := fun k => ⟨fun h => by rw [h], fun h => UInt8.toNat_inj.1 h⟩
  rw [e 32, e 9, e 10]
  exact Iff.rfl
theorem ret_u8 {a b : Int} (h : a = b) : Ending.returned (.int .u8 a) = .returned (.int .u8 b) := by rw [h]
set_option maxRecDepth 100000 in
set_option maxHeartbeats 3200000 in
theorem next_any (g : Nat) (s : ByteArray) (a m : Nat) (vst : Value) (bad : Int) (w : World) (h : RdAt g s a m vst bad w) (ha : a ≤ s.size) (hs : s.size ≤ 1048576) :
    Calls Tryz.prog 95 #[.pointer (some ⟨g, 0, none⟩)] w fun e w' => e = .returned (.int .u8 (hdN (JP.skip (s.data.toList.drop a)))) ∧ (∃ i, i ≤ s.size ∧ s.data.toList.drop i = JP.skip (s.data.toList.drop a) ∧ RdAt g s i m vst bad w') ∧ But g w w' := by
  have H := Lib.hid h
  clear h
  go_enter Tryz.func95, Tryz.ntmps95
  go_wp2_with fail
  go_loopg [] (s.size - a) (fun k wr => ∃ i : Nat, i + k = s.size ∧ Hid (Runs JP.blank s a i) ∧ Hid (RdAt g s i m vst bad wr) ∧ Hid (But g w wr))
  case atStart => exact ⟨a, by omega, Lib.hid (Runs.start _ ha), H, Lib.hid (But.refl _ _)⟩
  case round =>
    obtain ⟨i, hig, HR, HP, HB⟩ := hrel
    have h0 : wr.cell? ⟨g, 0, none⟩ = some (.string s) := cell_block HP.out 0
    have h1 : wr.cell? ⟨g, 1, none⟩ = some (.int .i64 (i : Int)) := cell_block HP.out 1
    have hz : wr.frozen? ⟨g, 1, none⟩ = false := free_block HP.out 1
    cases gk with
    | zero =>
      have hi : i = s.size := by omega
      have q0 : decide (i < s.size) = false := decide_eq_false (by omega)
      have q1 : ¬ (i : Int) < (s.size : Int) := by omega
      have Hs := Lib.hid (HR.out.stop (fun h => absurd h (by omega))).1
      have Hh : Hid ((0 : Int) = hdN (JP.skip (s.data.toList.drop a))) := Lib.hid (by
        show 0 = hdN ((s.data.toList.drop a).dropWhile JP.blank)
        rw [Hs.out, drop_end (by omega)]; rfl)
      have hile : i ≤ s.size := by omega
      clear hi hig
      go_wp2_with fail
      go_quiet (fail)
      go_wp2_with fail
      go_ret
      exact ⟨ret_u8 Hh.out, ⟨i, hile, Hs.out.symm, HP.out⟩, HB.out.drew _⟩
    | succ k =>
      have hil : i < s.size := by omega
      have q0 : decide (i < s.size) = true := decide_eq_true hil
      have q1 : (i : Int) < (s.size : Int) := by omega
      have q2 : (0 : Int) ≤ (i : Int) := by omega
      cases hb : JP.blank s[i] with
      | false =>
        have Hs := Lib.hid (HR.out.stop (fun h => hb)).1
        have Hh : Hid ((s[i].toNat : Int) = hdN (JP.skip (s.data.toList.drop a))) := Lib.hid (by
          show _ = hdN ((s.data.toList.drop a).dropWhile JP.blank)
          rw [Hs.out, hd_at hil])
        have hn : ¬ (s[i].toNat = 32 ∨ s[i].toNat = 9 ∨ s[i].toNat = 10) := by
          rw [blank_nat] at hb
          exact of_decide_eq_false hb
        have e1 : ((s[i].toNat : Int) != 32) = true := by rw [bne_iff_ne]; omega
        have e2 : ((s[i].toNat : Int) != 9) = true := by rw [bne_iff_ne]; omega
        have e3 : ((s[i].toNat : Int) != 10) = true := by rw [bne_iff_ne]; omega
        have e4 : ((s[i].toNat : Int) == 32) = false := by rw [beq_eq_false_iff_ne]; omega
        have e5 : ((s[i].toNat : Int) == 9) = false := by rw [beq_eq_false_iff_ne]; omega
        have e6 : ((s[i].toNat : Int) == 10) = false := by rw [beq_eq_false_iff_ne]; omega
        have hile : i ≤ s.size := by omega
        clear hb hig hn
        go_wp2_with fail
        go_quiet (fail)
        go_wp2_with fail
        go_quiet (fail)
        go_wp2_with fail
        go_ret
        exact ⟨ret_u8 Hh.out, ⟨i, hile, Hs.out.symm, HP.out⟩, HB.out.drew _⟩
      | true =>
        have HR2 := Lib.hid (HR.out.step hil hb)
        have hn : s[i].toNat = 32 ∨ s[i].toNat = 9 ∨ s[i].toNat = 10 := by
          rw [blank_nat] at hb
          exact of_decide_eq_true hb
        clear hb
        rcases hn with hn | hn | hn
        all_goals
          go_wp2_with fail
          go_quiet (fail)
          go_wp2_with fail
          go_quiet (fail)
          go_wp2_with fail
          obtain ⟨t1, t2⟩ := touch_setCell (i := 1) (v := .int .i64 ((i : Int) + 1)) HP.out
          go_roundg k
          case measure => omega
          case rel => exact ⟨i + 1, by omega, HR2, Lib.hid (by unfold RdAt; rw [show ((i + 1 : Nat) : Int) = (i : Int) + 1 by omega]; exact t1), Lib.hid ((HB.out.trans (But.touch t2)).drew _)⟩
def failE (e0 bad : Int) : Int := if bad = 0 then e0 else bad
set_option maxRecDepth 100000 in
set_option maxHeartbeats 1600000 in
theorem fail_any (g : Nat) (s : ByteArray) (a m : Nat) (vst : Value) (bad e0 : Int) (w : World) (h : RdAt g s a m vst bad w) :
    Calls Tryz.prog 96 #[.pointer (some ⟨g, 0, none⟩), .int .i64 e0] w fun e w' => e = .returned (.tuple #[]) ∧ RdAt g s a m vst (failE e0 bad) w' ∧ But g w w' := by
  have h4 : w.cell? ⟨g, 4, none⟩ = some (.int .i64 bad) := cell_block h 4
  have hz : w.frozen? ⟨g, 4, none⟩ = false := free_block h 4
  have H := Lib.hid h
  clear h
  by_cases hb : bad = 0
  · subst hb
    go_enter Tryz.func96, Tryz.ntmps96
    go_wp2_with fail
    obtain ⟨t1, t2⟩ := touch_setCell (i := 4) (v := .int .i64 e0) H.out
    go_end0
    exact ⟨rfl, by rw [show failE e0 0 = e0 from rfl]; exact t1, But.touch t2⟩
  · have q1 : (bad == 0) = false := by rw [beq_eq_false_iff_ne]; exact hb
    have Hr : Hid (failE e0 bad = bad) := Lib.hid (if_neg hb)
    clear hb
    go_enter Tryz.func96, Tryz.ntmps96
    go_wp2_with fail
    go_end0
    exact ⟨rfl, by rw [Hr.out]; exact H.out, But.refl _ _⟩
end Go.Proofs.YtnnceaapodgfbaaGreatDoor
namespace Go.Proofs.YtnnceaapodgfbaaGreatDoor
open Go
namespace JP
def lenL : List JV → Nat
  | [] => 0
  | v :: r => (text v).length + 1 + lenL r
def lenF : List (Bs × JV) → Nat
  | [] => 0
  | (n, v) :: r => (quote n).length + 1 + (text v).length + 1 + lenF r
theorem lenL_append (a b : List JV) : lenL (a ++ b) = lenL a + lenL b := by
  induction a with
  | nil => simp [lenL]
  | cons v r ih => simp only [List.cons_append, lenL, ih]; omega
theorem sizeL_append (a b : List JV) : sizeL (a ++ b) = sizeL a + sizeL b := by
  induction a with
  | nil => simp [sizeL]
  | cons v r ih => simp only [List.cons_append, sizeL, ih]; omega
theorem deepL_append (a b : List JV) : deepL (a ++ b) = max (deepL a) (deepL b) := by
  induction a with
  | nil => simp [deepL]
  | cons v r ih => simp only [List.cons_append, deepL, ih]; omega
theorem wfL_append {a b : List JV} : wfL (a ++ b) ↔ wfL a ∧ wfL b := by
  induction a with
  | nil => simp [wfL]
  | cons v r ih => simp only [List.cons_append, wfL, ih, and_assoc]
theorem join_len (l : List JV) : (Lib.join (textL l) [44]).length + 1 = lenL l ∨ l = [] := by
  induction l with
  | nil => exact .inr rfl
  | cons v r ih =>
    refine .inl ?_
    cases r with
    | nil => simp [textL, joinB_one, lenL]
    | cons x q =>
      have h := ih.resolve_right (by simp)
      rw [textL] at h
      rw [textL, textL, joinB_more, lenL]
      simp only [List.length_append, List.length_cons, List.length_nil] at h ⊢
      omega
theorem join_lenF (l : List (Bs × JV)) : (Lib.join (textF l) [44]).length + 1 = lenF l ∨ l = [] := by
  induction l with
  | nil => exact .inr rfl
  | cons x r ih =>
    obtain ⟨n, v⟩ := x
    refine .inl ?_
    cases r with
    | nil => simp [textF, joinB_one, lenF]; omega
    | cons x q =>
      obtain ⟨k, u⟩ := x
      have h := ih.resolve_right (by simp)
      rw [textF] at h
      rw [textF, textF, joinB_more, lenF]
      simp only [List.length_append, List.length_cons, List.length_nil] at h ⊢
      omega
theorem text_list_len (l : List JV) : (text (.list l)).length ≤ 1 + lenL l ∨ (l = [] ∧ (text (.list l)).length = 2) := by
  rcases join_len l with h | rfl
  · refine .inl ?_
    rw [text]; simp only [List.length_cons, List.length_append, List.length_nil]; omega
  · exact .inr ⟨rfl, by rw [text]; rfl⟩
theorem text_obj_len (l : List (Bs × JV)) : (text (.obj l)).length ≤ 1 + lenF l ∨ (l = [] ∧ (text (.obj l)).length = 2) := by
  rcases join_lenF l with h | rfl
  · refine .inl ?_
    rw [text]; simp only [List.length_cons, List.length_append, List.length_nil]; omega
  · exact .inr ⟨rfl, by rw [text]; rfl⟩
theorem put_len (n : Bs) (v : JV) : ∀ d, get n d = none → lenF (put n v d) = lenF d + ((quote n).length + 1 + (text v).length + 1)
  | [], _ => by simp [put, lenF]
  | (m, x) :: r, h => by
    unfold get at h
    by_cases e : m = n
    · rw [if_pos e] at h; cases h
    · rw [if_neg e] at h
      unfold put
      split
      · simp only [lenF, put_len n v r h]; omega
      · simp only [lenF]; omega
theorem put_size (n : Bs) (v : JV) : ∀ d, get n d = none → sizeF (put n v d) = sizeF d + size v
  | [], _ => by simp [put, sizeF]
  | (m, x) :: r, h => by
    unfold get at h
    by_cases e : m = n
    · rw [if_pos e] at h; cases h
    · rw [if_neg e] at h
      unfold put
      split
      · simp only [sizeF, put_size n v r h]; omega
      · simp only [sizeF]; omega
theorem put_deep (n : Bs) (v : JV) : ∀ d, deepF (put n v d) ≤ max (deepF d) (deep v)
  | [] => by simp [put, deepF]
  | (m, x) :: r => by
    unfold put
    split
    · simp only [deepF]; have := put_deep n v r; omega
    · split
      · simp only [deepF]; omega
      · simp only [deepF]; omega
theorem put_wf {n : Bs} {v : JV} (hn : n.all stand = true) (hv : wf v) : ∀ {d}, wfF d → wfF (put n v d)
  | [], _ => by simp only [put, wfF]; exact ⟨hn, hv, trivial⟩
  | (m, x) :: r, h => by
    rw [wfF] at h
    unfold put
    split
    · rw [wfF]; exact ⟨h.1, h.2.1, put_wf hn hv h.2.2⟩
    · split
      · rw [wfF]; exact ⟨hn, hv, h.2.2⟩
      · rw [wfF, wfF]; exact ⟨hn, hv, h⟩
theorem put_mem {n : Bs} {v : JV} : ∀ {d} {y : Bs × JV}, y ∈ put n v d → y = (n, v) ∨ y ∈ d
  | [], y, h => by simp [put] at h; exact .inl h
  | (m, x) :: r, y, h => by
    unfold put at h
    split at h
    · rcases List.mem_cons.1 h with h | h
      · exact .inr (List.mem_cons.2 (.inl h))
      · rcases put_mem h with h | h
        · exact .inl h
        · exact .inr (List.mem_cons_of_mem _ h)
    · split at h
      · rcases List.mem_cons.1 h with h | h
        · exact .inl h
        · exact .inr (List.mem_cons_of_mem _ h)
      · rcases List.mem_cons.1 h with h | h
        · exact .inl h
        · exact .inr h
theorem bs_trich (a b : Bs) (h1 : ¬ a < b) (h2 : a ≠ b) : b < a := by
  by_cases h : b < a
  · exact h
  · exact absurd (List.le_antisymm (List.not_lt.1 h) (List.not_lt.1 h1)) h2
theorem bs_trans {a b c : Bs} (h : a < b) (k : b < c) : a < c := List.lt_trans h k
theorem put_srt {n : Bs} {v : JV} : ∀ {d}, Srt d → Srt (put n v d)
  | [], _ => by simp [put, Srt]
  | (m, x) :: r, h => by
    obtain ⟨h1, h2⟩ := List.pairwise_cons.1 h
    unfold put
    by_cases c1 : m < n
    · rw [if_pos c1]
      refine List.pairwise_cons.2 ⟨fun y hy => ?_, put_srt h2⟩
      rcases put_mem hy with rfl | hy
      · exact c1
      · exact h1 y hy
    · rw [if_neg c1]
      by_cases c2 : m = n
      · rw [if_pos c2]
        subst c2
        exact List.pairwise_cons.2 ⟨fun y hy => h1 y hy, h2⟩
      · rw [if_neg c2]
        have c3 := bs_trich _ _ c1 c2
        refine List.pairwise_cons.2 ⟨fun y hy => ?_, h⟩
        rcases List.mem_cons.1 hy with rfl | hy
        · exact c3
        · exact bs_trans c3 (h1 y hy)
theorem dec_lt : ∀ (ds : Bs) (acc n : Nat), Lib.decFrom acc ds = some n → n < (acc + 1) * 10 ^ ds.length
  | [], acc, n, h => by simp only [Lib.decFrom, Option.some.injEq] at h; subst h; simp
  | c :: r, acc, n, h => by
    unfold Lib.decFrom at h
    cases hd : Lib.digitVal c with
    | none => rw [hd] at h; cases h
    | some d =>
      rw [hd] at h
      have h1 := dec_lt r _ n h
      have h2 : d < 10 := by
        unfold Lib.digitVal at hd
        split at hd
        · simp only [Option.some.injEq] at hd; omega
        · cases hd
      rw [List.length_cons, Nat.pow_succ, Nat.mul_comm (10 ^ r.length) 10, ← Nat.mul_assoc]
      refine Nat.lt_of_lt_of_le h1 (Nat.mul_le_mul_right _ ?_)
      omega
theorem decV_lt (ds : Bs) : decV ds < 10 ^ ds.length := by
  unfold decV
  cases h : Lib.decFrom 0 ds with
  | none => simp; exact Nat.pos_of_ne_zero (by simp)
  | some n => have := dec_lt ds 0 n h; simpa using this
theorem num_good {r : Bs} (h : numE r = 0) : numOK (numV r) ∧ (Lib.itoa (numV r)).length + (numR r).length ≤ r.length := by
  have h2 : (digs r).length + (numR r).length = (sgn r).length := by
    unfold digs numR
    rw [← List.length_append, List.takeWhile_append_dropWhile]
  have hv := decV_lt (digs r)
  have h0 : 0 < (digs r).length ∧ (digs r).length ≤ 18 := by
    unfold numE at h
    split at h
    · cases h
    · rename_i c t hd
      rw [hd]
      split at h
      · cases h
      · split at h
        · cases h
        · simp at *; omega
  have h18 : (10 : Nat) ^ (digs r).length ≤ 10 ^ 18 := Nat.pow_le_pow_right (by decide) h0.2
  have hn := nDigits_le _ _ h0.1 hv
  have hsg : (sgn r).length + (if negB r = true then 1 else 0) ≤ r.length := by
    unfold sgn negB
    split
    · simp
    · simp
  have hlt : decV (digs r) < 1000000000000000000 := Nat.lt_of_lt_of_le hv (by simpa using h18)
  unfold numV
  by_cases hb : negB r = true
  · rw [if_pos hb] at hsg
    rw [if_pos hb]
    refine ⟨by unfold numOK; omega, ?_⟩
    unfold Lib.itoa
    split
    · rw [List.length_cons, Lib.decDigits_length, show (-(decV (digs r) : Int)).natAbs = decV (digs r) by omega]
      omega
    · rw [Lib.decDigits_length, show (-(decV (digs r) : Int)).toNat = 0 by omega, Lib.nDigits_small (by decide)]
      omega
  · rw [if_neg hb] at hsg
    rw [if_neg hb]
    refine ⟨by unfold numOK; omega, ?_⟩
    unfold Lib.itoa
    rw [if_neg (by omega), Lib.decDigits_length, show ((decV (digs r) : Int)).toNat = decV (digs r) by omega]
    omega
theorem escV_stand {d c : UInt8} (h : escV d = some c) : stand c = true ∧ (escB c).length ≤ 2 := by
  unfold escV at h
  split at h
  · rename_i hd
    cases h
    rcases hd with rfl | rfl <;> decide
  · split at h
    · cases h; decide
    · split at h
      · cases h; decide
      · cases h
theorem textP_good : ∀ (r : Bs) (x : Bs × Bs), textP r = some x → x.1.all stand = true ∧ (x.1.flatMap escB).length + 1 + x.2.length ≤ r.length := by
  intro r
  induction r using textP.induct with
  | case1 => intro x h; simp [textP] at h
  | case2 r => intro x h; simp only [textP, Option.some.injEq] at h; subst h; simp; omega
  | case3 => intro x h; simp [textP] at h
  | case4 d r hd => intro x h; simp [textP, hd] at h
  | case5 d r c hd ih =>
    intro x h
    simp only [textP, hd] at h
    obtain ⟨y, hy, rfl⟩ := Option.map_eq_some_iff.1 h
    obtain ⟨h1, h2⟩ := ih y hy
    obtain ⟨h3, h4⟩ := escV_stand hd
    refine ⟨by simp only [List.all_cons, h3, h1, Bool.and_self], ?_⟩
    simp only [List.flatMap_cons, List.length_append, List.length_cons]
    omega
  | case6 c r h1 h2 h3 h4 => intro x h; rw [textP] at h <;> simp_all
  | case7 c r h1 h2 h3 h4 ih =>
    intro x h
    have c34 : c ≠ 34 := fun e => h1 e
    have c92 : c ≠ 92 := fun e => by
      cases r with
      | nil => exact h2 e rfl
      | cons d t => exact h3 d t e rfl
    rw [textP_other _ c34 c92, if_neg h4] at h
    obtain ⟨y, hy, rfl⟩ := Option.map_eq_some_iff.1 h
    obtain ⟨k1, k2⟩ := ih y hy
    have hc : stand c = true := by
      unfold stand
      have a : 32 ≤ c := UInt8.not_lt.1 fun h => h4 (.inl h)
      have b : c ≤ 126 := UInt8.not_lt.1 fun h => h4 (.inr h)
      simp [a, b]
    have he : (escB c).length = 1 := by
      unfold escB
      have c10 : c ≠ 10 := fun e => by subst e; exact h4 (.inl (by decide))
      have c9 : c ≠ 9 := fun e => by subst e; exact h4 (.inl (by decide))
      rw [if_neg (by simp [c34, c92]), if_neg c10, if_neg c9]; rfl
    refine ⟨by simp only [List.all_cons, hc, k1, Bool.and_self], ?_⟩
    simp only [List.flatMap_cons, List.length_append, List.length_cons]
    omega
theorem quote_len (s : Bs) : (quote s).length = (s.flatMap escB).length + 2 := by unfold quote; simp
def frOK : Fr → Prop
  | .lst d => wfL d
  | .ob d n => Srt d ∧ wfF d ∧ n.all stand = true ∧ get n d = none
def wlen : Fr → Nat
  | .lst d => 1 + lenL d
  | .ob d n => 1 + lenF d + (quote n).length + 1
def sizeFr : Fr → Nat
  | .lst d => 1 + sizeL d
  | .ob d _ => 1 + sizeF d
def deepFr : Fr → Nat
  | .lst d => deepL d
  | .ob d _ => deepF d
def StOK : List Fr → Prop
  | [] => True
  | f :: st => frOK f ∧ deepFr f + st.length + 1 ≤ 10 ∧ StOK st
def wlenS (st : List Fr) : Nat := (st.map wlen).sum
def sizeS (st : List Fr) : Nat := (st.map sizeFr).sum
def Inv (N : Nat) : R → Prop
  | .bad e => e ≠ 0
  | .whole v r m st => r.length + (text v).length + wlenS st ≤ N ∧ m = size v + sizeS st ∧ m ≤ 200 ∧ wf v ∧ deep v + st.length ≤ 10 ∧ StOK st
  | .more r m st => r.length + wlenS st ≤ N ∧ m = sizeS st ∧ m ≤ 200 ∧ StOK st
theorem stOK_len {st : List Fr} (h : StOK st) : st.length ≤ 10 := by
  cases st with
  | nil => simp
  | cons f st => have := h.2.1; simp only [List.length_cons]; omega
theorem field_inv {N : Nat} {r : Bs} {m : Nat} {d : List (Bs × JV)} {st : List Fr} (h1 : r.length + (1 + lenF d) + wlenS st ≤ N) (h2 : m = 1 + sizeF d + sizeS st) (h3 : m ≤ 200) (h4 : Srt d) (h5 : wfF d) (h6 : deepF d + st.length + 1 ≤ 10) (h7 : StOK st) : Inv N (fieldP r m d st) := by
  unfold fieldP
  split
  · show (_ : Int) ≠ 0; first | decide | assumption
  · rename_i c t hc
    have hl := skip_cons hc
    split
    · split
      · show (_ : Int) ≠ 0; first | decide | assumption
      · rename_i x hx
        obtain ⟨k1, k2⟩ := textP_good _ _ hx
        unfold fieldN
        split
        · show (_ : Int) ≠ 0; first | decide | assumption
        · rename_i hg
          split
          · show (_ : Int) ≠ 0; first | decide | assumption
          · rename_i c' t' hc'
            have hl' := skip_cons hc'
            split
            · have hq := quote_len x.1
              refine ⟨?_, ?_, h3, ⟨h4, h5, k1, by simpa using hg⟩, h6, h7⟩
              · simp only [wlenS, List.map_cons, List.sum_cons, wlen] at h1 ⊢; omega
              · simp only [sizeS, List.map_cons, List.sum_cons, sizeFr] at h2 ⊢; omega
            · show (_ : Int) ≠ 0; first | decide | assumption
    · show (_ : Int) ≠ 0; first | decide | assumption
theorem word_inv {N : Nat} {v : JV} {p r : Bs} {m : Nat} {st : List Fr} (hp : (text v).length = p.length) (hv : wf v) (hd : deep v = 0) (hs : size v = 1) (h1 : r.length + wlenS st ≤ N) (h2 : m = 1 + sizeS st) (h3 : m ≤ 200) (h7 : StOK st) : Inv N (wordP v p r m st) := by
  unfold wordP
  split
  · rename_i h
    have := (List.isPrefixOf_iff_prefix.1 h).length_le
    refine ⟨by rw [List.length_drop]; omega, by omega, h3, hv, ?_, h7⟩
    have := stOK_len h7
    omega
  · show (_ : Int) ≠ 0; first | decide | assumption
theorem begin_inv {N : Nat} {r : Bs} {m : Nat} {st : List Fr} (h : Inv N (.more r m st)) : Inv N (beginP r m st) := by
  obtain ⟨h1, h2, h3, h7⟩ := h
  have h10 := stOK_len h7
  unfold beginP
  split
  · show (_ : Int) ≠ 0; first | decide | assumption
  · rename_i c t hc
    have hl := skip_cons hc
    have hs := skip_le t
    unfold beginC
    split
    · show (_ : Int) ≠ 0; first | decide | assumption
    · split
      · show (_ : Int) ≠ 0; first | decide | assumption
      · rename_i hm
        split
        · show (_ : Int) ≠ 0; first | decide | assumption
        · rename_i hdp
          split
          · rename_i hc1
            have h9 : st.length ≤ 9 := by
              rcases Nat.lt_or_ge st.length 10 with h | h
              · omega
              · exact absurd ⟨.inl hc1, by omega⟩ hdp
            split
            · rename_i hh
              have : 0 < (skip t).length := by
                cases hk : skip t with
                | nil => rw [hk] at hh; cases hh
                | cons _ _ => simp
              refine ⟨?_, by simp only [size, sizeL]; omega, by omega, by rw [wf]; trivial, by simp only [deep, deepL]; omega, h7⟩
              rw [List.length_tail, text]
              show _ + ([91, 93] : Bs).length + _ ≤ N
              simp only [List.length_cons, List.length_nil]
              omega
            · refine ⟨?_, ?_, by omega, ⟨by show wfL []; rw [wfL]; trivial, by show deepL [] + _ + 1 ≤ 10; rw [deepL]; omega, h7⟩⟩
              · simp only [wlenS, List.map_cons, List.sum_cons, wlen, lenL] at h1 ⊢; omega
              · simp only [sizeS, List.map_cons, List.sum_cons, sizeFr, sizeL] at h2 ⊢; omega
          · split
            · rename_i hc1
              have h9 : st.length ≤ 9 := by
                rcases Nat.lt_or_ge st.length 10 with h | h
                · omega
                · exact absurd ⟨.inr hc1, by omega⟩ hdp
              split
              · rename_i hh
                have : 0 < (skip t).length := by
                  cases hk : skip t with
                  | nil => rw [hk] at hh; cases hh
                  | cons _ _ => simp
                refine ⟨?_, by simp only [size, sizeF]; omega, by omega, by rw [wf, wfF]; exact ⟨List.Pairwise.nil, trivial⟩, by simp only [deep, deepF]; omega, h7⟩
                rw [List.length_tail, text]
                show _ + ([123, 125] : Bs).length + _ ≤ N
                simp only [List.length_cons, List.length_nil]
                omega
              · refine field_inv ?_ ?_ (by omega) List.Pairwise.nil (by rw [wfF]; trivial) (by rw [deepF]; omega) h7
                · rw [lenF]; omega
                · rw [sizeF]; omega
            · unfold plainP
              split
              · split
                · show (_ : Int) ≠ 0; first | decide | assumption
                · rename_i x hx
                  obtain ⟨k1, k2⟩ := textP_good _ _ hx
                  have hq := quote_len x.1
                  rw [List.tail_cons] at k2
                  refine ⟨?_, by simp only [size]; omega, by omega, by rw [wf]; exact k1, by simp only [deep]; omega, h7⟩
                  rw [text]; omega
              · split
                · exact word_inv (by first | (rw [text]; done) | (rw [text]; rfl)) (by rw [wf]; trivial) rfl rfl (by rw [List.length_cons]; omega) (by omega) (by omega) h7
                · split
                  · exact word_inv (by first | (rw [text]; done) | (rw [text]; rfl)) (by rw [wf]; trivial) rfl rfl (by rw [List.length_cons]; omega) (by omega) (by omega) h7
                  · split
                    · exact word_inv (by first | (rw [text]; done) | (rw [text]; rfl)) (by rw [wf]; trivial) rfl rfl (by rw [List.length_cons]; omega) (by omega) (by omega) h7
                    · split
                      · rename_i hn
                        obtain ⟨k1, k2⟩ := num_good hn
                        rw [List.length_cons] at k2
                        refine ⟨?_, by simp only [size]; omega, by omega, by rw [wf]; exact k1, by simp only [deep]; omega, h7⟩
                        rw [text]; omega
                      · show (_ : Int) ≠ 0; first | decide | assumption
theorem goes_inv {N : Nat} {v : JV} {r : Bs} {m : Nat} {f : Fr} {st : List Fr} (h : Inv N (.whole v r m (f :: st))) : Inv N (goesP v r m f st) := by
  obtain ⟨h1, h2, h3, h4, h5, h6, h7, h8⟩ := h
  rw [List.length_cons] at h5
  unfold goesP
  cases f with
  | lst d =>
    simp only [wlenS, sizeS, List.map_cons, List.sum_cons, wlen, sizeFr, deepFr] at h1 h2 h7
    have h6' : wfL d := h6
    have w1 : wfL (d ++ [v]) := wfL_append.2 ⟨h6', by rw [wfL, wfL]; exact ⟨h4, trivial⟩⟩
    have e1 : lenL (d ++ [v]) = lenL d + ((text v).length + 1) := by rw [lenL_append]; simp [lenL]
    have e2 : sizeL (d ++ [v]) = sizeL d + size v := by rw [sizeL_append]; simp [sizeL]
    have e3 : deepL (d ++ [v]) = max (deepL d) (deep v) := by rw [deepL_append]; simp [deepL]
    dsimp only
    split
    · show (_ : Int) ≠ 0; first | decide | assumption
    · rename_i c t hc
      have hl := skip_cons hc
      split
      · refine ⟨?_, ?_, h3, by rw [wf]; exact w1, by rw [deep, e3]; omega, h8⟩
        · rcases text_list_len (d ++ [v]) with h | ⟨h, _⟩
          · unfold wlenS; omega
          · simp at h
        · rw [size, e2]; unfold sizeS; omega
      · split
        · refine ⟨?_, ?_, h3, ⟨w1, by show deepL _ + _ + 1 ≤ 10; rw [e3]; omega, h8⟩⟩
          · simp only [wlenS, List.map_cons, List.sum_cons, wlen]; omega
          · simp only [sizeS, List.map_cons, List.sum_cons, sizeFr]; omega
        · show (_ : Int) ≠ 0; first | decide | assumption
  | ob d n =>
    simp only [wlenS, sizeS, List.map_cons, List.sum_cons, wlen, sizeFr, deepFr] at h1 h2 h7
    obtain ⟨k1, k2, k3, k4⟩ : Srt d ∧ wfF d ∧ n.all stand = true ∧ get n d = none := h6
    have w1 := put_wf k3 h4 k2
    have w2 : Srt (put n v d) := put_srt k1
    have e1 := put_len n v d k4
    have e2 := put_size n v d k4
    have e3 := put_deep n v d
    dsimp only
    split
    · show (_ : Int) ≠ 0; first | decide | assumption
    · rename_i c t hc
      have hl := skip_cons hc
      split
      · refine ⟨?_, ?_, h3, by rw [wf]; exact ⟨w2, w1⟩, by rw [deep]; omega, h8⟩
        · rcases text_obj_len (put n v d) with h | ⟨h, _⟩
          · unfold wlenS; omega
          · rw [h] at e1; simp only [lenF] at e1; omega
        · rw [size, e2]; unfold sizeS; omega
      · split
        · refine field_inv ?_ ?_ h3 w2 w1 (by omega) h8
          · unfold wlenS; omega
          · unfold sizeS; omega
        · show (_ : Int) ≠ 0; first | decide | assumption
theorem fin_inv {N : Nat} (x : R) : Inv N x → ∀ v, fin x = (v, 0) → wf v ∧ size v ≤ 200 ∧ deep v ≤ 10 ∧ (text v).length ≤ N := by
  induction x using fin.induct with
  | case1 e => intro hi v h; rw [fin_bad] at h; exact absurd (Prod.mk.inj h).2 hi
  | case2 r m st ih => intro hi v h; rw [fin_more] at h; exact ih (begin_inv hi) v h
  | case3 v r m hr =>
    intro hi u h
    rw [fin_end, if_pos hr] at h
    cases h
    obtain ⟨h1, h2, h3, h4, h5, _⟩ := hi
    exact ⟨h4, by omega, by omega, by omega⟩
  | case4 v r m hr => intro hi u h; rw [fin_end, if_neg hr] at h; cases h
  | case5 v r m f st ih => intro hi u h; rw [fin_whole] at h; exact ih (goes_inv hi) u h
end JP
end Go.Proofs.YtnnceaapodgfbaaGreatDoor
namespace Go.Proofs.YtnnceaapodgfbaaGreatDoor
open Go.RowKit
open JP (JV Bs)
theorem hasPre_extract (s sg : ByteArray) (a : Nat) (ha : a ≤ s.size) (w : World) {b : Bool} (hb : Lib.hasPrefix (s.data.toList.drop a) sg.data.toList = b) :
    Calls Tryz.prog 180 #[.string (s.extract a s.size), .string sg] w fun e w' => e = .returned (.bool b) ∧ w' = w := by
  have h := Tryz.strings_HasPrefix (s.extract a s.size) sg w
  rw [extract_take ha (Nat.le_refl _), List.take_of_length_le (by simp), hb] at h
  exact h
def WordAt (g : Nat) (s : ByteArray) (m : Nat) (vst : Value) (r sg : Bs) (w : World) (e : Ending) (w' : World) : Prop :=
  e = .returned (.tuple #[]) ∧ But g w w' ∧ ((sg.isPrefixOf r = true ∧ ∃ i, i ≤ s.size ∧ s.data.toList.drop i = r.drop sg.length ∧ RdAt g s i m vst 0 w') ∨ (sg.isPrefixOf r = false ∧ ∃ i, RdAt g s i m vst 3 w'))
set_option maxRecDepth 100000 in
set_option maxHeartbeats 3200000 in
theorem word_any (g : Nat) (s : ByteArray) (a m : Nat) (vst : Value) (sg : ByteArray) (w : World) (h : RdAt g s a m vst 0 w) (ha : a ≤ s.size) (hs : s.size ≤ 1048576) :
    Calls Tryz.prog 156 #[.pointer (some ⟨g, 0, none⟩), .string sg] w (WordAt g s m vst (s.data.toList.drop a) sg.data.toList w) := by
  have c0 : w.cell? ⟨g, 0, none⟩ = some (.string s) := cell_block h 0
  have c1 : w.cell? ⟨g, 1, none⟩ = some (.int .i64 (a : Int)) := cell_block h 1
  have hz : w.frozen? ⟨g, 1, none⟩ = false := free_block h 1
  have H := Lib.hid h
  have q1 : (0 : Int) ≤ (a : Int) := by omega
  have q2 : (a : Int) ≤ (s.size : Int) := by omega
  obtain ⟨b, hb⟩ : ∃ b, Lib.hasPrefix (s.data.toList.drop a) sg.data.toList = b := ⟨_, rfl⟩
  have HC := fun w => Lib.hid (hasPre_extract s sg a ha w hb)
  have hl : s.data.toList.length = s.size := by simp
  have hsl : sg.data.toList.length = sg.size := by simp
  cases b with
  | false =>
    have Hb := Lib.hid hb
    clear h hb hl hsl
    go_enter Tryz.func156, Tryz.ntmps156
    go_wp2_with fail
    go_quiet ((go_at_call 180; exact Calls.quiet_of_same (HC _).out))
    go_wp2_with fail
    refine (fail_any g s a m vst 0 3 _ (H.out.drew _)).mono ?_
    rintro E w1 ⟨rfl, hr, hbt⟩
    have Hr := Lib.hid hr
    have Hbt := Lib.hid hbt
    clear hr hbt
    go_wp2_with fail
    go_end0
    exact ⟨rfl, ((But.refl _ _).drew _).trans Hbt.out, .inr ⟨Hb.out, a, Hr.out⟩⟩
  | true =>
    have hroom := (List.isPrefixOf_iff_prefix.1 hb).length_le
    rw [List.length_drop, hl, hsl] at hroom
    have Hr : Hid (s.data.toList.drop (a + sg.size) = (s.data.toList.drop a).drop sg.data.toList.length) := Lib.hid (by rw [hsl, List.drop_drop])
    have hk : a + sg.size ≤ s.size := by omega
    have Hb := Lib.hid hb
    clear h hb hl hsl hroom
    go_enter Tryz.func156, Tryz.ntmps156
    go_wp2_with fail
    go_quiet ((go_at_call 180; exact Calls.quiet_of_same (HC _).out))
    go_wp2_with fail
    obtain ⟨t1, t2⟩ := touch_setCell (i := 1) (v := .int .i64 ((a : Int) + (sg.size : Int))) H.out
    go_end0
    refine ⟨rfl, ((But.touch t2).drew _), .inl ⟨Hb.out, a + sg.size, hk, Hr.out, ?_⟩⟩
    unfold RdAt
    rw [show ((a + sg.size : Nat) : Int) = (a : Int) + (sg.size : Int) by omega]
    exact t1
def escB? (r : Bs) : Option UInt8 := match r with
  | [] => none
  | c :: _ => JP.escV c
def EscAt (g : Nat) (s : ByteArray) (a m : Nat) (vst : Value) (r : Bs) (w : World) (e : Ending) (w' : World) : Prop :=
  (∃ x, escB? r = some x ∧ e = .returned (.int .u8 (x.toNat : Int)) ∧ RdAt g s a m vst 0 w' ∧ But g w w') ∨ (escB? r = none ∧ e = .returned (.int .u8 0) ∧ RdAt g s a m vst 3 w' ∧ But g w w')
theorem escV_nat (c : UInt8) : JP.escV c = if c.toNat = 34 ∨ c.toNat = 92 then some c else if c.toNat = 110 then some 10 else if c.toNat = 116 then some 9 else none := by
  have e : ∀ k : UInt8, (c = k) = (c.toNat = k.toNat) := fun k => propext ⟨fun h => by rw [h], fun h => UInt8.toNat_inj.1 h⟩
  unfold JP.escV
  simp only [e 34, e 92, e 110, e 116]
  rfl
set_option maxRecDepth 100000 in
set_option maxHeartbeats 3200000 in
theorem escape_any (g : Nat) (s : ByteArray) (a m : Nat) (vst : Value) (w : World) (h : RdAt g s a m vst 0 w) (ha : a ≤ s.size) (hs : s.size ≤ 1048576) :
    Calls Tryz.prog 179 #[.pointer (some ⟨g, 0, none⟩)] w (EscAt g s a m vst (s.data.toList.drop a) w) := by
  have c0 : w.cell? ⟨g, 0, none⟩ = some (.string s) := cell_block h 0
  have c1 : w.cell? ⟨g, 1, none⟩ = some (.int .i64 (a : Int)) := cell_block h 1
  have H := Lib.hid h
  clear h
  have q0 : (0 : Int) ≤ (a : Int) := by omega
  by_cases hl : a < s.size
  · have q1 : (a : Int) < (s.size : Int) := by omega
    have p0 : decide (a < s.size) = true := decide_eq_true hl
    have He : Hid (escB? (s.data.toList.drop a) = JP.escV s[a]) := Lib.hid (by rw [drop_at hl]; rfl)
    have hev := escV_nat s[a]
    have way : s[a].toNat = 34 ∨ s[a].toNat = 92 ∨ s[a].toNat = 110 ∨ s[a].toNat = 116 ∨ (s[a].toNat ≠ 34 ∧ s[a].toNat ≠ 92 ∧ s[a].toNat ≠ 110 ∧ s[a].toNat ≠ 116) := by omega
    rcases way with hn | hn | hn | hn | ⟨n1, n2, n3, n4⟩
    · have Hv : Hid (escB? (s.data.toList.drop a) = some 34) := Lib.hid (by rw [He.out, hev, if_pos (.inl hn), u8_eq (a := s[a]) (b := 34) hn])
      clear hev He
      go_enter Tryz.func179, Tryz.ntmps179
      go_wp2_with fail
      go_quiet (fail)
      go_wp2_with fail
      go_quiet (fail)
      go_wp2_with fail
      go_ret
      exact .inl ⟨34, Hv.out, rfl, H.out, (But.refl _ _).drew _⟩
    · have Hv : Hid (escB? (s.data.toList.drop a) = some 92) := Lib.hid (by rw [He.out, hev, if_pos (.inr hn), u8_eq (a := s[a]) (b := 92) hn])
      clear hev He
      go_enter Tryz.func179, Tryz.ntmps179
      go_wp2_with fail
      go_quiet (fail)
      go_wp2_with fail
      go_quiet (fail)
      go_wp2_with fail
      go_ret
      exact .inl ⟨92, Hv.out, rfl, H.out, (But.refl _ _).drew _⟩
    · have Hv : Hid (escB? (s.data.toList.drop a) = some 10) := Lib.hid (by rw [He.out, hev, if_neg (by omega), if_pos hn])
      clear hev He
      go_enter Tryz.func179, Tryz.ntmps179
      go_wp2_with fail
      go_quiet (fail)
      go_wp2_with fail
      go_quiet (fail)
      go_wp2_with fail
      go_ret
      exact .inl ⟨10, Hv.out, rfl, H.out, (But.refl _ _).drew _⟩
    · have Hv : Hid (escB? (s.data.toList.drop a) = some 9) := Lib.hid (by rw [He.out, hev, if_neg (by omega), if_neg (by omega), if_pos hn])
      clear hev He
      go_enter Tryz.func179, Tryz.ntmps179
      go_wp2_with fail
      go_quiet (fail)
      go_wp2_with fail
      go_quiet (fail)
      go_wp2_with fail
      go_ret
      exact .inl ⟨9, Hv.out, rfl, H.out, (But.refl _ _).drew _⟩
    · have Hv : Hid (escB? (s.data.toList.drop a) = none) := Lib.hid (by rw [He.out, hev, if_neg (by omega), if_neg n3, if_neg n4])
      have e1 : ((s[a].toNat : Int) == 34) = false := by rw [beq_eq_false_iff_ne]; omega
      have e2 : ((s[a].toNat : Int) == 92) = false := by rw [beq_eq_false_iff_ne]; omega
      have e3 : ((s[a].toNat : Int) == 110) = false := by rw [beq_eq_false_iff_ne]; omega
      have e4 : ((s[a].toNat : Int) == 116) = false := by rw [beq_eq_false_iff_ne]; omega
      clear hev He n1 n2 n3 n4
      go_enter Tryz.func179, Tryz.ntmps179
      go_wp2_with fail
      go_quiet (fail)
      go_wp2_with fail
      go_quiet (fail)
      go_wp2_with fail
      refine (fail_any g s a m vst 0 3 _ (H.out.drew _)).mono ?_
      rintro E w1 ⟨rfl, hr, hbt⟩
      have Hr := Lib.hid hr
      have Hbt := Lib.hid hbt
      clear hr hbt
      go_wp2_with fail
      go_ret
      exact .inr ⟨Hv.out, rfl, Hr.out, ((But.refl _ _).drew _).trans Hbt.out⟩
  · have q1 : ¬ (a : Int) < (s.size : Int) := by omega
    have p0 : decide (a < s.size) = false := decide_eq_false hl
    have Hv : Hid (escB? (s.data.toList.drop a) = none) := Lib.hid (by rw [drop_end (by omega)]; rfl)
    clear hl
    go_enter Tryz.func179, Tryz.ntmps179
    go_wp2_with fail
    go_quiet (fail)
    go_wp2_with fail
    refine (fail_any g s a m vst 0 3 _ (H.out.drew _)).mono ?_
    rintro E w1 ⟨rfl, hr, hbt⟩
    have Hr := Lib.hid hr
    have Hbt := Lib.hid hbt
    clear hr hbt
    go_wp2_with fail
    go_ret
    exact .inr ⟨Hv.out, rfl, Hr.out, ((But.refl _ _).drew _).trans Hbt.out⟩
end Go.Proofs.YtnnceaapodgfbaaGreatDoor
namespace Go.Proofs.YtnnceaapodgfbaaGreatDoor
open Go.RowKit
open JP (JV Bs)
theorem RdAt.cast {g : Nat} {s : ByteArray} {a m : Nat} {vst : Value} {bad : Int} {w : World} {z : Int} (h : w.heap[g]? = some (.cells #[.string s, .int .i64 z, .int .i64 (m : Int), vst, .int .i64 bad] 174 (0, 0))) (hz : z = (a : Int)) : RdAt g s a m vst bad w := by
  subst hz; exact h
def TxtAt (g : Nat) (s : ByteArray) (m : Nat) (vst : Value) (K : Option (Bs × Bs)) (w : World) (e : Ending) (w' : World) : Prop :=
  But g w w' ∧ ((∃ x, K = some x ∧ e = .returned (.string (mkB x.1)) ∧ ∃ i, i ≤ s.size ∧ s.data.toList.drop i = x.2 ∧ RdAt g s i m vst 0 w') ∨ (K = none ∧ e = .returned (.string ⟨#[]⟩) ∧ ∃ i, i ≤ s.size ∧ RdAt g s i m vst 3 w'))
def addTo (acc : Bs) (k : Option (Bs × Bs)) : Option (Bs × Bs) := k.map fun x => (acc ++ x.1, x.2)
theorem addTo_nil (k : Option (Bs × Bs)) : addTo [] k = k := by unfold addTo; cases k <;> simp
theorem addTo_one (acc : Bs) (c : UInt8) (k : Option (Bs × Bs)) : addTo acc (k.map fun x => (c :: x.1, x.2)) = addTo (acc ++ [c]) k := by unfold addTo; cases k <;> simp
theorem but_below {g : Nat} {w w1 w2 : World} (h : But g w w1) (hb : Below w.heap.size w1 w2) : But g w w2 := ⟨hb.os.trans h.os, hb.tape.trans h.tape, hb.output.trans h.output, Nat.le_trans h.size hb.size, fun k hk hn => (hb.block k hk).trans (h.block k hk hn)⟩
theorem textP_esc (d : UInt8) (r : Bs) : JP.textP (92 :: d :: r) = match JP.escV d with
    | none => none
    | some c => (JP.textP r).map fun x => (c :: x.1, x.2) := by
  rw [JP.textP]
  cases JP.escV d <;> rfl
theorem esc_none {r : Bs} (h : escB? r = none) : JP.textP (92 :: r) = none := by
  cases r with
  | nil => rfl
  | cons d t => rw [textP_esc, show JP.escV d = none from h]
theorem esc_some {r : Bs} {x : UInt8} (h : escB? r = some x) : ∃ d t, r = d :: t ∧ JP.textP (92 :: r) = (JP.textP t).map fun y => (x :: y.1, y.2) := by
  cases r with
  | nil => cases h
  | cons d t => exact ⟨d, t, rfl, by rw [textP_esc, show JP.escV d = some x from h]⟩
set_option maxRecDepth 100000 in
set_option maxHeartbeats 6400000 in
theorem rtext_any (g : Nat) (s : ByteArray) (a m : Nat) (vst : Value) (w : World) (h : RdAt g s a m vst 0 w) (ha : a < s.size) (hs : s.size ≤ 1048576) :
    Calls Tryz.prog 154 #[.pointer (some ⟨g, 0, none⟩)] w (TxtAt g s m vst (JP.textP (s.data.toList.drop (a + 1))) w) := by
  obtain ⟨i0, hi0, hz0, hz1, hz2⟩ := info_parts Tryz.infoU8
  obtain ⟨K, HK⟩ : ∃ K, Hid (JP.textP (s.data.toList.drop (a + 1)) = K) := ⟨_, Lib.hid rfl⟩
  rw [HK.out]
  have c1 : w.cell? ⟨g, 1, none⟩ = some (.int .i64 (a : Int)) := cell_block h 1
  have hz : w.frozen? ⟨g, 1, none⟩ = false := free_block h 1
  have hgw : g < w.heap.size := by
    rcases Nat.lt_or_ge g w.heap.size with h1 | h1
    · exact h1
    · unfold RdAt at h; rw [Array.getElem?_eq_none h1] at h; cases h
  obtain ⟨t1, t2⟩ := touch_setCell (i := 1) (v := .int .i64 ((a : Int) + 1)) h
  have H1 : Hid (RdAt g s (a + 1) m vst 0 (w.setCell ⟨g, 1, none⟩ (.int .i64 ((a : Int) + 1)))) := Lib.hid (RdAt.cast t1 (by omega))
  have Hb1 := Lib.hid (But.touch t2)
  obtain ⟨W1, hW1⟩ : ∃ W1, W1 = w.setCell ⟨g, 1, none⟩ (.int .i64 ((a : Int) + 1)) := ⟨_, rfl⟩
  rw [← hW1] at H1 Hb1
  clear h t1 t2
  go_enter Tryz.func154, Tryz.ntmps154
  go_upto_region 3 with fail
  rw [← hW1]
  clear hW1 c1 hz
  go_loopg [3] (s.size - (a + 1)) (fun k u3 wr => ∃ (i : Nat) (acc : Bs), i + k = s.size ∧ acc.length ≤ i ∧ Hid (OwnAt RU8 1 wr w.heap.size 5 u3 acc) ∧ Hid (addTo acc (JP.textP (s.data.toList.drop i)) = K) ∧ Hid (RdAt g s i m vst 0 wr) ∧ Hid (But g w wr))
  case atStart => exact ⟨a + 1, [], by omega, by simp, Lib.hid (OwnAt.nil _), Lib.hid (by rw [addTo_nil]; exact HK.out), H1, Hb1⟩
  case round =>
    obtain ⟨i, acc, hik, hacc, Hown, HKi, HP, HB⟩ := hrel
    have h0 : wr.cell? ⟨g, 0, none⟩ = some (.string s) := cell_block HP.out 0
    have h1 : wr.cell? ⟨g, 1, none⟩ = some (.int .i64 (i : Int)) := cell_block HP.out 1
    have h4 : wr.cell? ⟨g, 4, none⟩ = some (.int .i64 0) := cell_block HP.out 4
    have hz : wr.frozen? ⟨g, 1, none⟩ = false := free_block HP.out 1
    have hsr := HB.out.size
    cases gk with
    | zero =>
      have hi : i = s.size := by omega
      have q0 : decide (i < s.size) = false := decide_eq_false (by omega)
      have q1 : ¬ (i : Int) < (s.size : Int) := by omega
      have HKn : Hid (K = none) := Lib.hid (by rw [← HKi.out, drop_end (by omega)]; rfl)
      have hile : i ≤ s.size := by omega
      clear hi hik
      go_wp2_with fail
      go_quiet (fail)
      go_wp2_with fail
      refine (fail_any g s i m vst 0 3 _ (HP.out.drew _)).mono ?_
      rintro E w1 ⟨rfl, hr, hbt⟩
      have Hr := Lib.hid hr
      have Hbt := Lib.hid ((HB.out.drew _).trans hbt)
      clear hr hbt
      go_wp2_with fail
      go_ret
      exact ⟨Hbt.out, .inr ⟨HKn.out, rfl, i, hile, Hr.out⟩⟩
    | succ k =>
      have hil : i < s.size := by omega
      have q0 : decide (i < s.size) = true := decide_eq_true hil
      have q1 : (i : Int) < (s.size : Int) := by omega
      have q2 : (0 : Int) ≤ (i : Int) := by omega
      have HK2 := HKi.out
      rw [drop_at hil] at HK2
      have HKc : Hid (addTo acc (JP.textP (s[i] :: s.data.toList.drop (i + 1))) = K) := Lib.hid HK2
      clear HK2 HKi
      by_cases c34 : s[i].toNat = 34
      · have hc : s[i] = 34 := u8_eq c34
        have HKe : Hid (K = some (acc, s.data.toList.drop (i + 1))) := Lib.hid (by rw [← HKc.out, hc]; simp [JP.textP, addTo])
        obtain ⟨t1, t2⟩ := touch_setCell (i := 1) (v := .int .i64 ((i : Int) + 1)) HP.out
        have T1 := Lib.hid t1
        have T2 := Lib.hid t2
        clear hc HKc hik t1 t2
        go_wp2_with fail
        go_quiet (fail)
        go_wp2_with fail
        go_quiet (fail)
        go_upto_region 8 with fail
        generalize hW : World.setCell (World.drewN wr _) _ _ = W
        have hRW : RdAt g s (i + 1) m vst 0 W := by rw [← hW]; exact RdAt.cast T1.out (by omega)
        have hBW : But g wr W := by rw [← hW]; exact (But.touch T2.out).drew _
        have hcv := run_convert_own W 228 9 5 Tryz.underlying228 Tryz.underlying5 Tryz.underlying9 (own_u8 (Hown.out.butLow flat_u8 hBW hgw))
        have HRW := Lib.hid hRW
        have HBW := Lib.hid hBW
        clear hW hRW hBW T1 T2 h0 h1 h4 hz
        go_wp2_with fail
        go_ret
        exact ⟨HB.out.trans HBW.out, .inl ⟨_, HKe.out, rfl, i + 1, by omega, rfl, HRW.out⟩⟩
      · have n34 : ((s[i].toNat : Int) == 34) = false := by rw [beq_eq_false_iff_ne]; omega
        have hc34 : s[i] ≠ 34 := fun e => c34 (by rw [e]; rfl)
        by_cases clo : s[i].toNat < 32 ∨ 126 < s[i].toNat
        · have hKn : K = none := by
            rw [← HKc.out, JP.textP_other _ hc34 (fun e => by rw [e] at clo; revert clo; decide), if_pos]
            · rfl
            · rcases clo with h | h
              · exact .inl (UInt8.lt_iff_toNat_lt.2 h)
              · exact .inr (UInt8.lt_iff_toNat_lt.2 h)
          have HKn := Lib.hid hKn
          have hile : i ≤ s.size := by omega
          clear hKn HKc hik hc34 c34
          rcases clo with hlo | hlo
          · have p1 : (s[i].toNat : Int) < 32 := by omega
            clear hlo
            go_wp2_with fail
            go_quiet (fail)
            go_wp2_with fail
            go_quiet (fail)
            go_wp2_with fail
            refine (fail_any g s i m vst 0 3 _ (HP.out.drew _)).mono ?_
            rintro E w1 ⟨rfl, hr, hbt⟩
            have Hr := Lib.hid hr
            have Hbt := Lib.hid ((HB.out.drew _).trans hbt)
            clear hr hbt
            go_wp2_with fail
            go_ret
            exact ⟨Hbt.out, .inr ⟨HKn.out, rfl, i, hile, Hr.out⟩⟩
          · have p1 : ¬ (s[i].toNat : Int) < 32 := by omega
            have p2 : (126 : Int) < (s[i].toNat : Int) := by omega
            clear hlo
            go_wp2_with fail
            go_quiet (fail)
            go_wp2_with fail
            go_quiet (fail)
            go_wp2_with fail
            refine (fail_any g s i m vst 0 3 _ (HP.out.drew _)).mono ?_
            rintro E w1 ⟨rfl, hr, hbt⟩
            have Hr := Lib.hid hr
            have Hbt := Lib.hid ((HB.out.drew _).trans hbt)
            clear hr hbt
            go_wp2_with fail
            go_ret
            exact ⟨Hbt.out, .inr ⟨HKn.out, rfl, i, hile, Hr.out⟩⟩
        · have p1 : ¬ (s[i].toNat : Int) < 32 := by omega
          have p2 : ¬ (126 : Int) < (s[i].toNat : Int) := by omega
          by_cases c92 : s[i].toNat = 92
          · have hc : s[i] = 92 := u8_eq c92
            have HKe : Hid (addTo acc (JP.textP (92 :: s.data.toList.drop (i + 1))) = K) := Lib.hid (by rw [← HKc.out, hc])
            obtain ⟨t1, t2⟩ := touch_setCell (i := 1) (v := .int .i64 ((i : Int) + 1)) HP.out
            have T1 := Lib.hid t1
            have T2 := Lib.hid t2
            have hi1 : i + 1 ≤ s.size := by omega
            clear hc HKc t1 t2 clo c34 hc34 n34
            go_wp2_with fail
            go_quiet (fail)
            go_wp2_with fail
            go_quiet (fail)
            go_upto_region 14 with fail
            generalize hW : World.setCell (World.drewN wr _) _ _ = W
            have hRW : RdAt g s (i + 1) m vst 0 W := by rw [← hW]; exact RdAt.cast T1.out (by omega)
            have hBW : But g wr W := by rw [← hW]; exact (But.touch T2.out).drew _
            have hoW := Hown.out.butLow flat_u8 hBW hgw
            have HRW := Lib.hid hRW
            have HBW := Lib.hid (HB.out.trans hBW)
            have HoW := Lib.hid hoW
            clear hW hRW hBW hoW T1 T2 h0 h1 h4 hz
            go_wp2_with fail
            refine (escape_any g s (i + 1) m vst W HRW.out hi1 hs).mono ?_
            rintro E w2 (⟨x, hx, rfl, hr, hbt⟩ | ⟨hx, rfl, hr, hbt⟩)
            · obtain ⟨d, t, hdt, htp⟩ := esc_some hx
              have hi2 : i + 1 < s.size := by
                rcases Nat.lt_or_ge (i + 1) s.size with h | h
                · exact h
                · rw [drop_end h] at hdt; cases hdt
              have hd2 : s.data.toList.drop (i + 2) = t := by
                rw [drop_at hi2] at hdt
                exact (List.cons.inj hdt).2
              have HK3 : Hid (addTo (acc ++ [x]) (JP.textP (s.data.toList.drop (i + 2))) = K) := Lib.hid (by rw [hd2, ← addTo_one, ← htp]; exact HKe.out)
              have h4 : w2.cell? ⟨g, 4, none⟩ = some (.int .i64 0) := cell_block hr 4
              have Hr := Lib.hid hr
              have Hbt := Lib.hid (HBW.out.trans hbt)
              have Ho2 := Lib.hid (HoW.out.butLow flat_u8 hbt (Nat.lt_of_lt_of_le hgw (Nat.le_refl _)))
              have hs2 := Hbt.out.size
              have hg2 : g < w2.heap.size := by omega
              clear hr hbt hx hdt htp hd2 HKe HoW
              go_wp2_with (at_builtin; refine wpList_append_ownAt (R := RU8) (k := 1) (e := 5) (B := w.heap.size) (l := acc) (m := [x]) _ (by rfl) _ _ _ (by rfl) i0 _ 1 Tryz.underlying228 hi0 hz0 hz1 hz2 rfl (by omega) flat_u8 one_u8 _ (by rfl) (Ho2.out.alloc stays_u8 _) (.slice (some ⟨w2.heap.size, 0, none⟩) 1 1) (by rfl) (row_u8 (l := [x]) (heap_alloc_new w2 _) (by unfold maxLen; simp)) (by unfold maxLen; simp; omega) (by simp; omega) (by simp; omega) ?_)
              intro v' w3 hv' hg3 hr3 _
              have hbW3 : Below w.heap.size w2 w3 := below_of_grown ((Below.refl _ w2).alloc hs2 _) (by simp; omega) hg3 hr3
              have h1 : w3.cell? ⟨g, 1, none⟩ = some (.int .i64 ((i + 1 : Nat) : Int)) := (hbW3.cell (p := ⟨g, 1, none⟩) hgw).trans (cell_block Hr.out 1)
              have hR3 : RdAt g s (i + 1) m vst 0 w3 := (hbW3.block g hgw).trans Hr.out
              have hz : w3.frozen? ⟨g, 1, none⟩ = false := free_block hR3 1
              obtain ⟨t1, t2⟩ := touch_setCell (i := 1) (v := .int .i64 (((i + 1 : Nat) : Int) + 1)) hR3
              have T1 := Lib.hid t1
              have T2 := Lib.hid t2
              have Hv := Lib.hid hv'
              have HB3 := Lib.hid (but_below Hbt.out hbW3)
              clear t1 t2 hv' hg3 hr3 hbW3 hR3 h4
              rw [show ((i + 1 : Nat) : Int) = (i : Int) + 1 by omega] at h1 T1 T2
              go_wp2_with fail
              cases k with
              | zero => omega
              | succ k =>
                go_roundg k
                case measure => omega
                case rel => exact ⟨i + 2, acc ++ [x], by omega, by simp; omega, Lib.hid (Hv.out.butLow flat_u8 (But.touch T2.out) hgw), HK3, Lib.hid (RdAt.cast T1.out (by omega)), Lib.hid (HB3.out.trans (But.touch T2.out))⟩
            · have HKn : Hid (K = none) := Lib.hid (by rw [← HKe.out, esc_none hx]; rfl)
              have h4 : w2.cell? ⟨g, 4, none⟩ = some (.int .i64 3) := cell_block hr 4
              have Hr := Lib.hid hr
              have Hbt := Lib.hid (HBW.out.trans hbt)
              clear hr hbt hx HKe HoW
              go_wp2_with fail
              go_ret
              exact ⟨Hbt.out, .inr ⟨HKn.out, rfl, i + 1, hi1, Hr.out⟩⟩
          · have n92 : ((s[i].toNat : Int) == 92) = false := by rw [beq_eq_false_iff_ne]; omega
            have hc92 : s[i] ≠ 92 := fun e => c92 (by rw [e]; rfl)
            have HK3 : Hid (addTo (acc ++ [s[i]]) (JP.textP (s.data.toList.drop (i + 1))) = K) := Lib.hid (by
              rw [← addTo_one, ← HKc.out, JP.textP_other _ hc34 hc92, if_neg]
              intro h
              rcases h with h | h
              · exact clo (.inl (UInt8.lt_iff_toNat_lt.1 h))
              · exact clo (.inr (UInt8.lt_iff_toNat_lt.1 h)))
            clear HKc clo c34 c92 hc34 hc92
            go_wp2_with fail
            go_quiet (fail)
            go_wp2_with fail
            go_quiet (fail)
            go_upto_region 17 with fail
            generalize hW : World.drewN wr _ = W
            have hRW : RdAt g s i m vst 0 W := by rw [← hW]; exact HP.out
            have hBW : But g wr W := by rw [← hW]; exact (But.refl _ _).drew _
            have HoW := Lib.hid (Hown.out.butLow flat_u8 hBW hgw)
            have HRW := Lib.hid hRW
            have HBW := Lib.hid (HB.out.trans hBW)
            have hsW := HBW.out.size
            have hgW : g < W.heap.size := by omega
            clear hW hRW hBW h0 h1 h4 hz
            go_wp2_with (at_builtin; refine wpList_append_ownAt (R := RU8) (k := 1) (e := 5) (B := w.heap.size) (l := acc) (m := [s[i]]) _ (by rfl) _ _ _ (by rfl) i0 _ 1 Tryz.underlying228 hi0 hz0 hz1 hz2 rfl (by omega) flat_u8 one_u8 _ (by rfl) (HoW.out.alloc stays_u8 _) (.slice (some ⟨W.heap.size, 0, none⟩) 1 1) (by rfl) (row_u8 (l := [s[i]]) (heap_alloc_new W _) (by unfold maxLen; simp)) (by unfold maxLen; simp; omega) (by simp; omega) (by simp; omega) ?_)
            intro v' w3 hv' hg3 hr3 _
            have hbW3 : Below w.heap.size W w3 := below_of_grown ((Below.refl _ W).alloc hsW _) (by simp; omega) hg3 hr3
            have h1 : w3.cell? ⟨g, 1, none⟩ = some (.int .i64 (i : Int)) := (hbW3.cell (p := ⟨g, 1, none⟩) hgw).trans (cell_block HRW.out 1)
            have hR3 : RdAt g s i m vst 0 w3 := (hbW3.block g hgw).trans HRW.out
            have hz : w3.frozen? ⟨g, 1, none⟩ = false := free_block hR3 1
            obtain ⟨t1, t2⟩ := touch_setCell (i := 1) (v := .int .i64 ((i : Int) + 1)) hR3
            have T1 := Lib.hid t1
            have T2 := Lib.hid t2
            have Hv := Lib.hid hv'
            have HB3 := Lib.hid (but_below HBW.out hbW3)
            clear t1 t2 hv' hg3 hr3 hbW3 hR3
            go_wp2_with fail
            go_roundg k
            case measure => omega
            case rel => exact ⟨i + 1, acc ++ [s[i]], by omega, by simp; omega, Lib.hid (Hv.out.butLow flat_u8 (But.touch T2.out) hgw), HK3, Lib.hid (RdAt.cast T1.out (by omega)), Lib.hid (HB3.out.trans (But.touch T2.out))⟩
end Go.Proofs.YtnnceaapodgfbaaGreatDoor
