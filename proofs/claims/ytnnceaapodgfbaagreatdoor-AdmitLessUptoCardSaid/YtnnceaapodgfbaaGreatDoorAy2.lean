/- Texts of ours joined. -/
import Derived.RangeFuncRecord
import Derived.RangeFuncSeq
import Derived.RangeFuncCalls
import Derived.RangeFuncOwn
import Derived.Lib.Replace
import Derived.Lib.CountLaws
import Derived.Lib.SplitLaws
import Derived.Lib.Split
import Derived.Lib.IndexBytes
import Derived.Lib.IndexLaws
import Derived.RangeFuncLeaves
import Derived.Shelf.Abstract
import Derived.Shelf.RegionOpen
import Derived.WalkKit
import Derived.OwnWalkIn
import Derived.TacticsInMore
import Derived.LoopNIn
import Derived.LoopIn
import Derived.IntWalk
import Derived.Test.YtnnceaapodgfbaaGreatDoorShelf
import Derived.Test.YtnnceaapodgfbaaGreatDoorChecked
import Derived.WalkSpells
import Derived.WalkLawsBesides
import Derived.Lib.Hide
import Derived.KernelRfl
import Derived.RangeFuncNested
import Derived.Lib.Join
import Derived.Lib.ItoaNum
import Derived.Lib.Atoi
import Derived.Deep.LoopGhost
import Derived.Deep.DeepCutAuto
import Derived.Deep.QuietTactic
import Derived.BigQuiet
import Derived.OwnWalk
import Derived.Test.YtnnceaapodgfbaaGreatDoorAy1
set_option linter.unusedVariables false
set_option linter.unusedSimpArgs false
namespace Go.Proofs.YtnnceaapodgfbaaGreatDoor
open Go.RowKit
def SeqEach {α : Type} (F : Fence) (n : Nat) (P : Program) (gf : Nat) (lb : Array Value) (enc : α → Value) (xs : List α) (bs b3 n0 : Nat) (w : World) : Prop :=
  ∀ (l : Nat) (J : List α → World → Prop) (W : World), (∀ k, k < n0 → W.heap[k]? = w.heap[k]?) → (∀ pre A B, J pre A → Touch bs A B → J pre B) →
    (∀ pre x W1, J pre W1 → pre.length < xs.length → YieldAt F (n - 1) P l #[enc x] W1 fun e W' => e = .returned (.bool true) ∧ J (pre ++ [x]) W' ∧ ∀ k, k < n0 → k ≠ b3 → W'.heap[k]? = W1.heap[k]?) →
    J [] W → CallsIn F n P gf (#[.func (.yield l) #[] #[]] ++ lb) W fun e W' => (∃ v, e = .returned v) ∧ J xs W'
def eachPost {α : Type} (I : List α → World → Prop) (xs : List α) (b3 : Nat) (W : World) : Exit → Act → World → Prop
  | .normal, _, W' => I xs W' ∧ W.heap.size ≤ W'.heap.size ∧ ∀ k, k < W.heap.size → k ≠ b3 → W'.heap[k]? = W.heap[k]?
  | _, _, _ => False
theorem below_putObj {B : Nat} (W : World) (l : Nat) (o : Obj) (h : B ≤ l) : Below B W (W.putObj l o) :=
  ⟨rfl, rfl, rfl, by simp, fun k hk => World.putObj_heap_other (by omega)⟩
theorem wpIn_range_each {α : Type} {F : Fence} {n : Nat} {P : Program} {g : Operand} {p : Tmp} {assign body : Code} {Q : Exit → Act → World → Prop} {a : Act} {w : World}
    (hro : F.round = none) (h1 : 1 ≤ n) {gf : Nat} {lb : Array Value} (hg : a.eval g = .func (.func gf) #[] lb) (hFg : F.fn gf) (eg : ∀ args w, (callFunc gf args).run P w = .ok (.enter gf args) w)
    {enc : α → Value} {xs : List α} {bs b3 : Nat} (hbs : bs < w.heap.size) (hb3 : b3 < w.heap.size) (hseq : SeqEach F (n - 1) P gf lb enc xs bs b3 w.heap.size w)
    (I : List α → World → Prop) (hI : ∀ pre A B, I pre A → Below w.heap.size A B → I pre B) (hIs : ∀ pre A B, I pre A → Touch bs A B → I pre B) (h0 : I [] w) (a₁ : α → Act)
    (hassign : ∀ (l : Nat) (x : α) (W : World) (K : Act → World → Prop), K (a₁ x) W →
      assign.wpIn (F.inRound l) (n - 1 - 1) P (Exit.then K (fun _ _ _ => False)) { tmps := a.tmps.setIfInBounds p (enc x), defers := [] } W)
    (hbody : ∀ (l : Nat) (pre : List α) (x : α) (W : World), I pre W → pre.length < xs.length → body.wpIn (F.inRound l) (n - 1 - 1) P (eachPost I (pre ++ [x]) b3 W) (a₁ x) W)
    (hdone : ∀ (D : Nat) (W : World), I xs W → W.heap[D]? = some (.deferred (some [])) → w.heap.size ≤ D → Q .normal { a with defers := { target := .collected D, args := #[] } :: a.defers } W) :
    (Code.rangeFunc g #[p] assign body).wpIn F n P Q a w := by
  refine wpIn_rangeFunc ?_
  intro fn hfn
  rw [hro]
  obtain ⟨rec, hrec⟩ : ∃ rec : LoopState → Loop, rec = fun st => { state := st, pending := none, fn, tmps := a.tmps, params := #[p], assign, body, defers := w.heap.size } := ⟨_, rfl⟩
  obtain ⟨W1, hW1⟩ : ∃ W1, (w.alloc (.deferred (some []))).alloc (.loop (rec .ready)) = W1 := ⟨_, rfl⟩
  have hL1 : W1.heap[w.heap.size + 1]? = some (.loop (rec .ready)) := by
    rw [← hW1]; have := World.alloc_heap_new (w.alloc (.deferred (some []))) (.loop (rec .ready)); rwa [World.size_alloc] at this
  have hK1 : W1.heap[w.heap.size]? = some (.deferred (some [])) := by
    rw [← hW1]; exact (Below.heap_alloc _ _ _ (by simp)).trans (World.alloc_heap_new w _)
  have hB1 : Below w.heap.size w W1 := by
    rw [← hW1]; exact ((Below.refl _ w).alloc (Nat.le_refl _) _).alloc (by simp) _
  refine ⟨w.heap.size + 1, [{ target := .collected w.heap.size, args := #[] }], W1, { target := .fn (.func gf) lb, args := #[.func (.yield (w.heap.size + 1)) #[] #[]] }, W1, gf,
    #[.func (.yield (w.heap.size + 1)) #[] #[]] ++ lb, W1, ?_, ?_, ?_, ?_, fun _ => h1, ?_⟩
  · rw [← hW1, hrec]; exact run_enterLoop_outer _ _ _ _ _
  · simp only [resolve, hg]
    simp [go_sem]
  · intro f' hf'; simp [Target.leads] at hf'; subst hf'; exact hFg
  · simp [invoke, go_sem, eg]
  · refine (hseq (w.heap.size + 1) (fun pre W => I pre W ∧ W.heap[w.heap.size + 1]? = some (.loop (rec .ready)) ∧ W.heap[w.heap.size]? = some (.deferred (some []))) W1
      (fun k hk => hB1.block k hk) (fun pre A B h ht => ⟨hIs pre A B h.1 ht, (ht.other _ (by omega)).trans h.2.1, (ht.other _ (by omega)).trans h.2.2⟩) ?_ ⟨hI _ _ _ h0 hB1, hL1, hK1⟩).mono ?_
    · rintro pre x W ⟨hi, hl, hk⟩ hlen
      have hlt : w.heap.size + 1 < W.heap.size := (Array.getElem?_eq_some_iff.1 hl).1
      have hy := run_yield (P := P) (args := #[enc x]) hl (by rw [hrec]; rfl)
      rw [hrec] at hy
      have hz : (Array.zip #[p] #[enc x]).foldl (fun (t : Array Value) (q : Tmp × Value) => t.setIfInBounds q.1 q.2) a.tmps = a.tmps.setIfInBounds p (enc x) := by simp
      simp only [] at hy
      rw [hz] at hy
      refine ⟨fn, _, assign, body, hy, roundIn_of_wpIn hfn ?_⟩
      refine hassign _ x W _ ?_
      refine ⟨_, run_beginRound hl (by rw [hrec]), ?_⟩
      obtain ⟨W2, hW2⟩ : ∃ W2, W.putObj (w.heap.size + 1) (.loop { rec .ready with state := .busy }) = W2 := ⟨_, rfl⟩
      have hl2 : W2.heap[w.heap.size + 1]? = some (.loop { rec .ready with state := .busy }) := by rw [← hW2]; exact World.putObj_heap_same hlt
      have hk2 : W2.heap[w.heap.size]? = some (.deferred (some [])) := by rw [← hW2]; exact (World.putObj_heap_other (by omega)).trans hk
      have hB2 : Below w.heap.size W W2 := by rw [← hW2]; exact below_putObj W _ _ (by omega)
      have hs2 : W2.heap.size = W.heap.size := by rw [← hW2]; simp
      rw [hW2]
      refine wpIn_mono (hbody _ pre x _ (hI _ _ _ hi hB2) hlen) ?_
      rintro e a3 W3 hp
      cases e with
      | normal =>
        obtain ⟨hi3, hs3, hk3⟩ := hp
        have hl3 : W3.heap[w.heap.size + 1]? = some (.loop { rec .ready with state := .busy }) := (hk3 _ (by omega) (by omega)).trans hl2
        have hd3 : W3.heap[w.heap.size]? = some (.deferred (some [])) := (hk3 _ (by omega) (by omega)).trans hk2
        have he := run_endRound (P := P) none hl3
        refine ⟨_, _, he, rfl, ⟨hI _ _ _ hi3 (below_putObj W3 _ _ (by omega)), ?_, (World.putObj_heap_other (by omega)).trans hd3⟩, fun k hk hne => ?_⟩
        · rw [World.putObj_heap_same (Array.getElem?_eq_some_iff.1 hl3).1, hrec]; rfl
        · rw [World.putObj_heap_other (by omega), hk3 k (by omega) hne]
          exact hB2.block k hk
      | ret => exact hp.elim
      | exit id => exact hp.elim
      | goto t => exact hp.elim
      | panic ch => exact hp.elim
      | outgrown => exact hp.elim
    · rintro e W2 ⟨⟨v, rfl⟩, hi, hl, hk⟩
      have he := run_endLoop (P := P) hl (by rw [hrec]; simp)
      rw [hrec] at he
      refine ⟨none, _, he, hdone _ _ (hI _ _ _ hi (below_putObj W2 _ _ (by omega))) ((World.putObj_heap_other (by omega)).trans hk) (Nat.le_refl _)⟩
end Go.Proofs.YtnnceaapodgfbaaGreatDoor
namespace Go.Proofs.YtnnceaapodgfbaaGreatDoor
open Go Go.Lib
theorem replaceAll_eq {old new : List UInt8} (hne : old ≠ new) (s : List UInt8) : replaceAll s old new = replaceK old new (count s old) s := by
  unfold replaceAll replace
  rw [if_neg (by simpa using hne)]
  unfold replaceNum
  rw [if_pos (.inl (by decide))]
theorem replaceAll_nil {old new : List UInt8} (h0 : old ≠ []) (hne : old ≠ new) : replaceAll [] old new = [] := by
  rw [replaceAll_eq hne]
  have h1 : index [] old = -1 := by
    unfold index
    rw [if_neg (by simpa using h0)]
  rw [count_miss h1]
  rfl
theorem replaceAll_hit {old new : List UInt8} (h0 : old ≠ []) (hne : old ≠ new) (t : List UInt8) : replaceAll (old ++ t) old new = new ++ replaceAll t old new := by
  rw [replaceAll_eq hne, replaceAll_eq hne]
  have h1 : index (old ++ t) old = (0 : Nat) := by
    obtain ⟨c, r, rfl⟩ : ∃ c r, old = c :: r := by cases old with | nil => exact absurd rfl h0 | cons c r => exact ⟨c, r, rfl⟩
    rw [List.cons_append, index, if_pos (by rw [List.isPrefixOf_iff_prefix, ← List.cons_append]; exact List.prefix_append _ _)]
    rfl
  rw [count_hit h0 h1, Nat.add_comm, replaceK_hit _ _ _ _ _ h1]
  simp
theorem replaceAll_miss {old new : List UInt8} (h0 : old ≠ []) (hne : old ≠ new) {x : UInt8} {s : List UInt8} (h : old.isPrefixOf (x :: s) = false) : replaceAll (x :: s) old new = x :: replaceAll s old new := by
  rw [replaceAll_eq hne, replaceAll_eq hne]
  have h1 : index (x :: s) old = if index s old == -1 then -1 else index s old + 1 := by
    rw [index, if_neg (by rw [h]; simp)]
  rcases index_spec s old with ⟨h2, _⟩ | ⟨i, h2, _, _⟩
  · rw [h2, if_pos (by decide)] at h1
    rw [count_miss h1, count_miss h2]
    rfl
  · rw [h2, if_neg (by rw [beq_iff_eq]; omega)] at h1
    have h3 : index (x :: s) old = ((i + 1 : Nat) : Int) := by rw [h1]; omega
    rw [count_hit h0 h3, count_hit h0 h2, show i + 1 + old.length = (i + old.length) + 1 by omega, List.drop_succ_cons, Nat.add_comm, replaceK_hit _ _ _ _ _ h3, replaceK_hit _ _ _ _ _ h2, show i + 1 + old.length = (i + old.length) + 1 by omega]
    simp
def rep2 (a b : UInt8) (new : List UInt8) : List UInt8 → List UInt8
  | [] => []
  | [x] => [x]
  | x :: y :: r => if x = a ∧ y = b then new ++ rep2 a b new r else x :: rep2 a b new (y :: r)
theorem replaceAll_two {a b : UInt8} {new : List UInt8} (hne : [a, b] ≠ new) : ∀ s : List UInt8, replaceAll s [a, b] new = rep2 a b new s
  | [] => replaceAll_nil (by simp) hne
  | [x] => by
    rw [replaceAll_miss (by simp) hne (by simp [List.isPrefixOf]), replaceAll_nil (by simp) hne]
    rfl
  | x :: y :: r => by
    rw [rep2]
    by_cases h : x = a ∧ y = b
    · obtain ⟨rfl, rfl⟩ := h
      rw [if_pos ⟨rfl, rfl⟩, ← replaceAll_two hne r]
      exact replaceAll_hit (old := [x, y]) (by simp) hne r
    · rw [if_neg h, ← replaceAll_two hne (y :: r)]
      refine replaceAll_miss (by simp) hne ?_
      rw [← Bool.not_eq_true, List.isPrefixOf_iff_prefix]
      rintro ⟨t, ht⟩
      simp only [List.cons_append, List.nil_append, List.cons.injEq] at ht
      exact h ⟨ht.1.symm, ht.2.1.symm⟩
end Go.Proofs.YtnnceaapodgfbaaGreatDoor
namespace Go.Proofs.YtnnceaapodgfbaaGreatDoor
open Go Go.Lib
def splitL (c : UInt8) : List UInt8 → List (List UInt8)
  | [] => [[]]
  | x :: r => if x = c then [] :: splitL c r else match splitL c r with
    | h :: t => (x :: h) :: t
    | [] => [[x]]
theorem splitK_scan (c : UInt8) : ∀ s : List UInt8, splitK [c] 0 (count s [c]) s = splitL c s
  | [] => by
    have h1 : index ([] : List UInt8) [c] = -1 := by unfold index; rfl
    rw [count_miss h1]; rfl
  | x :: r => by
    have ih := splitK_scan c r
    rw [splitL]
    by_cases h : x = c
    · subst h
      rw [if_pos rfl, ← ih, count_cons_eq, Nat.add_comm]
      have h1 : index (x :: r) [x] = 0 := by unfold index; simp
      rw [splitK, h1]
      simp
    · rw [if_neg h, count_cons_ne x c r h, ← ih]
      have h1 : index (x :: r) [c] = if index r [c] == -1 then -1 else index r [c] + 1 := by
        rw [index, if_neg (by simp [List.isPrefixOf, Ne.symm h])]
      rcases index_spec r [c] with ⟨h2, _⟩ | ⟨i, h2, _, _⟩
      · rw [count_miss h2]; rfl
      · rw [h2, if_neg (by rw [beq_iff_eq]; omega)] at h1
        rw [count_hit (by simp) h2, Nat.add_comm, splitK, splitK, h1, h2, if_neg (by rw [beq_iff_eq]; omega), if_neg (by rw [beq_iff_eq]; omega)]
        have e1 : ((i : Int) + 1).toNat = i + 1 := by omega
        have e2 : ((i : Int)).toNat = i := by omega
        rw [e1, e2]
        simp
theorem splitL_ne (c : UInt8) (s : List UInt8) : splitL c s ≠ [] := by
  cases s with
  | nil => simp [splitL]
  | cons x r =>
    rw [splitL]
    split
    · simp
    · split <;> simp
theorem splitL_join (c : UInt8) : ∀ s : List UInt8, (splitL c s).flatMap (fun p => c :: p) = c :: s
  | [] => rfl
  | x :: r => by
    have ih := splitL_join c r
    rw [splitL]
    by_cases h : x = c
    · rw [if_pos h, List.flatMap_cons, ih, h]; rfl
    · rw [if_neg h]
      cases hs : splitL c r with
      | nil => exact absurd hs (splitL_ne c r)
      | cons a t =>
        rw [hs, List.flatMap_cons] at ih
        simp only [List.cons_append, List.cons.injEq, true_and] at ih
        simp only [List.flatMap_cons, List.cons_append, ih]
theorem splitL_one (c : UInt8) : ∀ p : List UInt8, c ∉ p → splitL c p = [p]
  | [], _ => rfl
  | x :: r, h => by
    rw [splitL, if_neg (fun e => h (by rw [e]; exact List.mem_cons_self ..)), splitL_one c r fun hm => h (List.mem_cons_of_mem _ hm)]
theorem splitL_cut (c : UInt8) (s : List UInt8) : ∀ p : List UInt8, c ∉ p → splitL c (p ++ c :: s) = p :: splitL c s
  | [], _ => by rw [List.nil_append, splitL, if_pos rfl]
  | x :: r, h => by
    rw [List.cons_append, splitL, if_neg (fun e => h (by rw [e]; exact List.mem_cons_self ..)), splitL_cut c s r fun hm => h (List.mem_cons_of_mem _ hm)]
end Go.Proofs.YtnnceaapodgfbaaGreatDoor
namespace Go.Proofs.YtnnceaapodgfbaaGreatDoor
open Go.RowKit
attribute [local go_sem] Oper.semAt_some
theorem splitL_miss {c : UInt8} {l : List UInt8} (h : Lib.indexByte l c = -1) : splitL c l = [l] := by
  refine splitL_one c l fun hm => ?_
  obtain ⟨k, hk⟩ := List.getElem?_of_mem hm
  exact Lib.indexByte_none h k hk
def partsB (c : UInt8) (s : ByteArray) : List ByteArray := (splitL c s.data.toList).map fun l => ⟨l.toArray⟩
theorem partsB_miss {c : UInt8} {s : ByteArray} (h : Lib.indexByte s.data.toList c = -1) : partsB c s = [s] := by
  unfold partsB
  rw [splitL_miss h]
  simp
theorem partsB_hit {c : UInt8} {s : ByteArray} {i : Nat} (h : Lib.indexByte s.data.toList c = (i : Int)) : partsB c s = s.extract 0 i :: partsB c (s.extract (i + 1) s.size) := by
  obtain ⟨h1, h2⟩ := Lib.indexByte_some h
  have h3 : s.data.toList = s.data.toList.take i ++ c :: s.data.toList.drop (i + 1) := by
    obtain ⟨hl, he⟩ := List.getElem?_eq_some_iff.1 h1
    rw [← he, ← List.drop_eq_getElem_cons hl, List.take_append_drop]
  have h4 : c ∉ s.data.toList.take i := fun hm => by
    obtain ⟨k, hk⟩ := List.getElem?_of_mem hm
    have hki : k < i := by have := (List.getElem?_eq_some_iff.1 hk).1; simp at this; omega
    rw [List.getElem?_take_of_lt hki] at hk
    exact h2 k hki hk
  unfold partsB
  rw [h3, splitL_cut c _ _ h4, List.map_cons]
  congr 1
  · apply ByteArray.ext
    rw [ByteArray.data_extract]
    apply Array.toList_inj.1
    simp
  · congr 2
    rw [Lib.extract_to_end]
def leftS (b : Nat) (W : World) : Nat := match W.cell? ⟨b, 0, none⟩ with
  | some (.string r) => r.size + 1
  | _ => 0
set_option maxRecDepth 100000 in
set_option maxHeartbeats 2000000 in
theorem splitSeq_each (n : Nat) (hn : 1 ≤ n) (s : ByteArray) (c : UInt8) (bs bsep bsv b3 n0 : Nat) (w : World) (hbs : w.heap[bs]? = some (.cells #[.string s] 9 (0, 0))) (hsep : w.heap[bsep]? = some (.cells #[.string ⟨#[c]⟩] 9 (0, 0)))
    (hsv : w.heap[bsv]? = some (.cells #[.int .i64 0] 3 (0, 0))) (h1 : bs < n0 ∧ bs ≠ b3) (h2 : bsep < n0 ∧ bsep ≠ b3 ∧ bsep ≠ bs) (h3 : bsv < n0 ∧ bsv ≠ b3 ∧ bsv ≠ bs) (hs : s.size ≤ 8388608) :
    SeqEach Fence.wide n Tryz.prog 176 #[.pointer (some ⟨bsep, 0, none⟩), .pointer (some ⟨bs, 0, none⟩), .pointer (some ⟨bsv, 0, none⟩)] Value.string (partsB c s) bs b3 n0 w := by
  intro l J W hW hJt hY h0
  have wbs := cell_block ((hW bs h1.1).trans hbs)
  have wsep := cell_block ((hW bsep h2.1).trans hsep)
  have wsv := cell_block ((hW bsv h3.1).trans hsv)
  refine callsIn_of_wp Tryz.func176 rfl trivial ?_ rfl
  simp only [Tryz.ntmps176, List.size_toArray, List.length_cons, List.length_nil, Nat.reduceAdd, Nat.reduceSub, Array.replicate_succ, Array.replicate_zero, List.push_toArray, List.append_toArray, List.nil_append, List.cons_append]
  gi_wp2
  gi_loopw [7] (fun p wr => ∃ (pre : List ByteArray) (r : ByteArray), pre ++ partsB c r = partsB c s ∧ J pre wr ∧ wr.heap[bs]? = some (.cells #[.string r] 9 (0, 0)) ∧ wr.heap[bsep]? = some (.cells #[.string ⟨#[c]⟩] 9 (0, 0)) ∧ wr.heap[bsv]? = some (.cells #[.int .i64 0] 3 (0, 0)) ∧ r.size ≤ 8388608) (fun p wr => leftS bs wr)
  case atStart => exact ⟨[], s, rfl, h0, (hW bs h1.1).trans hbs, (hW bsep h2.1).trans hsep, (hW bsv h3.1).trans hsv, hs⟩
  case round =>
    clear wbs wsep wsv
    obtain ⟨pre, r, hpre, hJ, xbs, xsep, xsv, hr⟩ := hrel
    have wbs := cell_block xbs
    have wsep := cell_block xsep
    have wsv := cell_block xsv
    have hpl : (partsB c s).length = pre.length + (partsB c r).length := by rw [← hpre, List.length_append]
    by_cases hi : Lib.indexByte r.data.toList c = -1
    · have hp1 := partsB_miss hi
      have Hpre : Hid (pre ++ [r] = partsB c s) := Lib.hid (by rw [← hp1, hpre])
      have q0 : Lib.indexByte r.data.toList c < 0 := by omega
      obtain ⟨fn, tmps, assign, body, hy, hR⟩ := hY pre r wr hJ (by rw [hpl, hp1]; simp)
      have HR := Lib.hid hR
      clear hi hp1 hpl hpre hR
      gi_wp2_with (refine ⟨trivial, ?_⟩; gi_at_call 171; refine (callsIn_wide.2 (Tryz.strings_Index_one _ _ _)).mono ?_; rintro e w' ⟨rfl, rfl⟩)
      refine HR.out.mono ?_
      rintro e W' ⟨rfl, hJ', hk⟩
      gi_wp2
      go_end0
      exact ⟨⟨_, rfl⟩, by rw [← Hpre.out]; exact hJ'⟩
    · have hge := Lib.indexByte_ge r.data.toList c
      obtain ⟨i, hi2⟩ : ∃ i : Nat, Lib.indexByte r.data.toList c = (i : Int) := ⟨(Lib.indexByte r.data.toList c).toNat, by omega⟩
      have q0 : ¬ (i : Int) < 0 := by omega
      have hir : i < r.size := by
        have := (List.getElem?_eq_some_iff.1 (Lib.indexByte_some hi2).1).1
        simpa using this
      have q1 : (0 : Int) ≤ (i : Int) := by omega
      have q2 : (i : Int) ≤ (r.size : Int) := by omega
      have q3 : (i : Int) + 1 ≤ (r.size : Int) := by omega
      have q4 : (0 : Int) ≤ (i : Int) + 1 := by omega
      have Hi := Lib.hid hi2
      have hp1 : partsB c r = r.extract 0 i :: partsB c (r.extract (i + 1) r.size) := partsB_hit hi2
      have Hpre : Hid ((pre ++ [r.extract 0 i]) ++ partsB c (r.extract (i + 1) r.size) = partsB c s) := Lib.hid (by rw [← hpre, hp1, List.append_assoc]; rfl)
      obtain ⟨fn, tmps, assign, body, hy, hR⟩ := hY pre (r.extract 0 i) wr hJ (by rw [hpl, hp1]; simp)
      have HR := Lib.hid hR
      clear hi hge hi2 hp1 hpl hpre hR hY hJ
      gi_wp2_with (refine ⟨trivial, ?_⟩; gi_at_call 171; refine (callsIn_wide.2 (Tryz.strings_Index_one _ _ _)).mono ?_; rintro e w' ⟨rfl, rfl⟩; rw [Hi.out])
      refine HR.out.mono ?_
      rintro e W' ⟨rfl, hJ', hk⟩
      clear wbs wsep wsv hy
      have ybs := (hk bs h1.1 h1.2).trans xbs
      have ysep := (hk bsep h2.1 h2.2.1).trans xsep
      have ysv := (hk bsv h3.1 h3.2.1).trans xsv
      have wbs := cell_block ybs
      have fbs := free_block ybs
      have wsep := cell_block ysep
      have wsv := cell_block ysv
      gi_wp2
      go_roundw
      case rel =>
        have t := touch_setCell (i := 0) (v := .string (r.extract (i + 1) r.size)) ybs
        refine ⟨pre ++ [r.extract 0 i], r.extract (i + 1) r.size, Hpre.out, hJt _ _ _ hJ' t.2, t.1, (t.2.other _ h2.2.2).trans ysep, (t.2.other _ h3.2.2).trans ysv, ?_⟩
        rw [ByteArray.size_extract]; omega
      case measure =>
        have t := touch_setCell (i := 0) (v := .string (r.extract (i + 1) r.size)) ybs
        unfold leftS
        rw [cell_block t.1 0, cell_block xbs 0]
        show (r.extract (i + 1) r.size).size + 1 < r.size + 1
        rw [ByteArray.size_extract]; omega
end Go.Proofs.YtnnceaapodgfbaaGreatDoor
namespace Go.Proofs.YtnnceaapodgfbaaGreatDoor.NameP
def edge (c : Nat) : Bool := decide (97 ≤ c ∧ c ≤ 122) || decide (65 ≤ c ∧ c ≤ 90) || decide (48 ≤ c ∧ c ≤ 57)
def low (c : Nat) : Bool := edge c && (decide (c < 65) || decide (90 < c))
def dash (c : Nat) : Bool := c == 45
def wordIn (c : Nat) : Bool := c == 45 || c == 95 || c == 46
def made (e v : Nat → Bool) (l : List UInt8) : Bool :=
  match l with
  | [] => false
  | x :: r => e x.toNat && e ((x :: r).getLast (by simp)).toNat && (x :: r).all fun c => e c.toNat || v c.toNat
def isName (l : List UInt8) : Bool := made low dash l
def isWord (l : List UInt8) : Bool := made edge wordIn l
def judge (n most : Nat) (is : Bool) : Int := if most < n then 2 else if is then 0 else 6
def check (l : List UInt8) : Int := judge l.length 63 (isName l)
def checkVal (l : List UInt8) : Int := judge l.length 63 (l.isEmpty || isWord l)
end Go.Proofs.YtnnceaapodgfbaaGreatDoor.NameP
namespace Go.Proofs.YtnnceaapodgfbaaGreatDoor
open Go.RowKit
theorem byteRanges (c : Nat) : c < 48 ∨ (48 ≤ c ∧ c ≤ 57) ∨ (57 < c ∧ c < 65) ∨ (65 ≤ c ∧ c ≤ 90) ∨ (90 < c ∧ c < 97) ∨ (97 ≤ c ∧ c ≤ 122) ∨ 122 < c := by omega
set_option maxHeartbeats 800000 in
theorem isEdge_any (c : Nat) (w : World) (_h8 : c < 256) :
    Calls Tryz.prog 147 #[.int .u8 (c : Int)] w fun e w' => e = .returned (.bool (NameP.edge c)) ∧ w = w' := by
  rcases byteRanges c with h | ⟨h, h'⟩ | ⟨h, h'⟩ | ⟨h, h'⟩ | ⟨h, h'⟩ | ⟨h, h'⟩ | h
  all_goals
    go_enter Tryz.func147, Tryz.ntmps147
    go_wp2
    go_ret
    exact ⟨congrArg (fun b => Ending.returned (.bool b)) (by unfold NameP.edge; rw [Bool.eq_iff_iff]; simp; omega), rfl⟩
set_option maxHeartbeats 800000 in
theorem isLow_any (c : Nat) (w : World) (h8 : c < 256) :
    Calls Tryz.prog 145 #[.int .u8 (c : Int)] w fun e w' => e = .returned (.bool (NameP.low c)) ∧ w = w' := by
  cases he : NameP.edge c with
  | false =>
    have He := Lib.hid he; clear he
    go_enter Tryz.func145, Tryz.ntmps145
    go_wp2_with fail
    refine (isEdge_any c _ h8).mono ?_
    rintro e w' ⟨rfl, rfl⟩
    rw [He.out]
    go_wp2
    go_ret
    exact ⟨congrArg (fun b => Ending.returned (.bool b)) (by simp [NameP.low, He.out]), rfl⟩
  | true =>
    have He := Lib.hid he; clear he
    by_cases h1 : c < 65
    · go_enter Tryz.func145, Tryz.ntmps145
      go_wp2_with fail
      refine (isEdge_any c _ h8).mono ?_
      rintro e w' ⟨rfl, rfl⟩
      rw [He.out]
      go_wp2
      go_ret
      exact ⟨congrArg (fun b => Ending.returned (.bool b)) (by unfold NameP.low; rw [He.out, Bool.eq_iff_iff]; simp; omega), rfl⟩
    · by_cases h2 : 90 < c
      · go_enter Tryz.func145, Tryz.ntmps145
        go_wp2_with fail
        refine (isEdge_any c _ h8).mono ?_
        rintro e w' ⟨rfl, rfl⟩
        rw [He.out]
        go_wp2
        go_ret
        exact ⟨congrArg (fun b => Ending.returned (.bool b)) (by unfold NameP.low; rw [He.out, Bool.eq_iff_iff]; simp; omega), rfl⟩
      · go_enter Tryz.func145, Tryz.ntmps145
        go_wp2_with fail
        refine (isEdge_any c _ h8).mono ?_
        rintro e w' ⟨rfl, rfl⟩
        rw [He.out]
        go_wp2
        go_ret
        exact ⟨congrArg (fun b => Ending.returned (.bool b)) (by unfold NameP.low; rw [He.out, Bool.eq_iff_iff]; simp; omega), rfl⟩
theorem dash_any (c : Nat) (w : World) (_h8 : c < 256) :
    Calls Tryz.prog 146 #[.int .u8 (c : Int)] w fun e w' => e = .returned (.bool (NameP.dash c)) ∧ w = w' := by
  by_cases h : c = 45
  · subst h
    go_enter Tryz.func146, Tryz.ntmps146
    go_wp2
    go_ret
    exact ⟨rfl, rfl⟩
  · have hc : ((c : Int) == 45) = false := by rw [beq_eq_false_iff_ne]; omega
    have Hc := Lib.hid h; clear h
    go_enter Tryz.func146, Tryz.ntmps146
    go_wp2
    go_ret
    exact ⟨congrArg (fun b => Ending.returned (.bool b)) (by simp [NameP.dash]; exact Hc.out), rfl⟩
theorem wordIn_any (c : Nat) (w : World) (_h8 : c < 256) :
    Calls Tryz.prog 148 #[.int .u8 (c : Int)] w fun e w' => e = .returned (.bool (NameP.wordIn c)) ∧ w = w' := by
  by_cases h : c = 45
  · subst h
    go_enter Tryz.func148, Tryz.ntmps148
    go_wp2
    go_ret
    exact ⟨rfl, rfl⟩
  · have hc : ((c : Int) == 45) = false := by rw [beq_eq_false_iff_ne]; omega
    by_cases h2 : c = 95
    · subst h2
      go_enter Tryz.func148, Tryz.ntmps148
      go_wp2
      go_ret
      exact ⟨rfl, rfl⟩
    · have hc2 : ((c : Int) == 95) = false := by rw [beq_eq_false_iff_ne]; omega
      by_cases h3 : c = 46
      · subst h3
        go_enter Tryz.func148, Tryz.ntmps148
        go_wp2
        go_ret
        exact ⟨rfl, rfl⟩
      · have hc3 : ((c : Int) == 46) = false := by rw [beq_eq_false_iff_ne]; omega
        have Hc := Lib.hid (And.intro h (And.intro h2 h3)); clear h h2 h3
        go_enter Tryz.func148, Tryz.ntmps148
        go_wp2
        go_ret
        exact ⟨congrArg (fun b => Ending.returned (.bool b)) (by have := Hc.out; simp [NameP.wordIn]; exact ⟨⟨this.1, this.2.1⟩, this.2.2⟩), rfl⟩
end Go.Proofs.YtnnceaapodgfbaaGreatDoor
namespace Go.Proofs.YtnnceaapodgfbaaGreatDoor
open Go.RowKit
structure Tells (f : FuncId) (p : Nat → Bool) : Prop where
  enter : ∀ (a : Array Value) (w : World), (callFunc f a).run Tryz.prog w = .ok (.enter f a) w
  calls : ∀ (c : Nat) (w : World), c < 256 → Calls Tryz.prog f #[.int .u8 (c : Int)] w fun e w' => e = .returned (.bool (p c)) ∧ w = w'
theorem low_tells : Tells 145 NameP.low := ⟨run_callFunc_body Tryz.func145 (by kernel_rfl) (by kernel_rfl), fun c w h => isLow_any c w h⟩
theorem edge_tells : Tells 147 NameP.edge := ⟨run_callFunc_body Tryz.func147 (by kernel_rfl) (by kernel_rfl), fun c w h => isEdge_any c w h⟩
theorem dash_tells : Tells 146 NameP.dash := ⟨run_callFunc_body Tryz.func146 (by kernel_rfl) (by kernel_rfl), fun c w h => dash_any c w h⟩
theorem wordIn_tells : Tells 148 NameP.wordIn := ⟨run_callFunc_body Tryz.func148 (by kernel_rfl) (by kernel_rfl), fun c w h => wordIn_any c w h⟩
theorem made_nil {e v : Nat → Bool} {s : ByteArray} (h : s.toList = []) : NameP.made e v s.data.toList = false := by
  rw [ByteArray.toList_eq] at h; rw [h]; rfl
theorem made_cons {p q : Nat → Bool} (s : ByteArray) (h : 1 ≤ s.size) :
    NameP.made p q s.data.toList = (p s[0].toNat && p s[s.size - 1].toNat && s.data.toList.all fun c => p c.toNat || q c.toNat) := by
  have hl : s.data.toList.length = s.size := by simp
  have h0 : s.data.toList[0]? = some s[0] := by rw [List.getElem?_eq_getElem (by omega)]; rfl
  have h1 : s.data.toList.getLast? = some s[s.size - 1] := by
    rw [List.getLast?_eq_getElem?, hl, List.getElem?_eq_getElem (by omega)]; rfl
  cases hd : s.data.toList with
  | nil => rw [hd] at hl; simp at hl; omega
  | cons x r =>
    rw [hd] at h0 h1
    simp only [List.getElem?_cons_zero, Option.some.injEq] at h0
    rw [List.getLast?_eq_some_getLast (by simp)] at h1
    simp only [Option.some.injEq] at h1
    unfold NameP.made
    rw [← h0, ← h1]
theorem all_snocM {s : ByteArray} {k : Nat} {f : UInt8 → Bool} (h : k < s.size) (ha : Hid ((s.data.toList.take k).all f = true)) (hk : f s[k] = true) : Hid ((s.data.toList.take (k + 1)).all f = true) := by
  show _ = _
  rw [take_snoc s k h, List.all_append, ha.out]
  simp [hk]
theorem all_not {s : ByteArray} {k : Nat} {f : UInt8 → Bool} (h : k < s.size) (hk : f s[k] = false) : s.data.toList.all f = false := by
  rw [List.all_eq_false]
  refine ⟨s[k], ?_, by rw [hk]; simp⟩
  have : s[k] = s.data.toList[k]'(by simpa using h) := rfl
  rw [this]
  exact List.getElem_mem _
set_option maxRecDepth 100000 in
set_option maxHeartbeats 1600000 in
theorem made_any {ef vf : FuncId} {p q : Nat → Bool} (hp : Tells ef p) (hq : Tells vf q) (s : ByteArray) (w : World) (hs : s.size ≤ 1099511627776) :
    Calls Tryz.prog 144 #[.string s, .func (.func ef) #[] #[], .func (.func vf) #[] #[]] w fun e w' => e = .returned (.bool (NameP.made p q s.data.toList)) ∧ w = w' := by
  by_cases h0 : s.size = 0
  · have hl : s.toList = [] := by rw [ByteArray.toList_eq]; exact List.eq_nil_of_length_eq_zero (by simpa using h0)
    have Hm := Lib.hid (made_nil (e := p) (v := q) hl)
    have hle : s.toList.isEmpty = true := by rw [hl]; rfl
    clear h0
    go_enter Tryz.func144, Tryz.ntmps144
    go_wp2
    go_ret
    exact ⟨by rw [Hm.out]; rfl, rfl⟩
  · have h1 : 1 ≤ s.size := by omega
    have hne : (!s.toList.isEmpty) = true := by
      rw [ByteArray.toList_eq]
      have hl : s.data.toList.length = s.size := by simp
      cases hd : s.data.toList with | nil => rw [hd] at hl; simp at hl; omega | cons x r => rfl
    have hne2 : s.toList.isEmpty = false := by simpa using hne
    have HM := Lib.hid (made_cons (p := p) (q := q) s h1)
    clear h0
    have c0 : s[0].toNat < 256 := s[0].toNat_lt
    have cl : s[s.size - 1].toNat < 256 := s[s.size - 1].toNat_lt
    have i0 : (0 : Int) < (s.size : Int) := by omega
    have i1 : (0 : Int) ≤ (s.size : Int) - 1 := by omega
    have i2 : (s.size : Int) - 1 < (s.size : Int) := by omega
    have i3 : ((s.size : Int) - 1).toNat = s.size - 1 := by omega
    have ep := hp.enter
    have eq := hq.enter
    cases h2 : p s[0].toNat with
    | false =>
      have H2 := Lib.hid h2; clear h2
      go_enter Tryz.func144, Tryz.ntmps144
      go_wp2_with fail
      refine (hp.calls _ _ c0).mono ?_
      rintro e w' ⟨rfl, rfl⟩
      rw [H2.out]
      go_wp2_with fail
      go_ret
      exact ⟨congrArg (fun b => Ending.returned (.bool b)) (by rw [HM.out, H2.out]; rfl), rfl⟩
    | true =>
      have H2 := Lib.hid h2; clear h2
      cases h3 : p s[s.size - 1].toNat with
      | false =>
        have H3 := Lib.hid h3; clear h3
        go_enter Tryz.func144, Tryz.ntmps144
        go_wp2_with fail
        refine (hp.calls _ _ c0).mono ?_
        rintro e w' ⟨rfl, rfl⟩
        rw [H2.out]
        go_wp2_with fail
        refine (hp.calls _ _ cl).mono ?_
        rintro e w' ⟨rfl, rfl⟩
        rw [H3.out]
        go_wp2_with fail
        go_ret
        exact ⟨congrArg (fun b => Ending.returned (.bool b)) (by rw [HM.out, H2.out, H3.out]; rfl), rfl⟩
      | true =>
        have H3 := Lib.hid h3; clear h3
        go_enter Tryz.func144, Tryz.ntmps144
        go_wp2_with fail
        refine (hp.calls _ _ c0).mono ?_
        rintro e w' ⟨rfl, rfl⟩
        rw [H2.out]
        go_wp2_with fail
        refine (hp.calls _ _ cl).mono ?_
        rintro e w' ⟨rfl, rfl⟩
        rw [H3.out]
        go_wp2_with fail
        go_loop [29] (fun i => ∃ k : Nat, k ≤ s.size ∧ i = .int .i64 k ∧ Hid (((s.data.toList.take k).all fun c => p c.toNat || q c.toNat) = true)) (fun i => s.size - (intOf i).toNat)
        case atStart => exact ⟨0, Nat.zero_le _, rfl, by show _ = _; simp⟩
        case round =>
          obtain ⟨k, hk, rfl, HA⟩ := hrel
          by_cases hlt : k < s.size
          · have ck : s[k].toNat < 256 := s[k].toNat_lt
            have j0 : (0 : Int) ≤ (k : Int) := by omega
            have j1 : (k : Int) < (s.size : Int) := by omega
            cases h4 : p s[k].toNat with
            | true =>
              have H4 := Lib.hid h4; clear h4
              go_wp2_with fail
              refine (hp.calls _ _ ck).mono ?_
              rintro e w' ⟨rfl, rfl⟩
              rw [H4.out]
              go_wp2_with fail
              go_round
              case rel => exact ⟨k + 1, by omega, by go_num, all_snocM hlt HA (by rw [H4.out]; rfl)⟩
              case measure => simp [intOf]; omega
            | false =>
              have H4 := Lib.hid h4; clear h4
              cases h5 : q s[k].toNat with
              | true =>
                have H5 := Lib.hid h5; clear h5
                go_wp2_with fail
                refine (hp.calls _ _ ck).mono ?_
                rintro e w' ⟨rfl, rfl⟩
                rw [H4.out]
                go_wp2_with fail
                refine (hq.calls _ _ ck).mono ?_
                rintro e w' ⟨rfl, rfl⟩
                rw [H5.out]
                go_wp2_with fail
                go_round
                case rel => exact ⟨k + 1, by omega, by go_num, all_snocM hlt HA (by rw [H4.out, H5.out]; rfl)⟩
                case measure => simp [intOf]; omega
              | false =>
                have H5 := Lib.hid h5; clear h5
                go_wp2_with fail
                refine (hp.calls _ _ ck).mono ?_
                rintro e w' ⟨rfl, rfl⟩
                rw [H4.out]
                go_wp2_with fail
                refine (hq.calls _ _ ck).mono ?_
                rintro e w' ⟨rfl, rfl⟩
                rw [H5.out]
                go_wp2_with fail
                go_ret
                exact ⟨congrArg (fun b => Ending.returned (.bool b)) (by rw [HM.out, all_not hlt (by rw [H4.out, H5.out]; rfl)]; simp), rfl⟩
          · go_wp2_with fail
            go_ret
            refine ⟨congrArg (fun b => Ending.returned (.bool b)) ?_, rfl⟩
            have := HA.out
            rw [List.take_of_length_le (by simp; omega)] at this
            rw [HM.out, H2.out, H3.out, this]; rfl
set_option maxHeartbeats 800000 in
theorem judge_any (s : ByteArray) (most : Nat) (b : Bool) (w : World) (_hs : s.size ≤ 1099511627776) (_hm : most ≤ 1000) :
    Calls Tryz.prog 116 #[.string s, .int .i64 (most : Int), .bool b] w fun e w' => e = .returned (.int .i64 (NameP.judge s.size most b)) ∧ w = w' := by
  by_cases h : most < s.size
  · go_enter Tryz.func116, Tryz.ntmps116
    go_wp2
    go_ret
    exact ⟨congrArg (fun b => Ending.returned (.int .i64 b)) (by unfold NameP.judge; rw [if_pos h]), rfl⟩
  · cases b
    all_goals
      go_enter Tryz.func116, Tryz.ntmps116
      go_wp2
      go_ret
      exact ⟨congrArg (fun b => Ending.returned (.int .i64 b)) (by unfold NameP.judge; rw [if_neg h]; rfl), rfl⟩
theorem isName_any (s : ByteArray) (w : World) (hs : s.size ≤ 1099511627776) :
    Calls Tryz.prog 115 #[.string s] w fun e w' => e = .returned (.bool (NameP.isName s.data.toList)) ∧ w = w' := by
  go_enter Tryz.func115, Tryz.ntmps115
  go_wp2_with fail
  refine (made_any low_tells dash_tells s _ hs).mono ?_
  rintro e w' ⟨rfl, rfl⟩
  go_wp2_with fail
  go_ret
  exact ⟨rfl, rfl⟩
theorem check_any (s : ByteArray) (w : World) (hs : s.size ≤ 1099511627776) :
    Calls Tryz.prog 89 #[.string s] w fun e w' => e = .returned (.int .i64 (NameP.check s.data.toList)) ∧ w = w' := by
  go_enter Tryz.func89, Tryz.ntmps89
  go_wp2_with fail
  refine (isName_any s _ hs).mono ?_
  rintro e w' ⟨rfl, rfl⟩
  go_wp2_with fail
  refine (judge_any s 63 _ _ hs (by omega)).mono ?_
  rintro e w' ⟨rfl, rfl⟩
  go_wp2_with fail
  go_ret
  exact ⟨by simp [NameP.check], rfl⟩
theorem isWord_any (s : ByteArray) (w : World) (hs : s.size ≤ 1099511627776) :
    Calls Tryz.prog 117 #[.string s] w fun e w' => e = .returned (.bool (NameP.isWord s.data.toList)) ∧ w = w' := by
  go_enter Tryz.func117, Tryz.ntmps117
  go_wp2_with fail
  refine (made_any edge_tells wordIn_tells s _ hs).mono ?_
  rintro e w' ⟨rfl, rfl⟩
  go_wp2_with fail
  go_ret
  exact ⟨rfl, rfl⟩
end Go.Proofs.YtnnceaapodgfbaaGreatDoor
namespace Go.Proofs.YtnnceaapodgfbaaGreatDoor
open Go.RowKit
attribute [local go_sem] Oper.semAt_some
namespace NameP
def part (l : List UInt8) : Bool := decide (l.length ≤ 63) && isName l
def keyGood (l : List UInt8) : Bool :=
  if (Lib.cut l [47]).2.2 = true then (splitL 46 (Lib.cut l [47]).1).all part && (decide ((Lib.cut l [47]).2.1.length ≤ 63) && isWord (Lib.cut l [47]).2.1)
  else decide ((Lib.cut l [47]).1.length ≤ 63) && isWord (Lib.cut l [47]).1
def checkKey (l : List UInt8) : Int := judge l.length 64 (keyGood l)
end NameP
set_option maxRecDepth 100000 in
theorem splitSeq0_any (s : ByteArray) (c : UInt8) (w : World) :
    Calls Tryz.prog 143 #[.string s, .string ⟨#[c]⟩, .int .i64 0] w fun e w' => e = .returned (.func (.func 176) #[] #[.pointer (some ⟨w.heap.size + 1, 0, none⟩), .pointer (some ⟨w.heap.size, 0, none⟩), .pointer (some ⟨w.heap.size + 2, 0, none⟩)]) ∧
      w' = ((w.alloc (.cells #[.string s] 9)).alloc (.cells #[.string ⟨#[c]⟩] 9)).alloc (.cells #[.int .i64 0] 3) := by
  go_enter Tryz.func143, Tryz.ntmps143
  go_wp2_with fail
  go_ret
  exact ⟨by simp, rfl⟩
set_option maxRecDepth 100000 in
theorem splitSeq_any (s : ByteArray) (c : UInt8) (w : World) :
    Calls Tryz.prog 114 #[.string s, .string ⟨#[c]⟩] w fun e w' => e = .returned (.func (.func 176) #[] #[.pointer (some ⟨w.heap.size + 1, 0, none⟩), .pointer (some ⟨w.heap.size, 0, none⟩), .pointer (some ⟨w.heap.size + 2, 0, none⟩)]) ∧
      w' = ((w.alloc (.cells #[.string s] 9)).alloc (.cells #[.string ⟨#[c]⟩] 9)).alloc (.cells #[.int .i64 0] 3) := by
  go_enter Tryz.func114, Tryz.ntmps114
  go_wp2_with fail
  refine (splitSeq0_any _ _ _).mono ?_
  rintro E w' ⟨rfl, rfl⟩
  go_wp2_with fail
  go_ret
  exact ⟨rfl, rfl⟩
theorem all_snoc1 {α : Type} (f : α → Bool) (l : List α) (x : α) : (l ++ [x]).all f = (l.all f && f x) := by simp
theorem below_drewN (B : Nat) (w : World) (k : Nat) : Below B w (w.drewN k) := ⟨rfl, rfl, rfl, Nat.le_refl _, fun _ _ => rfl⟩
theorem cut_len (s : ByteArray) (l : List UInt8) (h : s.size ≤ 8388608) : (Lib.cut s.data.toList l).1.length ≤ 8388608 ∧ (Lib.cut s.data.toList l).2.1.length ≤ 8388608 := by
  have h1 : s.data.toList.length = s.size := by simp
  unfold Lib.cut
  split
  · refine ⟨?_, ?_⟩ <;> simp <;> omega
  · refine ⟨?_, ?_⟩ <;> simp <;> omega
def partB (x : ByteArray) : Bool := NameP.part x.data.toList
set_option maxRecDepth 100000 in
set_option maxHeartbeats 4000000 in
theorem checkKey_any (s : ByteArray) (m : Int) (w : World) (hs : s.size ≤ 8388608) (hm : MaxOK m w) :
    Calls Tryz.prog 87 #[.string s] w fun e w' => e = .returned (.int .i64 (NameP.checkKey s.data.toList)) ∧ Below w.heap.size w w' := by
  obtain ⟨R, HR⟩ : ∃ R, Hid (NameP.checkKey s.data.toList = R) := ⟨_, Lib.hid rfl⟩
  rw [HR.out]
  refine (callsIn_wide (n := 3)).1 ?_
  refine callsIn_of_wp_marks Tryz.func87 rfl trivial ?_ rfl
  simp only [Tryz.ntmps87, List.size_toArray, List.length_cons, List.length_nil, Nat.reduceAdd, Nat.reduceSub, Array.replicate_succ, Array.replicate_zero, List.push_toArray, List.append_toArray, List.nil_append, List.cons_append]
  gi_wp2_with fail
  refine ⟨trivial, ?_⟩
  gi_at_call 113
  obtain ⟨W0, hW0⟩ : ∃ W0, w.alloc (Obj.cells #[Value.bool true] 4) = W0 := ⟨_, rfl⟩
  have b0 : W0.heap[w.heap.size]? = some (.cells #[.bool true] 4 (0, 0)) := by rw [← hW0]; exact heap_alloc_at rfl
  have z0 : W0.heap.size = w.heap.size + 1 := by rw [← hW0]; exact World.size_alloc _ _
  have B0 : Below w.heap.size w W0 := by rw [← hW0]; exact (Below.refl _ w).alloc (Nat.le_refl _) _
  rw [hW0]
  refine (callsIn_wide.2 (Tryz.strings_Cut s ⟨#[47]⟩ m W0 (by omega) (hm.below B0))).mono ?_
  rintro E w1 ⟨rfl, nd, hw1⟩
  have b1 : w1.heap[w.heap.size]? = some (.cells #[.bool true] 4 (0, 0)) := by rw [hw1]; exact b0
  have z1 : w1.heap.size = w.heap.size + 1 := by rw [hw1]; exact z0
  have B1 := Lib.hid (B0.trans (below_drewN (w.heap.size) W0 nd))
  rw [← hw1] at B1
  clear hw1 b0 z0 B0 hW0
  have hcut : (Lib.cut s.data.toList [47]).1.length ≤ 8388608 ∧ (Lib.cut s.data.toList [47]).2.1.length ≤ 8388608 := cut_len s [47] (by omega)
  have hgood : ∀ b, b = NameP.keyGood s.data.toList → NameP.judge s.size 64 b = R := fun b hb => by
    rw [← HR.out, hb]
    show _ = NameP.judge s.data.toList.length 64 _
    congr 1
  have hco : (Lib.cut s.data.toList (⟨#[47]⟩ : ByteArray).data.toList) = Lib.cut s.data.toList [47] := rfl
  rw [hco]
  obtain ⟨ca, cb, ct, hc⟩ : ∃ ca cb ct, Lib.cut s.data.toList [47] = (ca, cb, ct) := ⟨_, _, _, rfl⟩
  unfold NameP.keyGood at hgood
  rw [hc] at hgood hcut
  rw [hc]
  obtain ⟨hca, hcb⟩ : ca.length ≤ 8388608 ∧ cb.length ≤ 8388608 := hcut
  clear hco hc
  obtain ⟨A, HA⟩ : ∃ A : ByteArray, Hid ((⟨ca.toArray⟩ : ByteArray) = A) := ⟨_, Lib.hid rfl⟩
  obtain ⟨B, HB⟩ : ∃ B : ByteArray, Hid ((⟨cb.toArray⟩ : ByteArray) = B) := ⟨_, Lib.hid rfl⟩
  have hA : A.data.toList = ca := by rw [← HA.out]
  have hB : B.data.toList = cb := by rw [← HB.out]
  have hAs : A.size ≤ 8388608 := by rw [← HA.out]; show ca.toArray.size ≤ _; simpa using hca
  have hBs : B.size ≤ 8388608 := by rw [← HB.out]; show cb.toArray.size ≤ _; simpa using hcb
  simp only [HA.out, HB.out]
  have c1 := cell_block b1 0
  cases ct with
  | false =>
    have hR1 : ∀ b, b = (decide (A.size ≤ 63) && NameP.isWord A.data.toList) → NameP.judge s.size 64 b = R := fun b hb => hgood b (by rw [hb, hA, if_neg (by simp), show A.size = ca.length by rw [← hA]; simp])
    have HR1 := Lib.hid hR1
    clear hR1 hgood HA HB hA hB
    by_cases h63 : A.size ≤ 63
    · have q0 : (A.size : Int) ≤ 63 := by omega
      have HR2 : Hid (NameP.judge s.size 64 (NameP.isWord A.data.toList) = R) := Lib.hid (HR1.out _ (by rw [decide_eq_true h63, Bool.true_and]))
      clear h63
      gi_wp2_with (refine ⟨trivial, ?_⟩; gi_at_call 117; refine (callsIn_wide.2 (isWord_any _ _ (by omega))).mono ?_; rintro e w' ⟨rfl, rfl⟩)
      refine ⟨trivial, ?_⟩
      gi_at_call 116
      refine (callsIn_wide.2 (judge_any s 64 _ _ (by omega) (by decide))).mono ?_
      rintro e w' ⟨rfl, rfl⟩
      gi_wp2
      exact ⟨_, results_tmp rfl _ _ _, by simpa using HR2.out, B1.out⟩
    · have q0 : ¬ (A.size : Int) ≤ 63 := by omega
      have HR2 : Hid (NameP.judge s.size 64 false = R) := Lib.hid (HR1.out _ (by rw [decide_eq_false h63, Bool.false_and]))
      clear h63
      gi_wp2_with fail
      refine ⟨trivial, ?_⟩
      gi_wp2_with fail
      refine ⟨trivial, ?_⟩
      gi_at_call 116
      refine (callsIn_wide.2 (judge_any s 64 _ _ (by omega) (by decide))).mono ?_
      rintro e w' ⟨rfl, rfl⟩
      gi_wp2
      exact ⟨_, results_tmp rfl _ _ _, by simpa using HR2.out, B1.out⟩
  | true =>
    have hR1 : ∀ b, b = ((partsB 46 A).all partB && (decide (B.size ≤ 63) && NameP.isWord B.data.toList)) → NameP.judge s.size 64 b = R := fun b hb => hgood b (by
      rw [hb, hB, if_pos rfl, show B.size = cb.length by rw [← hB]; simp]
      congr 1
      unfold partsB partB
      rw [List.all_map, hA]
      rfl)
    have HR1 := Lib.hid hR1
    clear hR1 hgood HA HB hA hB
    gi_wp2_with fail
    refine ⟨trivial, ?_⟩
    gi_at_call 114
    refine (callsIn_wide.2 (splitSeq_any A 46 w1)).mono ?_
    rintro e w2 ⟨rfl, hw2⟩
    have z2 : w2.heap.size = w.heap.size + 4 := by rw [hw2, World.size_alloc, World.size_alloc, World.size_alloc, z1]
    have b2 : w2.heap[w.heap.size]? = some (.cells #[.bool true] 4 (0, 0)) := by rw [hw2]; exact heap_alloc_old (heap_alloc_old (heap_alloc_old b1))
    have s2 : w2.heap[w.heap.size + 1]? = some (.cells #[.string A] 9 (0, 0)) := by rw [hw2]; exact heap_alloc_old (heap_alloc_old (heap_alloc_at z1.symm))
    have p2 : w2.heap[w.heap.size + 2]? = some (.cells #[.string ⟨#[46]⟩] 9 (0, 0)) := by rw [hw2]; exact heap_alloc_old (heap_alloc_at (by rw [World.size_alloc, z1]))
    have v2 : w2.heap[w.heap.size + 3]? = some (.cells #[.int .i64 0] 3 (0, 0)) := by rw [hw2]; exact heap_alloc_at (by rw [World.size_alloc, World.size_alloc, z1])
    have B2 : Below w.heap.size w w2 := by rw [hw2]; exact ((B1.out.alloc (by omega) _).alloc (by rw [World.size_alloc]; omega) _).alloc (by rw [World.size_alloc, World.size_alloc]; omega) _
    rw [z1]
    clear hw2
    gi_wp2_with fail
    refine wpIn_range_each (α := ByteArray) rfl (by omega) (gf := 176) (lb := #[.pointer (some ⟨w.heap.size + 2, 0, none⟩), .pointer (some ⟨w.heap.size + 1, 0, none⟩), .pointer (some ⟨w.heap.size + 3, 0, none⟩)]) rfl trivial (enters_of Tryz.func176 (by kernel_rfl) rfl)
      (enc := Value.string) (xs := partsB 46 A) (bs := w.heap.size + 1) (b3 := w.heap.size) (by omega) (by omega)
      (splitSeq_each _ (by omega) A 46 (w.heap.size + 1) (w.heap.size + 2) (w.heap.size + 3) w.heap.size w2.heap.size w2 s2 p2 v2 ⟨by omega, by omega⟩ ⟨by omega, by omega, by omega⟩ ⟨by omega, by omega, by omega⟩ hAs)
      (fun pre W => W.heap[w.heap.size]? = some (.cells #[.bool (pre.all partB)] 4 (0, 0)) ∧ Below w.heap.size w W)
      (fun pre X Y h hb => ⟨(hb.block _ (by omega)).trans h.1, h.2.trans (hb.mono (by omega))⟩)
      (fun pre X Y h ht => ⟨(ht.other _ (by omega)).trans h.1, ht.below h.2 (by omega)⟩)
      ⟨b2, B2⟩ (fun x => { tmps := #[Value.string s, undef, Value.int IntKind.i64 0, Value.pointer (some ⟨w.heap.size, 0, none⟩), Value.string A, Value.string B, Value.bool true, Value.string x, Value.tuple #[Value.string A, Value.string B, Value.bool true], Value.string s, Value.tuple #[Value.string A, Value.string B, Value.bool true], Value.string A, Value.string B, Value.bool true, Value.bool true, Value.bool false, undef, Value.string A, Value.func (Fn.func 176) #[] #[Value.pointer (some ⟨w.heap.size + 1 + 1, 0, none⟩), Value.pointer (some ⟨w.heap.size + 1, 0, none⟩), Value.pointer (some ⟨w.heap.size + 1 + 2, 0, none⟩)], Value.string x, undef, undef, undef, undef, undef, undef, undef, undef, undef, undef, undef, undef, undef, undef, undef, undef, undef, undef, undef, undef, undef, undef], defers := [] }) ?assign ?body ?done
    case assign =>
      intro l x W K hK
      gi_wp2
      exact hK
    case body =>
      rintro l pre x W ⟨hb, hB⟩ _
      obtain ⟨g, Hg⟩ : ∃ g, Hid (pre.all partB = g) := ⟨_, Lib.hid rfl⟩
      have Hb := Lib.hid hb
      rw [Hg.out] at hb
      have HBl := Lib.hid hB
      have c1 := cell_block hb 0
      have f1 := free_block hb 0
      have fin : ∀ (a : Act) (v : Bool), v = (pre ++ [x]).all partB → eachPost (fun pre W => W.heap[w.heap.size]? = some (.cells #[.bool (pre.all partB)] 4 (0, 0)) ∧ Below w.heap.size w W) (pre ++ [x]) w.heap.size W .normal a (W.setCell ⟨w.heap.size, 0, none⟩ (.bool v)) := fun _ v hv => by
        have t := touch_setCell (i := 0) (v := .bool v) Hb.out
        refine ⟨⟨?_, t.2.below HBl.out (Nat.le_refl _)⟩, by rw [t.2.size]; exact Nat.le_refl _, fun k hk hne => t.2.other k hne⟩
        rw [t.1, hv]; rfl
      have Hfin := Lib.hid fin
      clear hb fin hB
      cases g with
      | false =>
        have Hv : Hid (false = (pre ++ [x]).all partB) := Lib.hid (by rw [all_snoc1, Hg.out, Bool.false_and])
        gi_wp2_with (refine ⟨trivial, ?_⟩)
        exact Hfin.out _ _ Hv.out
      | true =>
        by_cases h63 : x.size ≤ 63
        · have q0 : (x.size : Int) ≤ 63 := by omega
          have Hv : Hid (NameP.isName x.data.toList = (pre ++ [x]).all partB) := Lib.hid (by
            rw [all_snoc1, Hg.out, Bool.true_and]
            unfold partB NameP.part
            rw [decide_eq_true (by simpa using h63), Bool.true_and])
          clear h63
          gi_wp2_with (refine ⟨trivial, ?_⟩; gi_at_call 115; refine (CallsIn.inRound l (callsIn_wide.2 (isName_any x _ (by omega)))).mono ?_; rintro e w' ⟨rfl, rfl⟩)
          exact Hfin.out _ _ Hv.out
        · have q0 : ¬ (x.size : Int) ≤ 63 := by omega
          have Hv : Hid (false = (pre ++ [x]).all partB) := Lib.hid (by
            rw [all_snoc1, Hg.out, Bool.true_and]
            unfold partB NameP.part
            rw [decide_eq_false (by simpa using h63), Bool.false_and])
          clear h63
          gi_wp2_with (refine ⟨trivial, ?_⟩)
          exact Hfin.out _ _ Hv.out
    case done =>
      rintro D W ⟨hb, hB⟩ hK hD
      obtain ⟨g, Hg⟩ : ∃ g, Hid ((partsB 46 A).all partB = g) := ⟨_, Lib.hid rfl⟩
      rw [Hg.out] at hb
      have HBl := Lib.hid hB
      have c1 : W.cell? ⟨w.heap.size, 0, none⟩ = some (.bool g) := cell_block hb 0
      clear hb hB
      cases g with
      | false =>
        have HR2 : Hid (NameP.judge s.size 64 false = R) := Lib.hid (HR1.out _ (by rw [Hg.out, Bool.false_and]))
        gi_wp2_with fail
        refine ⟨trivial, ?_⟩
        gi_wp2_with fail
        refine ⟨trivial, ?_⟩
        gi_at_call 116
        refine (callsIn_wide.2 (judge_any s 64 _ _ (by omega) (by decide))).mono ?_
        rintro e w' ⟨rfl, rfl⟩
        gi_wp2
        refine ⟨by simp, .inl ⟨_, _, rfl, run_takeDeferred hK, ?_⟩⟩
        exact ⟨_, results_tmp rfl _ _ _, by simpa using HR2.out, HBl.out.trans (below_putObj W _ _ (by omega))⟩
      | true =>
        by_cases h63 : B.size ≤ 63
        · have q0 : (B.size : Int) ≤ 63 := by omega
          have HR2 : Hid (NameP.judge s.size 64 (NameP.isWord B.data.toList) = R) := Lib.hid (HR1.out _ (by rw [Hg.out, decide_eq_true h63, Bool.true_and, Bool.true_and]))
          clear h63
          gi_wp2_with (refine ⟨trivial, ?_⟩; gi_at_call 117; refine (callsIn_wide.2 (isWord_any _ _ (by omega))).mono ?_; rintro e w' ⟨rfl, rfl⟩)
          refine ⟨trivial, ?_⟩
          gi_at_call 116
          refine (callsIn_wide.2 (judge_any s 64 _ _ (by omega) (by decide))).mono ?_
          rintro e w' ⟨rfl, rfl⟩
          gi_wp2
          refine ⟨by simp, .inl ⟨_, _, rfl, run_takeDeferred hK, ?_⟩⟩
          exact ⟨_, results_tmp rfl _ _ _, by simpa using HR2.out, HBl.out.trans (below_putObj W _ _ (by omega))⟩
        · have q0 : ¬ (B.size : Int) ≤ 63 := by omega
          have HR2 : Hid (NameP.judge s.size 64 false = R) := Lib.hid (HR1.out _ (by rw [Hg.out, decide_eq_false h63, Bool.true_and, Bool.false_and]))
          clear h63
          gi_wp2_with fail
          refine ⟨trivial, ?_⟩
          gi_wp2_with fail
          refine ⟨trivial, ?_⟩
          gi_at_call 116
          refine (callsIn_wide.2 (judge_any s 64 _ _ (by omega) (by decide))).mono ?_
          rintro e w' ⟨rfl, rfl⟩
          gi_wp2
          refine ⟨by simp, .inl ⟨_, _, rfl, run_takeDeferred hK, ?_⟩⟩
          exact ⟨_, results_tmp rfl _ _ _, by simpa using HR2.out, HBl.out.trans (below_putObj W _ _ (by omega))⟩
end Go.Proofs.YtnnceaapodgfbaaGreatDoor
namespace Go.Proofs.YtnnceaapodgfbaaGreatDoor
open Go.RowKit
theorem ret_i64 {a b : Int} (h : a = b) : Ending.returned (.int .i64 a) = .returned (.int .i64 b) := by rw [h]
set_option maxHeartbeats 800000 in
theorem checkVal_any (s : ByteArray) (w : World) (hs : s.size ≤ 1099511627776) :
    Calls Tryz.prog 88 #[.string s] w fun e w' => e = .returned (.int .i64 (NameP.checkVal s.data.toList)) ∧ w = w' := by
  by_cases h0 : s.size = 0
  · have hl : s.toList = [] := by rw [ByteArray.toList_eq]; exact List.eq_nil_of_length_eq_zero (by simpa using h0)
    have hle : s.toList.isEmpty = true := by rw [hl]; rfl
    have Hs : Hid (NameP.judge s.size 63 true = NameP.checkVal s.data.toList) := by
      show _ = _
      rw [ByteArray.toList_eq] at hl
      simp [NameP.checkVal, hl, h0]
    clear h0
    go_enter Tryz.func88, Tryz.ntmps88
    go_wp2_with fail
    refine (judge_any s 63 _ _ hs (by omega)).mono ?_
    rintro e w' ⟨rfl, rfl⟩
    go_wp2_with fail
    go_ret
    exact ⟨ret_i64 Hs.out, rfl⟩
  · have hl : s.data.toList.length = s.size := by simp
    have hne2 : s.toList.isEmpty = false := by
      rw [ByteArray.toList_eq]
      cases hd : s.data.toList with | nil => rw [hd] at hl; simp at hl; omega | cons x r => rfl
    have hne : (!s.toList.isEmpty) = true := by rw [hne2]; rfl
    have Hs : Hid (NameP.judge s.size 63 (NameP.isWord s.data.toList) = NameP.checkVal s.data.toList) := by
      show _ = _
      rw [ByteArray.toList_eq] at hne2
      unfold NameP.checkVal
      rw [hl, hne2]; rfl
    clear h0 hl
    go_enter Tryz.func88, Tryz.ntmps88
    go_wp2_with fail
    refine (isWord_any s _ hs).mono ?_
    rintro e w' ⟨rfl, rfl⟩
    go_wp2_with fail
    refine (judge_any s 63 _ _ hs (by omega)).mono ?_
    rintro e w' ⟨rfl, rfl⟩
    go_wp2_with fail
    go_ret
    exact ⟨ret_i64 Hs.out, rfl⟩
end Go.Proofs.YtnnceaapodgfbaaGreatDoor
namespace Go.Proofs.YtnnceaapodgfbaaGreatDoor
open Go.RowKit Go.ChangeShapes Go.WideShapes
structure GReq where
  key : ByteArray
  kind : Int
  vals : List ByteArray
end Go.Proofs.YtnnceaapodgfbaaGreatDoor
namespace Go.Proofs.YtnnceaapodgfbaaGreatDoor
open Go.RowKit
theorem bl_total : ∀ x y : List UInt8, Op.bytesLess x y = false → Op.bytesLess y x = false → x = y
  | [], [], _, _ => rfl
  | [], _ :: _, h, _ => by simp [Op.bytesLess] at h
  | _ :: _, [], _, h => by simp [Op.bytesLess] at h
  | a :: x, b :: y, h1, h2 => by
    unfold Op.bytesLess at h1 h2
    simp only [Bool.or_eq_false_iff, Bool.and_eq_false_iff, decide_eq_false_iff_not, UInt8.not_lt] at h1 h2
    have hab : a = b := UInt8.le_antisymm h2.1 h1.1
    subst hab
    rw [bl_total x y (by simpa using h1.2) (by simpa using h2.2)]
theorem bl_trans : ∀ x y z : List UInt8, Op.bytesLess x y = true → Op.bytesLess y z = true → Op.bytesLess x z = true
  | _, [], _, h, _ => by simp [Op.bytesLess] at h
  | _, _ :: _, [], _, h => by simp [Op.bytesLess] at h
  | [], _ :: _, _ :: _, _, _ => rfl
  | a :: x, b :: y, c :: z, h1, h2 => by
    unfold Op.bytesLess at h1 h2 ⊢
    simp only [Bool.or_eq_true, Bool.and_eq_true, decide_eq_true_eq, beq_iff_eq] at h1 h2 ⊢
    rcases h1 with h1 | ⟨rfl, h1⟩
    · rcases h2 with h2 | ⟨rfl, h2⟩
      · exact .inl (UInt8.lt_trans h1 h2)
      · exact .inl h1
    · rcases h2 with h2 | ⟨rfl, h2⟩
      · exact .inl h2
      · exact .inr ⟨rfl, bl_trans x y z h1 h2⟩
def lessB (a b : ByteArray) : Bool := Op.bytesLess a.toList b.toList
theorem toList_inj {a b : ByteArray} (h : a.toList = b.toList) : a = b := by
  rw [ByteArray.toList_eq, ByteArray.toList_eq] at h
  cases a; cases b
  simp only [ByteArray.mk.injEq]
  exact Array.toList_inj.1 h
theorem lessB_total {a b : ByteArray} (h : lessB a b = false) (k : lessB b a = false) : a = b := toList_inj (bl_total _ _ h k)
theorem lessB_trans {a b c : ByteArray} (h : lessB a b = true) (k : lessB b c = true) : lessB a c = true := bl_trans _ _ _ h k
def cmpB (a b : ByteArray) : Int := if lessB a b = true then -1 else if (a.toList == b.toList) = true then 0 else 1
end Go.Proofs.YtnnceaapodgfbaaGreatDoor
namespace Go.Proofs.YtnnceaapodgfbaaGreatDoor
open Go.RowKit
def errF {α : Type} (f : α → Int) (l : List α) : Int := match l.find? (fun x => f x != 0) with
  | none => 0
  | some x => f x
theorem errF_none {α : Type} {f : α → Int} {l : List α} (h : ∀ x ∈ l, f x = 0) : errF f l = 0 := by
  unfold errF
  rw [List.find?_eq_none.2 fun x hx => by rw [h x hx]; simp]
theorem errF_at {α : Type} {f : α → Int} {l : List α} {i : Nat} {x : α} (hx : l[i]? = some x) (h : ∀ y ∈ l.take i, f y = 0) (hf : f x ≠ 0) : errF f l = f x := by
  have hi := (List.getElem?_eq_some_iff.1 hx).1
  have he := (List.getElem?_eq_some_iff.1 hx).2
  have h1 : l = l.take i ++ x :: l.drop (i + 1) := by rw [← he, ← List.drop_eq_getElem_cons hi, List.take_append_drop]
  have h2 : l.find? (fun x => f x != 0) = some x := by
    rw [h1, List.find?_append, List.find?_eq_none.2 (fun y hy => by rw [h y hy]; simp)]
    simp [hf]
  unfold errF
  rw [h2]
theorem errF_zero {α : Type} {f : α → Int} {l : List α} : errF f l = 0 ↔ ∀ x ∈ l, f x = 0 := by
  constructor
  · intro h x hx
    unfold errF at h
    cases hf : l.find? (fun x => f x != 0) with
    | none => have := List.find?_eq_none.1 hf x hx; simpa using this
    | some y =>
      rw [hf] at h
      have := List.find?_some hf
      simp at this
      exact absurd h this
  · exact errF_none
def keyE (s : ByteArray) : Int := NameP.checkKey s.data.toList
def valE (s : ByteArray) : Int := NameP.checkVal s.data.toList
def labZ (l : List GLabel) : List (Option ByteArray × GLabel) := (none :: l.map (some ·.key)).zip l
def prevE (p : Option ByteArray) (key : ByteArray) : Int := match p with
  | none => 0
  | some k => if lessB k key = true then 0 else 1
def labE (x : Option ByteArray × GLabel) : Int :=
  if keyE x.2.key ≠ 0 then keyE x.2.key else if valE x.2.val ≠ 0 then valE x.2.val else prevE x.1 x.2.key
def labelsE (l : List GLabel) : Int := if 10 < l.length then 2 else errF labE (labZ l)
end Go.Proofs.YtnnceaapodgfbaaGreatDoor
namespace Go.Proofs.YtnnceaapodgfbaaGreatDoor
open Go
namespace JP
abbrev Bs := List UInt8
inductive JV where
  | nul
  | bool (b : Bool)
  | num (n : Int)
  | str (s : Bs)
  | list (l : List JV)
  | obj (l : List (Bs × JV))
theorem JV.both {P : JV → Prop} {PL : List JV → Prop} {PF : List (Bs × JV) → Prop}
    (h0 : P .nul) (h1 : ∀ b, P (.bool b)) (h2 : ∀ n, P (.num n)) (h3 : ∀ s, P (.str s)) (h4 : ∀ l, PL l → P (.list l)) (h5 : ∀ l, PF l → P (.obj l))
    (h6 : PL []) (h7 : ∀ v r, P v → PL r → PL (v :: r)) (h8 : PF []) (h9 : ∀ n v r, P v → PF r → PF ((n, v) :: r)) : (∀ v, P v) ∧ (∀ l, PL l) ∧ ∀ l, PF l := by
  have a : ∀ v, P v := fun v => JV.rec (motive_1 := P) (motive_2 := PL) (motive_3 := PF) (motive_4 := fun x => P x.2) h0 h1 h2 h3 h4 h5 h6 (fun v r a b => h7 v r a b) h8 (fun x r a b => h9 x.1 x.2 r a b) (fun _ _ h => h) v
  refine ⟨a, fun l => ?_, fun l => ?_⟩
  · induction l with
    | nil => exact h6
    | cons v r ih => exact h7 v r (a v) ih
  · induction l with
    | nil => exact h8
    | cons x r ih => exact h9 x.1 x.2 r (a x.2) ih
def escB (c : UInt8) : Bs := if c = 34 ∨ c = 92 then [92, c] else if c = 10 then [92, 110] else if c = 9 then [92, 116] else [c]
def quote (s : Bs) : Bs := 34 :: (s.flatMap escB ++ [34])
mutual
def text : JV → Bs
  | .nul => [110, 117, 108, 108]
  | .bool b => if b = true then [116, 114, 117, 101] else [102, 97, 108, 115, 101]
  | .num n => Lib.itoa n
  | .str s => quote s
  | .list l => 91 :: (Lib.join (textL l) [44] ++ [93])
  | .obj l => 123 :: (Lib.join (textF l) [44] ++ [125])
termination_by structural x => x
def textL : List JV → List Bs
  | [] => []
  | v :: r => text v :: textL r
termination_by structural x => x
def textF : List (Bs × JV) → List Bs
  | [] => []
  | (n, v) :: r => (quote n ++ 58 :: text v) :: textF r
termination_by structural x => x
end
mutual
def size : JV → Nat
  | .list l => 1 + sizeL l
  | .obj l => 1 + sizeF l
  | .nul => 1
  | .bool _ => 1
  | .num _ => 1
  | .str _ => 1
termination_by structural x => x
def sizeL : List JV → Nat
  | [] => 0
  | v :: r => size v + sizeL r
termination_by structural x => x
def sizeF : List (Bs × JV) → Nat
  | [] => 0
  | (_, v) :: r => size v + sizeF r
termination_by structural x => x
end
mutual
def deep : JV → Nat
  | .list l => deepL l + 1
  | .obj l => deepF l + 1
  | .nul => 0
  | .bool _ => 0
  | .num _ => 0
  | .str _ => 0
termination_by structural x => x
def deepL : List JV → Nat
  | [] => 0
  | v :: r => max (deep v) (deepL r)
termination_by structural x => x
def deepF : List (Bs × JV) → Nat
  | [] => 0
  | (_, v) :: r => max (deep v) (deepF r)
termination_by structural x => x
end
def kind : JV → Int
  | .nul => 1
  | .bool _ => 2
  | .num _ => 3
  | .str _ => 4
  | .list _ => 5
  | .obj _ => 6
def stand (c : UInt8) : Bool := (decide (32 ≤ c) && decide (c ≤ 126)) || c == 10 || c == 9
def put (n : Bs) (v : JV) : List (Bs × JV) → List (Bs × JV)
  | [] => [(n, v)]
  | (m, x) :: r => if m < n then (m, x) :: put n v r else if m = n then (n, v) :: r else (n, v) :: (m, x) :: r
def get (n : Bs) : List (Bs × JV) → Option JV
  | [] => none
  | (m, x) :: r => if m = n then some x else get n r
def cut (n : Bs) (l : List (Bs × JV)) : List (Bs × JV) := l.filter fun x => x.1 != n
def Srt (l : List (Bs × JV)) : Prop := l.Pairwise fun a b => a.1 < b.1
def numOK (n : Int) : Prop := -1000000000000000000 < n ∧ n < 1000000000000000000
mutual
def wf : JV → Prop
  | .nul => True
  | .bool _ => True
  | .num n => numOK n
  | .str s => s.all stand = true
  | .list l => wfL l
  | .obj l => Srt l ∧ wfF l
termination_by structural x => x
def wfL : List JV → Prop
  | [] => True
  | v :: r => wf v ∧ wfL r
termination_by structural x => x
def wfF : List (Bs × JV) → Prop
  | [] => True
  | (n, v) :: r => n.all stand = true ∧ wf v ∧ wfF r
termination_by structural x => x
end
inductive Fr where
  | lst (d : List JV)
  | ob (d : List (Bs × JV)) (n : Bs)
inductive R where
  | bad (e : Int)
  | whole (v : JV) (r : Bs) (m : Nat) (st : List Fr)
  | more (r : Bs) (m : Nat) (st : List Fr)
def blank (c : UInt8) : Bool := c == 32 || c == 9 || c == 10
def skip (r : Bs) : Bs := r.dropWhile blank
def digit (c : UInt8) : Bool := decide (48 ≤ c) && decide (c ≤ 57)
def escV (c : UInt8) : Option UInt8 := if c = 34 ∨ c = 92 then some c else if c = 110 then some 10 else if c = 116 then some 9 else none
def textP : Bs → Option (Bs × Bs)
  | [] => none
  | 34 :: r => some ([], r)
  | 92 :: [] => none
  | 92 :: d :: r => match escV d with
    | none => none
    | some c => (textP r).map fun x => (c :: x.1, x.2)
  | c :: r => if c < 32 ∨ 126 < c then none else (textP r).map fun x => (c :: x.1, x.2)
def sgn (r : Bs) : Bs := match r with
  | 45 :: t => t
  | _ => r
def negB (r : Bs) : Bool := match r with
  | 45 :: _ => true
  | _ => false
def digs (r : Bs) : Bs := (sgn r).takeWhile digit
def decV (ds : Bs) : Nat := (Lib.decFrom 0 ds).getD 0
def numV (r : Bs) : Int := if negB r = true then -(decV (digs r) : Int) else (decV (digs r) : Int)
def numR (r : Bs) : Bs := (sgn r).dropWhile digit
def numE (r : Bs) : Int := match digs r with
  | [] => 3
  | c :: t => if c = 48 ∧ (t ≠ [] ∨ negB r = true) then 3 else if 18 < (c :: t).length then 2 else 0
def wordP (v : JV) (p : Bs) (r : Bs) (m : Nat) (st : List Fr) : R := if p.isPrefixOf r = true then .whole v (r.drop p.length) m st else .bad 3
def plainP (c : UInt8) (r : Bs) (m : Nat) (st : List Fr) : R :=
  if c = 34 then match textP r.tail with
    | none => .bad 3
    | some x => .whole (.str x.1) x.2 m st
  else if c = 116 then wordP (.bool true) [116, 114, 117, 101] r m st
  else if c = 102 then wordP (.bool false) [102, 97, 108, 115, 101] r m st
  else if c = 110 then wordP .nul [110, 117, 108, 108] r m st
  else if numE r = 0 then .whole (.num (numV r)) (numR r) m st else .bad (numE r)
def fieldN (r : Bs) (m : Nat) (d : List (Bs × JV)) (st : List Fr) (n t : Bs) : R :=
  if (get n d).isSome = true then .bad 5 else match skip t with
    | [] => .bad 3
    | c :: t' => if c = 58 then .more t' m (.ob d n :: st) else .bad 3
def fieldP (r : Bs) (m : Nat) (d : List (Bs × JV)) (st : List Fr) : R := match skip r with
  | [] => .bad 3
  | c :: t => if c = 34 then match textP t with
      | none => .bad 3
      | some x => fieldN r m d st x.1 x.2
    else .bad 3
def starts (c : UInt8) : Bool := c == 91 || c == 123 || c == 34 || c == 45 || c == 116 || c == 102 || c == 110 || digit c
def beginC (c : UInt8) (t : Bs) (m : Nat) (st : List Fr) : R :=
  if starts c = false then .bad 3
  else if 200 < m + 1 then .bad 2
  else if (c = 91 ∨ c = 123) ∧ st.length = 10 then .bad 4
  else if c = 91 then if (skip t).head? = some 93 then .whole (.list []) (skip t).tail (m + 1) st else .more (skip t) (m + 1) (.lst [] :: st)
  else if c = 123 then if (skip t).head? = some 125 then .whole (.obj []) (skip t).tail (m + 1) st else fieldP (skip t) (m + 1) [] st
  else plainP c (c :: t) (m + 1) st
def beginP (r : Bs) (m : Nat) (st : List Fr) : R := match skip r with
  | [] => .bad 3
  | c :: t => beginC c t m st
def goesP (v : JV) (r : Bs) (m : Nat) (f : Fr) (st : List Fr) : R := match f with
  | .lst d => match skip r with
    | [] => .bad 3
    | c :: t => if c = 93 then .whole (.list (d ++ [v])) t m st else if c = 44 then .more t m (.lst (d ++ [v]) :: st) else .bad 3
  | .ob d n => match skip r with
    | [] => .bad 3
    | c :: t => if c = 125 then .whole (.obj (put n v d)) t m st else if c = 44 then fieldP t m (put n v d) st else .bad 3
def mu : R → Nat
  | .bad _ => 0
  | .more r _ _ => 2 * r.length + 1
  | .whole _ r _ _ => 2 * r.length + 2
theorem skip_le (r : Bs) : (skip r).length ≤ r.length := (List.dropWhile_sublist _).length_le
theorem skip_cons {r t : Bs} {c : UInt8} (h : skip r = c :: t) : t.length + 1 ≤ r.length := by have := skip_le r; rw [h] at this; simpa using this
theorem textP_len : ∀ (r : Bs) (x : Bs × Bs), textP r = some x → x.2.length + 1 ≤ r.length := by
  intro r
  induction r using textP.induct with
  | case1 => intro x h; simp [textP] at h
  | case2 r => intro x h; simp only [textP, Option.some.injEq] at h; subst h; simp
  | case3 => intro x h; simp [textP] at h
  | case4 d r hd => intro x h; simp [textP, hd] at h
  | case5 d r c hd ih =>
    intro x h
    simp only [textP, hd] at h
    obtain ⟨y, hy, rfl⟩ := Option.map_eq_some_iff.1 h
    have := ih y hy
    simp only [List.length_cons]
    omega
  | case6 c r h1 h2 h3 h4 => intro x h; rw [textP] at h <;> simp_all
  | case7 c r h1 h2 h3 h4 ih =>
    intro x h
    rw [textP] at h
    · rw [if_neg h4] at h
      obtain ⟨y, hy, rfl⟩ := Option.map_eq_some_iff.1 h
      have := ih y hy
      simp only [List.length_cons]
      omega
    all_goals simp_all
theorem field_mu (r : Bs) (m : Nat) (d : List (Bs × JV)) (st : List Fr) : mu (fieldP r m d st) < 2 * r.length + 1 := by
  unfold fieldP
  split
  · simp [mu]
  · rename_i c t h
    have h1 := skip_cons h
    split
    · split
      · simp [mu]
      · rename_i x hx
        have h2 := textP_len _ _ hx
        unfold fieldN
        split
        · simp [mu]
        · split
          · simp [mu]
          · rename_i c' t' h'
            have h3 := skip_cons h'
            split
            · simp only [mu]; omega
            · simp [mu]
    · simp [mu]
theorem sgn_le (r : Bs) : (sgn r).length ≤ r.length := by unfold sgn; split <;> simp
theorem numR_lt {r : Bs} (h : numE r = 0) : (numR r).length + 1 ≤ r.length := by
  have h1 := sgn_le r
  have h2 : (digs r).length + (numR r).length = (sgn r).length := by
    unfold digs numR
    rw [← List.length_append, List.takeWhile_append_dropWhile]
  unfold numE at h
  split at h
  · cases h
  · rename_i c t hd
    rw [hd] at h2
    simp at h2
    omega
theorem word_mu {v : JV} {p r : Bs} {m : Nat} {st : List Fr} (hp : 0 < p.length) : mu (wordP v p r m st) < 2 * r.length + 1 := by
  unfold wordP
  split
  · rename_i h
    have := (List.isPrefixOf_iff_prefix.1 h).length_le
    simp only [mu, List.length_drop]
    omega
  · simp [mu]
theorem plain_mu (c : UInt8) (t : Bs) (m : Nat) (st : List Fr) : mu (plainP c (c :: t) m st) < 2 * (t.length + 1) + 1 := by
  unfold plainP
  split
  · split
    · simp [mu]
    · rename_i x hx
      have := textP_len _ _ hx
      simp only [mu, List.tail_cons] at this ⊢
      omega
  · split
    · exact word_mu (r := c :: t) (by decide)
    · split
      · exact word_mu (r := c :: t) (by decide)
      · split
        · exact word_mu (r := c :: t) (by decide)
        · split
          · rename_i h
            have := numR_lt h
            simp only [mu, List.length_cons] at this ⊢
            omega
          · simp [mu]
theorem begin_mu (r : Bs) (m : Nat) (st : List Fr) : mu (beginP r m st) < mu (.more r m st) := by
  unfold beginP
  split
  · simp [mu]
  · rename_i c t h
    have h1 := skip_cons h
    have h2 := skip_le t
    have h3 := List.length_tail (l := skip t)
    unfold beginC
    split
    · simp [mu]
    · split
      · simp [mu]
      · split
        · simp [mu]
        · split
          · split <;> (simp only [mu]; omega)
          · split
            · split
              · simp only [mu]; omega
              · have := field_mu (skip t) (m + 1) [] st
                show _ < 2 * r.length + 1
                omega
            · have := plain_mu c t (m + 1) st
              show _ < 2 * r.length + 1
              omega
theorem goes_mu (v : JV) (r : Bs) (m : Nat) (f : Fr) (st : List Fr) : mu (goesP v r m f st) < mu (.whole v r m (f :: st)) := by
  unfold goesP
  split
  · split
    · simp [mu]
    · rename_i c t h
      have h1 := skip_cons h
      split
      · simp only [mu]; omega
      · split
        · simp only [mu]; omega
        · simp [mu]
  · split
    · simp [mu]
    · rename_i c t h
      have h1 := skip_cons h
      split
      · simp only [mu]; omega
      · split
        · refine Nat.lt_of_lt_of_le (field_mu t m _ st) ?_
          show _ ≤ 2 * r.length + 2
          omega
        · simp [mu]
def fin (x : R) : JV × Int := match x with
  | .bad e => (.nul, e)
  | .more r m st => fin (beginP r m st)
  | .whole v r _ [] => if skip r = [] then (v, 0) else (.nul, 3)
  | .whole v r m (f :: st) => fin (goesP v r m f st)
termination_by mu x
decreasing_by
  · exact begin_mu _ _ _
  · exact goes_mu _ _ _ _ _
def readL (s : Bs) : JV × Int := if 2000 < s.length then (.nul, 2) else fin (.more s 0 [])
theorem fin_bad (e : Int) : fin (.bad e) = (.nul, e) := by rw [fin]
theorem fin_more (r : Bs) (m : Nat) (st : List Fr) : fin (.more r m st) = fin (beginP r m st) := by rw [fin]
theorem fin_end (v : JV) (r : Bs) (m : Nat) : fin (.whole v r m []) = if skip r = [] then (v, 0) else (.nul, 3) := by rw [fin]
theorem fin_whole (v : JV) (r : Bs) (m : Nat) (f : Fr) (st : List Fr) : fin (.whole v r m (f :: st)) = fin (goesP v r m f st) := by rw [fin]
end JP
end Go.Proofs.YtnnceaapodgfbaaGreatDoor
namespace Go.Proofs.YtnnceaapodgfbaaGreatDoor
open Go.RowKit
structure But (g : Nat) (w w' : World) : Prop where
  os : w'.os = w.os
  tape : w'.tape = w.tape
  output : w'.output = w.output
  size : w.heap.size ≤ w'.heap.size
  block : ∀ k, k < w.heap.size → k ≠ g → w'.heap[k]? = w.heap[k]?
theorem But.refl (g : Nat) (w : World) : But g w w := ⟨rfl, rfl, rfl, Nat.le_refl _, fun _ _ _ => rfl⟩
theorem But.trans {g : Nat} {a b c : World} (h : But g a b) (k : But g b c) : But g a c :=
  ⟨k.os.trans h.os, k.tape.trans h.tape, k.output.trans h.output, Nat.le_trans h.size k.size, fun q hq hn => (k.block q (Nat.lt_of_lt_of_le hq h.size) hn).trans (h.block q hq hn)⟩
theorem But.of {g : Nat} {w w' : World} (h : Below w.heap.size w w') : But g w w' := ⟨h.os, h.tape, h.output, h.size, fun k hk _ => h.block k hk⟩
theorem But.touch {g : Nat} {w w' : World} (h : Touch g w w') : But g w w' := ⟨h.os, h.tape, h.output, by rw [h.size]; exact Nat.le_refl _, fun k _ hn => h.other k hn⟩
theorem But.below {g B : Nat} {a w w' : World} (h : But g w w') (hb : Below B a w) (hB : B ≤ w.heap.size) (hg : B ≤ g) : Below B a w' :=
  hb.trans ⟨h.os, h.tape, h.output, h.size, fun k hk => h.block k (by omega) (by omega)⟩
theorem But.keep {g k : Nat} {w w' : World} {x : Obj} (h : But g w w') (hx : w.heap[k]? = some x) (hn : k ≠ g) : w'.heap[k]? = some x := by
  have hb : k < w.heap.size := by
    rcases Nat.lt_or_ge k w.heap.size with h1 | h1
    · exact h1
    · rw [Array.getElem?_eq_none h1] at hx; cases hx
  exact (h.block k hb hn).trans hx
theorem But.cell {g : Nat} {w w' : World} {p : Addr} (h : But g w w') (hp : p.block < w.heap.size) (hn : p.block ≠ g) : w'.cell? p = w.cell? p := by
  unfold World.cell?
  rw [h.block _ hp hn]
section
variable {α : Type} {R : Rd α} {k : Nat} {e : TypeId} {v : Value} {l : List α} {B g : Nat} {w w' : World}
theorem OwnAt.but (hf : Flat R) (h : OwnAt R k w B e v l) (hb : But g w w') (hne : ∀ q, v.ownBlock = some q → q ≠ g) : OwnAt R k w' B e v l := by
  obtain ⟨css, h1, h2, h3, h4⟩ := h
  refine ⟨css, h1, h2, ⟨h3.1, ?_⟩, fun j cs y hcs hy => hf _ _ _ _ (h4 j cs y hcs hy)⟩
  rcases h3.2 with h5 | ⟨q, cap, cur, rfl, hB, hh, hr⟩
  · exact .inl h5
  · exact .inr ⟨q, cap, cur, rfl, hB, hb.keep hh (hne q rfl), hr⟩
theorem OwnAt.butLow (hf : Flat R) (h : OwnAt R k w B e v l) (hb : But g w w') (hg : g < B) : OwnAt R k w' B e v l :=
  h.but hf hb fun q hq => by have := (h.at hq).1; omega
end
end Go.Proofs.YtnnceaapodgfbaaGreatDoor
namespace Go.Proofs.YtnnceaapodgfbaaGreatDoor
open Go.RowKit
open JP (JV Bs)
def mkB (l : Bs) : ByteArray := ⟨l.toArray⟩
theorem mkB_size (l : Bs) : (mkB l).size = l.length := by unfold mkB; show l.toArray.size = _; simp
theorem mkB_list (l : Bs) : (mkB l).data.toList = l := by unfold mkB; simp
theorem mkB_of (s : ByteArray) : mkB s.data.toList = s := by unfold mkB; cases s; simp
theorem mkB_inj {a b : Bs} : mkB a = mkB b ↔ a = b := ⟨fun h => by rw [← mkB_list a, ← mkB_list b, h], fun h => by rw [h]⟩
structure KeepT (T : List Nat) (w w' : World) : Prop where
  os : w'.os = w.os
  tape : w'.tape = w.tape
  output : w'.output = w.output
  size : w.heap.size ≤ w'.heap.size
  block : ∀ b, b < w.heap.size → b ∉ T → w'.heap[b]? = w.heap[b]?
theorem KeepT.refl (T : List Nat) (w : World) : KeepT T w w := ⟨rfl, rfl, rfl, Nat.le_refl _, fun _ _ _ => rfl⟩
theorem KeepT.of {T : List Nat} {w w' : World} (h : Below w.heap.size w w') : KeepT T w w' := ⟨h.os, h.tape, h.output, h.size, fun b hb _ => h.block b hb⟩
theorem KeepT.trans {T : List Nat} {a b c : World} (h : KeepT T a b) (k : KeepT T b c) : KeepT T a c := ⟨k.os.trans h.os, k.tape.trans h.tape, k.output.trans h.output, Nat.le_trans h.size k.size, fun q hq hn => (k.block q (Nat.lt_of_lt_of_le hq h.size) hn).trans (h.block q hq hn)⟩
theorem KeepT.mono {T T' : List Nat} {w w' : World} (h : KeepT T w w') (hs : ∀ b ∈ T, b ∈ T' ∨ w.heap.size ≤ b) : KeepT T' w w' := ⟨h.os, h.tape, h.output, h.size, fun b hb hn => h.block b hb fun hm => by
  rcases hs b hm with h1 | h1
  · exact hn h1
  · omega⟩
theorem KeepT.but {T : List Nat} {g : Nat} {w w' : World} (h : But g w w') (hg : g ∈ T) : KeepT T w w' := ⟨h.os, h.tape, h.output, h.size, fun b hb hn => h.block b hb fun e => hn (e ▸ hg)⟩
theorem KeepT.below {T : List Nat} {B : Nat} {a w w' : World} (h : KeepT T w w') (hb : Below B a w) (hB : B ≤ w.heap.size) (hT : ∀ b ∈ T, B ≤ b) : Below B a w' :=
  hb.trans ⟨h.os, h.tape, h.output, h.size, fun k hk => h.block k (by omega) fun hm => by have := hT k hm; omega⟩
theorem KeepT.cell {T : List Nat} {w w' : World} {p : Addr} {v : Value} (h : KeepT T w w') (hp : w.cell? p = some v) (hn : p.block ∉ T) : w'.cell? p = some v := by
  have hb := World.block_lt_of_cell? w p hp
  unfold World.cell? at hp ⊢
  rw [h.block _ hb hn]
  exact hp
def OffT {α : Type} (T : List Nat) (v : Value) (l : List α) : Prop := l ≠ [] → ∀ b, v.ownBlock = some b → b ∉ T
section
variable {α : Type} {R R' : Rd α} {k : Nat} {w w' : World} {v : Value} {l : List α} {T T' : List Nat}
theorem RowAt.keepT (h : RowAt R k w v l) (hk : KeepT T w w') (ho : OffT T v l) (hR : ∀ cs x, R w cs x → R' w' cs x) : RowAt R' k w' v l := by
  rcases h with h | ⟨a, c, h1, h2, h3, h4⟩
  · exact .inl h
  · refine .inr ⟨a, c, h1, h2, h3, fun j x hx => ?_⟩
    obtain ⟨cs, g1, g2, g3⟩ := h4 j x hx
    refine ⟨cs, g1, fun i u hu => hk.cell (g2 i u hu) ?_, hR _ _ g3⟩
    have := ho (fun e => by rw [e] at hx; simp at hx) a.block (by rw [h1]; rfl)
    have e : (a.add (j * k + i)).block = a.block := by unfold Addr.add; split <;> rfl
    rw [e]; exact this
theorem OffT.fresh (h : RowAt R k w v l) (hk : 0 < k) (ho : OffT T v l) (hs : ∀ b ∈ T', b ∈ T ∨ w.heap.size ≤ b) : OffT T' v l := fun hl b hb hm => by
  rcases hs b hm with h1 | h1
  · exact ho hl b hb h1
  · obtain ⟨b', o, c, rfl, _, _, hlt, _⟩ := h.form (List.length_pos_iff.2 hl) hk
    have : b' = b := by simpa [Value.ownBlock] using hb
    omega
end
def ObR (R : Rd JV) (T : List Nat) (w : World) (q : Nat) (l : List (Bs × JV)) : Prop :=
  q ∉ T ∧ JP.Srt l ∧ ∃ vn vv, w.cell? ⟨q, 0, none⟩ = some vn ∧ w.cell? ⟨q, 1, none⟩ = some vv ∧ RowAt RString 1 w vn (l.map fun x => mkB x.1) ∧ OffT T vn l ∧ RowAt R 1 w vv (l.map (·.2)) ∧ OffT T vv l
def JvAt : Nat → List Nat → World → Value → JV → Prop
  | 0, _, _, _, _ => False
  | _ + 1, _, _, v, .nul => v = .nilIface
  | _ + 1, _, _, v, .bool b => v = .iface 4 (.bool b)
  | _ + 1, _, _, v, .num k => v = .iface 2 (.int .i64 k) ∧ -9223372036854775808 ≤ k ∧ k ≤ 9223372036854775807
  | _ + 1, _, _, v, .str s => v = .iface 9 (.string (mkB s))
  | n + 1, T, w, v, .list l => ∃ u, v = .iface 188 u ∧ RowAt (fun w cs x => ∃ v, cs = [v] ∧ JvAt n T w v x) 1 w u l ∧ OffT T u l
  | n + 1, T, w, v, .obj l => ∃ q, v = .iface 190 (.pointer (some ⟨q, 0, none⟩)) ∧ ObR (fun w cs x => ∃ v, cs = [v] ∧ JvAt n T w v x) T w q l
def JvR (n : Nat) (T : List Nat) : Rd JV := fun w cs x => ∃ v, cs = [v] ∧ JvAt n T w v x
theorem ObR.keepT {R R' : Rd JV} {T : List Nat} {w w' : World} {q : Nat} {l : List (Bs × JV)} (h : ObR R T w q l) (hk : KeepT T w w') (hR : ∀ cs x, R w cs x → R' w' cs x) : ObR R' T w' q l := by
  obtain ⟨h1, h2, vn, vv, h3, h4, h5, h6, h7, h8⟩ := h
  refine ⟨h1, h2, vn, vv, hk.cell h3 h1, hk.cell h4 h1, h5.keepT hk (fun hl => h6 fun e => hl (by rw [e]; rfl)) (fun _ _ h => h), h6, h7.keepT hk (fun hl => h8 fun e => hl (by rw [e]; rfl)) hR, h8⟩
theorem JvAt.keepT {T : List Nat} {w w' : World} (hk : KeepT T w w') : ∀ {n : Nat} {v : Value} {x : JV}, JvAt n T w v x → JvAt n T w' v x
  | 0, _, _, h => by cases h
  | n + 1, v, .nul, h => h
  | n + 1, v, .bool b, h => h
  | n + 1, v, .num b, h => h
  | n + 1, v, .str b, h => h
  | n + 1, v, .list l, h => by
    obtain ⟨u, h1, h2, h3⟩ := h
    exact ⟨u, h1, h2.keepT hk h3 (fun cs x ⟨v, e, hv⟩ => ⟨v, e, hv.keepT hk⟩), h3⟩
  | n + 1, v, .obj l, h => by
    obtain ⟨q, h1, h2⟩ := h
    exact ⟨q, h1, h2.keepT hk (fun cs x ⟨v, e, hv⟩ => ⟨v, e, hv.keepT hk⟩)⟩
theorem RowAt.mapR {α : Type} {R R' : Rd α} {k : Nat} {w : World} {v : Value} {l : List α} (h : RowAt R k w v l) (hm : ∀ cs x, R w cs x → R' w cs x) : RowAt R' k w v l := by
  rcases h with h | ⟨a, c, h1, h2, h3, h4⟩
  · exact .inl h
  · exact .inr ⟨a, c, h1, h2, h3, fun j x hx => by
      obtain ⟨cs, g1, g2, g3⟩ := h4 j x hx
      exact ⟨cs, g1, g2, hm _ _ g3⟩⟩
theorem JvAt.fresh {T T' : List Nat} {w : World} (hs : ∀ b ∈ T', b ∈ T ∨ w.heap.size ≤ b) : ∀ {n : Nat} {v : Value} {x : JV}, JvAt n T w v x → JvAt n T' w v x
  | 0, _, _, h => by cases h
  | n + 1, v, .nul, h => h
  | n + 1, v, .bool b, h => h
  | n + 1, v, .num b, h => h
  | n + 1, v, .str b, h => h
  | n + 1, v, .list l, h => by
    obtain ⟨u, h1, h2, h3⟩ := h
    exact ⟨u, h1, h2.mapR (fun cs x ⟨v, e, hv⟩ => ⟨v, e, hv.fresh hs⟩), OffT.fresh h2 (by decide) h3 hs⟩
  | n + 1, v, .obj l, h => by
    obtain ⟨q, h1, h2, h3, vn, vv, h4, h5, h6, h7, h8, h9⟩ := h
    have e6 : OffT T vn (l.map fun x => mkB x.1) := fun hl => h7 fun e => hl (by rw [e]; rfl)
    have e8 : OffT T vv (l.map (·.2)) := fun hl => h9 fun e => hl (by rw [e]; rfl)
    refine ⟨q, h1, fun hm => ?_, h3, vn, vv, h4, h5, h6, fun hl => OffT.fresh h6 (by decide) e6 hs fun e => hl (List.map_eq_nil_iff.1 e), h8.mapR (fun cs x ⟨v, e, hv⟩ => ⟨v, e, hv.fresh hs⟩), fun hl => OffT.fresh h8 (by decide) e8 hs fun e => hl (List.map_eq_nil_iff.1 e)⟩
    rcases hs q hm with k | k
    · exact h2 k
    · have := World.block_lt_of_cell? w ⟨q, 0, none⟩ h4
      have : q < w.heap.size := this
      omega
theorem JvAt.up {T : List Nat} {w : World} : ∀ {n : Nat} {v : Value} {x : JV}, JvAt n T w v x → JvAt (n + 1) T w v x
  | 0, _, _, h => by cases h
  | n + 1, v, .nul, h => h
  | n + 1, v, .bool b, h => h
  | n + 1, v, .num b, h => h
  | n + 1, v, .str b, h => h
  | n + 1, v, .list l, h => by
    obtain ⟨u, h1, h2, h3⟩ := h
    exact ⟨u, h1, h2.mapR (fun cs x ⟨v, e, hv⟩ => ⟨v, e, hv.up⟩), h3⟩
  | n + 1, v, .obj l, h => by
    obtain ⟨q, h1, h2, h3, vn, vv, h4, h5, h6, h7, h8, h9⟩ := h
    exact ⟨q, h1, h2, h3, vn, vv, h4, h5, h6, h7, h8.mapR (fun cs x ⟨v, e, hv⟩ => ⟨v, e, hv.up⟩), h9⟩
theorem JvAt.ups {T : List Nat} {w : World} {n m : Nat} {v : Value} {x : JV} (h : JvAt n T w v x) (hm : n ≤ m) : JvAt m T w v x := by
  induction m with
  | zero => obtain rfl : n = 0 := by omega
            exact h
  | succ m ih =>
    rcases Nat.lt_or_ge m n with h1 | h1
    · obtain rfl : n = m + 1 := by omega
      exact h
    · exact (ih h1).up
theorem JvAt.below {T : List Nat} {w w' : World} {n : Nat} {v : Value} {x : JV} (h : JvAt n T w v x) (hb : Below w.heap.size w w') : JvAt n T w' v x := h.keepT (.of hb)
theorem one_jv (n : Nat) (T : List Nat) : OneR (JvR n T) := fun w cs x ⟨v, e, h⟩ u hu => by
  rw [e, List.mem_singleton] at hu
  subst hu
  cases n with
  | zero => cases h
  | succ n =>
    cases x with
    | nul => rw [show u = _ from h]; rfl
    | bool _ => rw [show u = _ from h]; rfl
    | num _ => rw [h.1]; rfl
    | str _ => rw [show u = _ from h]; rfl
    | list l => obtain ⟨_, h1, _⟩ := h; rw [h1]; rfl
    | obj l => obtain ⟨_, h1, _⟩ := h; rw [h1]; rfl
end Go.Proofs.YtnnceaapodgfbaaGreatDoor
namespace Go.Proofs.YtnnceaapodgfbaaGreatDoor
open Go
theorem drop_at {s : ByteArray} {i : Nat} (h : i < s.size) : s.data.toList.drop i = s[i] :: s.data.toList.drop (i + 1) := by
  have hl : s.data.toList.length = s.size := by simp
  rw [List.drop_eq_getElem_cons (by omega)]
  rfl
theorem drop_end {s : ByteArray} {i : Nat} (h : s.size ≤ i) : s.data.toList.drop i = [] := by
  have hl : s.data.toList.length = s.size := by simp
  exact List.drop_eq_nil_of_le (by omega)
structure Runs (p : UInt8 → Bool) (s : ByteArray) (a i : Nat) : Prop where
  le : a ≤ i
  room : i ≤ s.size
  drop : (s.data.toList.drop a).dropWhile p = (s.data.toList.drop i).dropWhile p
  take : (s.data.toList.drop a).takeWhile p = (s.data.toList.drop a).take (i - a) ++ (s.data.toList.drop i).takeWhile p
theorem Runs.start (p : UInt8 → Bool) {s : ByteArray} {a : Nat} (h : a ≤ s.size) : Runs p s a a := ⟨Nat.le_refl _, h, rfl, by simp⟩
theorem Runs.step {p : UInt8 → Bool} {s : ByteArray} {a i : Nat} (h : Runs p s a i) (hi : i < s.size) (hp : p s[i] = true) : Runs p s a (i + 1) := by
  obtain ⟨h1, h2, h3, h4⟩ := h
  refine ⟨by omega, by omega, ?_, ?_⟩
  · rw [h3, drop_at hi, List.dropWhile_cons_of_pos hp]
  · rw [h4, drop_at hi, List.takeWhile_cons_of_pos hp]
    have : (s.data.toList.drop a).take (i + 1 - a) = (s.data.toList.drop a).take (i - a) ++ [s[i]] := by
      rw [show i + 1 - a = (i - a) + 1 by omega, List.take_add_one, List.getElem?_drop, show a + (i - a) = i by omega]
      have hl : s.data.toList.length = s.size := by simp
      rw [List.getElem?_eq_getElem (by omega)]
      rfl
    rw [this, List.append_assoc]
    rfl
theorem Runs.stop {p : UInt8 → Bool} {s : ByteArray} {a i : Nat} (h : Runs p s a i) (hi : ∀ h : i < s.size, p s[i] = false) :
    (s.data.toList.drop a).dropWhile p = s.data.toList.drop i ∧ (s.data.toList.drop a).takeWhile p = (s.data.toList.drop a).take (i - a) := by
  obtain ⟨h1, h2, h3, h4⟩ := h
  by_cases hl : i < s.size
  · rw [drop_at hl] at h3 h4
    rw [List.dropWhile_cons_of_neg (by rw [hi hl]; simp), ← drop_at hl] at h3
    rw [List.takeWhile_cons_of_neg (by rw [hi hl]; simp), List.append_nil] at h4
    exact ⟨h3, h4⟩
  · rw [drop_end (i := i) (by omega)] at h3 h4 ⊢
    exact ⟨h3, by simpa using h4⟩
theorem extract_take {s : ByteArray} {a i : Nat} (h1 : a ≤ i) (h2 : i ≤ s.size) : (s.extract a i).data.toList = (s.data.toList.drop a).take (i - a) := by
  simp [ByteArray.data_extract]
end Go.Proofs.YtnnceaapodgfbaaGreatDoor
namespace Go.Proofs.YtnnceaapodgfbaaGreatDoor
open Go.RowKit
open JP (Bs)
def RU8 : Rd UInt8 := fun _ cs b => cs = [.int .u8 (b.toNat : Int)]
theorem flat_u8 : Flat RU8 := fun _ _ _ _ h => h
theorem one_u8 : OneR RU8 := fun _ _ _ h u hu => by rw [h] at hu; simp at hu; subst hu; rfl
theorem stays_u8 : Stays RU8 := fun _ _ _ _ _ h => h
theorem own_u8 {w : World} {B : Nat} {e : TypeId} {v : Value} {l : Bs} (h : OwnAt RU8 1 w B e v l) : w.ownsRow B e 1 v l.length (byteCells l) := by
  obtain ⟨css, h1, h2, h3, h4⟩ := h
  have : css.flatten = byteCells l := by
    apply List.ext_getElem?
    intro j
    by_cases hj : j < l.length
    · have hcs : css[j]? = some css[j] := List.getElem?_eq_getElem (by omega)
      have hR : css[j] = [.int .u8 (l[j].toNat : Int)] := h4 j _ _ hcs (List.getElem?_eq_getElem hj)
      have := get_flat h2 (j := j) (i := 0) hcs (u := .int .u8 (l[j].toNat : Int)) (by rw [hR]; rfl)
      rw [Nat.mul_one, Nat.add_zero] at this
      rw [this]
      simp [byteCells, hj]
    · rw [List.getElem?_eq_none (by rw [flat_len h2]; omega), List.getElem?_eq_none (by rw [byteCells_length]; omega)]
  rwa [this] at h3
theorem row_u8 {w : World} {b : Nat} {e : TypeId} {l : Bs} {fr : Nat × Nat} (hb : w.heap[b]? = some (.cells (byteCells l).toArray e fr)) (hl : l.length ≤ maxLen) : RowAt RU8 1 w (.slice (some ⟨b, 0, none⟩) l.length l.length) l := by
  refine .inr ⟨_, l.length, rfl, Nat.le_refl _, hl, fun j x hx => ⟨[.int .u8 (x.toNat : Int)], rfl, fun i u hu => ?_, rfl⟩⟩
  match i, hu with
  | 0, hu =>
    simp only [List.getElem?_cons_zero, Option.some.injEq] at hu
    subst hu
    rw [add_plain', cell_block hb]
    simp [byteCells, hx]
theorem esc_snoc {s : ByteArray} {i : Nat} (h : i < s.size) : 34 :: (s.data.toList.take (i + 1)).flatMap JP.escB = (34 :: (s.data.toList.take i).flatMap JP.escB) ++ JP.escB s[i] := by
  rw [take_snoc s i h, List.flatMap_append]
  simp
theorem u8_eq {a b : UInt8} (h : a.toNat = b.toNat) : a = b := UInt8.toNat_inj.1 h
set_option maxRecDepth 100000 in
set_option maxHeartbeats 3200000 in
theorem quote_any (s : ByteArray) (w : World) (hs : s.size ≤ 4194304) :
    Calls Tryz.prog 100 #[.string s] w fun e w' => e = .returned (.string (mkB (JP.quote s.data.toList))) ∧ Below w.heap.size w w' := by
  obtain ⟨i0, hi0, hz0, hz1, hz2⟩ := info_parts Tryz.infoU8
  have hel : ∀ i, i ≤ s.size → (34 :: (s.data.toList.take i).flatMap JP.escB).length ≤ 2 * i + 1 := fun i hi => by
    have hone : ∀ c, (JP.escB c).length ≤ 2 := fun c => by unfold JP.escB; split; · simp
                                                           · split; · simp
                                                             · split <;> simp
    have hgen : ∀ l : Bs, (l.flatMap JP.escB).length ≤ 2 * l.length := fun l => by
      induction l with
      | nil => simp
      | cons c r ih => rw [List.flatMap_cons, List.length_append, List.length_cons]; have := hone c; omega
    have := hgen (s.data.toList.take i)
    rw [List.length_take] at this
    rw [List.length_cons]
    omega
  have Hel := Lib.hid hel
  clear hel
  go_enter Tryz.func100, Tryz.ntmps100
  obtain ⟨w0, hw0⟩ : ∃ w0, w0 = w.alloc (.cells #[.int .u8 34] 5) := ⟨_, rfl⟩
  have h0 : OwnAt RU8 1 w0 w.heap.size 5 (.slice (some ⟨w.heap.size, 0, none⟩) 1 1) [34] := by
    refine ⟨[[.int .u8 34]], rfl, fun cs hcs => by rw [List.mem_singleton.1 hcs]; rfl, ⟨rfl, .inr ⟨w.heap.size, 1, #[.int .u8 34], rfl, Nat.le_refl _, by rw [hw0]; exact heap_alloc_new w _, Nat.le_refl _, by unfold maxLen; decide, rfl, rfl⟩⟩, fun j cs x hcs hx => ?_⟩
    match j, hcs, hx with
    | 0, hcs, hx =>
      simp at hcs hx
      subst hcs
      subst hx
      rfl
  have hb0 : Below w.heap.size w w0 := by rw [hw0]; exact (Below.refl _ _).alloc (Nat.le_refl _) _
  have H0 := Lib.hid h0
  have Hb0 := Lib.hid hb0
  clear h0 hb0
  go_upto_region 2 with fail
  rw [← hw0]
  clear hw0
  go_wp2_with fail
  go_loopg [3, 9] s.size (fun k u3 u9 wr => ∃ i : Nat, i + k = s.size ∧ u9 = .int .i64 (i : Int) ∧ Hid (OwnAt RU8 1 wr w.heap.size 5 u3 (34 :: (s.data.toList.take i).flatMap JP.escB)) ∧ Hid (Below w.heap.size w wr))
  case atStart => exact ⟨0, by omega, rfl, H0, Hb0⟩
  case round =>
    obtain ⟨i, hik, rfl, Hown, Hbel⟩ := hrel
    have hl1 := Hel.out i (by omega)
    have hbs := Hbel.out.size
    obtain ⟨L, HL⟩ : ∃ L, Hid (34 :: (s.data.toList.take i).flatMap JP.escB = L) := ⟨_, Lib.hid rfl⟩
    rw [HL.out] at Hown hl1
    cases gk with
    | zero =>
      obtain rfl : i = s.size := by omega
      have HLq : Hid (L ++ [34] = JP.quote s.data.toList) := Lib.hid (by
        rw [← HL.out, List.take_of_length_le (by simp)]
        rfl)
      obtain ⟨w1, hw1⟩ : ∃ w1, w1 = wr.alloc (.cells #[.int .u8 34] 5) := ⟨_, rfl⟩
      have hb1 : Below wr.heap.size wr w1 := by rw [hw1]; exact (Below.refl _ _).alloc (Nat.le_refl _) _
      have h1 : RowAt RU8 1 w1 (.slice (some ⟨wr.heap.size, 0, none⟩) 1 1) [34] := row_u8 (l := [34]) (by rw [hw1]; exact heap_alloc_new wr _) (by unfold maxLen; simp)
      have Ho1 := Lib.hid (Hown.out.below stays_u8 hb1)
      have H1 := Lib.hid h1
      have Hb1 := Lib.hid (Hbel.out.trans (hb1.mono hbs))
      clear h1 hb1
      go_upto_region 16 with fail
      go_wp2_with (at_builtin; rw [← hw1]; refine wpList_append_ownAt (R := RU8) (k := 1) (e := 5) (B := w.heap.size) (l := L) (m := [34]) _ (by rfl) _ _ _ (by rfl) i0 _ 1 Tryz.underlying228 hi0 hz0 hz1 hz2 rfl (by omega) flat_u8 one_u8 _ (by rfl) Ho1.out _ (by rfl) H1.out (by unfold maxLen; simp; omega) (by simp; omega) (by have := Hb1.out.size; omega) ?_)
      intro v' w2 hv' hg hr _
      rw [← hw1] at hg
      have hb2 : Below w.heap.size w w2 := below_of_grown Hb1.out (by have := Hb1.out.size; omega) hg hr
      have Hb2 := Lib.hid hb2
      have hcv := run_convert_own w2 228 9 5 Tryz.underlying228 Tryz.underlying5 Tryz.underlying9 (own_u8 hv')
      clear hv' hg hr hb2 hw1
      go_wp2_with fail
      go_ret
      exact ⟨by rw [HLq.out]; rfl, Hb2.out⟩
    | succ k =>
      have hil : i < s.size := by omega
      have q1 : (0 : Int) ≤ (i : Int) := by omega
      have q2 : (i : Int) < (s.size : Int) := by omega
      have HS := Lib.hid (esc_snoc hil)
      rw [HL.out] at HS
      by_cases h34 : s[i].toNat = 34
      · have he : s[i] = 34 := u8_eq h34
        have hesc : JP.escB s[i] = [92, 34] := by rw [he]; rfl
        have HE := Lib.hid hesc
        clear he hesc
        have HS2 : Hid (34 :: (s.data.toList.take (i + 1)).flatMap JP.escB = L ++ [92, 34]) := Lib.hid (by rw [HS.out, HE.out])
        clear HS
        go_wp2_with (at_builtin; refine wpList_append_ownAt (R := RU8) (k := 1) (e := 5) (B := w.heap.size) (l := L) (m := [92, 34]) _ (by rfl) _ _ _ (by rfl) i0 _ 1 Tryz.underlying228 hi0 hz0 hz1 hz2 rfl (by omega) flat_u8 one_u8 _ (by rfl) (Hown.out.alloc stays_u8 _) (.slice (some ⟨wr.heap.size, 0, none⟩) 2 2) (by rfl) (row_u8 (l := [92, 34]) (heap_alloc_new wr _) (by unfold maxLen; simp)) (by unfold maxLen; simp; omega) (by simp; omega) (by simp; omega) ?_)
        intro v' w2 hv' hg hr _
        have hb2 : Below w.heap.size w w2 := below_of_grown (Hbel.out.alloc hbs _) (by simp; omega) hg hr
        have Hb2 := Lib.hid hb2
        have Hv : Hid (OwnAt RU8 1 w2 w.heap.size 5 v' (34 :: (s.data.toList.take (i + 1)).flatMap JP.escB)) := Lib.hid (by rw [HS2.out]; exact hv')
        clear hv' hg hr hb2 HS2
        go_wp2_with fail
        go_roundg k
        case measure => omega
        case rel => exact ⟨i + 1, by omega, by go_num, Hv, Hb2⟩
      · have n34 : ((s[i].toNat : Int) == 34) = false := by rw [beq_eq_false_iff_ne]; omega
        by_cases h92 : s[i].toNat = 92
        · have he : s[i] = 92 := u8_eq h92
          have hesc : JP.escB s[i] = [92, 92] := by rw [he]; rfl
          have HE := Lib.hid hesc
          clear he hesc n34 h34
          have HS2 : Hid (34 :: (s.data.toList.take (i + 1)).flatMap JP.escB = L ++ [92, 92]) := Lib.hid (by rw [HS.out, HE.out])
          clear HS
          go_wp2_with (at_builtin; refine wpList_append_ownAt (R := RU8) (k := 1) (e := 5) (B := w.heap.size) (l := L) (m := [92, 92]) _ (by rfl) _ _ _ (by rfl) i0 _ 1 Tryz.underlying228 hi0 hz0 hz1 hz2 rfl (by omega) flat_u8 one_u8 _ (by rfl) (Hown.out.alloc stays_u8 _) (.slice (some ⟨wr.heap.size, 0, none⟩) 2 2) (by rfl) (row_u8 (l := [92, 92]) (heap_alloc_new wr _) (by unfold maxLen; simp)) (by unfold maxLen; simp; omega) (by simp; omega) (by simp; omega) ?_)
          intro v' w2 hv' hg hr _
          have hb2 : Below w.heap.size w w2 := below_of_grown (Hbel.out.alloc hbs _) (by simp; omega) hg hr
          have Hb2 := Lib.hid hb2
          have Hv : Hid (OwnAt RU8 1 w2 w.heap.size 5 v' (34 :: (s.data.toList.take (i + 1)).flatMap JP.escB)) := Lib.hid (by rw [HS2.out]; exact hv')
          clear hv' hg hr hb2 HS2
          go_wp2_with fail
          go_roundg k
          case measure => omega
          case rel => exact ⟨i + 1, by omega, by go_num, Hv, Hb2⟩
        · have n92 : ((s[i].toNat : Int) == 92) = false := by rw [beq_eq_false_iff_ne]; omega
          by_cases h10 : s[i].toNat = 10
          · have he : s[i] = 10 := u8_eq h10
            have hesc : JP.escB s[i] = [92, 110] := by rw [he]; rfl
            have HE := Lib.hid hesc
            clear he hesc n34 h34 n92 h92
            have HS2 : Hid (34 :: (s.data.toList.take (i + 1)).flatMap JP.escB = L ++ [92, 110]) := Lib.hid (by rw [HS.out, HE.out])
            clear HS
            go_wp2_with (at_builtin; refine wpList_append_ownAt (R := RU8) (k := 1) (e := 5) (B := w.heap.size) (l := L) (m := [92, 110]) _ (by rfl) _ _ _ (by rfl) i0 _ 1 Tryz.underlying228 hi0 hz0 hz1 hz2 rfl (by omega) flat_u8 one_u8 _ (by rfl) (Hown.out.alloc stays_u8 _) (.slice (some ⟨wr.heap.size, 0, none⟩) 2 2) (by rfl) (row_u8 (l := [92, 110]) (heap_alloc_new wr _) (by unfold maxLen; simp)) (by unfold maxLen; simp; omega) (by simp; omega) (by simp; omega) ?_)
            intro v' w2 hv' hg hr _
            have hb2 : Below w.heap.size w w2 := below_of_grown (Hbel.out.alloc hbs _) (by simp; omega) hg hr
            have Hb2 := Lib.hid hb2
            have Hv : Hid (OwnAt RU8 1 w2 w.heap.size 5 v' (34 :: (s.data.toList.take (i + 1)).flatMap JP.escB)) := Lib.hid (by rw [HS2.out]; exact hv')
            clear hv' hg hr hb2 HS2
            go_wp2_with fail
            go_roundg k
            case measure => omega
            case rel => exact ⟨i + 1, by omega, by go_num, Hv, Hb2⟩
          · have n10 : ((s[i].toNat : Int) == 10) = false := by rw [beq_eq_false_iff_ne]; omega
            by_cases h9 : s[i].toNat = 9
            · have he : s[i] = 9 := u8_eq h9
              have hesc : JP.escB s[i] = [92, 116] := by rw [he]; rfl
              have HE := Lib.hid hesc
              clear he hesc n34 h34 n92 h92 n10 h10
              have HS2 : Hid (34 :: (s.data.toList.take (i + 1)).flatMap JP.escB = L ++ [92, 116]) := Lib.hid (by rw [HS.out, HE.out])
              clear HS
              go_wp2_with (at_builtin; refine wpList_append_ownAt (R := RU8) (k := 1) (e := 5) (B := w.heap.size) (l := L) (m := [92, 116]) _ (by rfl) _ _ _ (by rfl) i0 _ 1 Tryz.underlying228 hi0 hz0 hz1 hz2 rfl (by omega) flat_u8 one_u8 _ (by rfl) (Hown.out.alloc stays_u8 _) (.slice (some ⟨wr.heap.size, 0, none⟩) 2 2) (by rfl) (row_u8 (l := [92, 116]) (heap_alloc_new wr _) (by unfold maxLen; simp)) (by unfold maxLen; simp; omega) (by simp; omega) (by simp; omega) ?_)
              intro v' w2 hv' hg hr _
              have hb2 : Below w.heap.size w w2 := below_of_grown (Hbel.out.alloc hbs _) (by simp; omega) hg hr
              have Hb2 := Lib.hid hb2
              have Hv : Hid (OwnAt RU8 1 w2 w.heap.size 5 v' (34 :: (s.data.toList.take (i + 1)).flatMap JP.escB)) := Lib.hid (by rw [HS2.out]; exact hv')
              clear hv' hg hr hb2 HS2
              go_wp2_with fail
              go_roundg k
              case measure => omega
              case rel => exact ⟨i + 1, by omega, by go_num, Hv, Hb2⟩
            · have n9 : ((s[i].toNat : Int) == 9) = false := by rw [beq_eq_false_iff_ne]; omega
              have hesc : JP.escB s[i] = [s[i]] := by
                have ne : ∀ (c : UInt8), s[i].toNat ≠ c.toNat → s[i] ≠ c := fun c h e => h (by rw [e])
                unfold JP.escB
                rw [if_neg (fun h => h.elim (ne 34 h34) (ne 92 h92)), if_neg (ne 10 h10), if_neg (ne 9 h9)]
              have HE := Lib.hid hesc
              clear hesc h34 h92 h10 h9
              have HS2 : Hid (34 :: (s.data.toList.take (i + 1)).flatMap JP.escB = L ++ [s[i]]) := Lib.hid (by rw [HS.out, HE.out])
              clear HS
              go_wp2_with (at_builtin; refine wpList_append_ownAt (R := RU8) (k := 1) (e := 5) (B := w.heap.size) (l := L) (m := [s[i]]) _ (by rfl) _ _ _ (by rfl) i0 _ 1 Tryz.underlying228 hi0 hz0 hz1 hz2 rfl (by omega) flat_u8 one_u8 _ (by rfl) (Hown.out.alloc stays_u8 _) (.slice (some ⟨wr.heap.size, 0, none⟩) 1 1) (by rfl) (row_u8 (l := [s[i]]) (heap_alloc_new wr _) (by unfold maxLen; simp)) (by unfold maxLen; simp; omega) (by simp; omega) (by simp; omega) ?_)
              intro v' w2 hv' hg hr _
              have hb2 : Below w.heap.size w w2 := below_of_grown (Hbel.out.alloc hbs _) (by simp; omega) hg hr
              have Hb2 := Lib.hid hb2
              have Hv : Hid (OwnAt RU8 1 w2 w.heap.size 5 v' (34 :: (s.data.toList.take (i + 1)).flatMap JP.escB)) := Lib.hid (by rw [HS2.out]; exact hv')
              clear hv' hg hr hb2 HS2
              go_wp2_with fail
              go_roundg k
              case measure => omega
              case rel => exact ⟨i + 1, by omega, by go_num, Hv, Hb2⟩
end Go.Proofs.YtnnceaapodgfbaaGreatDoor
namespace Go.Proofs.YtnnceaapodgfbaaGreatDoor
open Go.RowKit
open JP (JV Bs)
def RdAt (g : Nat) (s : ByteArray) (a m : Nat) (vst : Value) (bad : Int) (w : World) : Prop := w.heap[g]? = some (.cells #[.string s, .int .i64 (a : Int), .int .i64 (m : Int), vst, .int .i64 bad] 174 (0, 0))
theorem RdAt.drew {g : Nat} {s : ByteArray} {a m : Nat} {vst : Value} {bad : Int} {w : World} (h : RdAt g s a m vst bad w) (n : Nat) : RdAt g s a m vst bad (w.drewN n) := h
theorem But.drew {g : Nat} {w w' : World} (h : But g w w') (n : Nat) : But g w (w'.drewN n) := ⟨h.os, h.tape, h.output, h.size, h.block⟩
def hdN (r : Bs) : Int := match r with
  | [] => 0
  | c :: _ => (c.toNat : Int)
theorem hd_at {s : ByteArray} {i : Nat} (h : i < s.size) : hdN (s.data.toList.drop i) = (s[i].toNat : Int) := by rw [drop_at h]; rfl
theorem blank_nat (c : UInt8) : JP.blank c = decide (c.toNat = 32 ∨ c.toNat = 9 ∨ c.toNat = 10) := by
  unfold JP.blank
  rw [Bool.eq_iff_iff]
  simp only [Bool.or_eq_true, beq_iff_eq, decide_eq_true_eq, or_assoc]
  have e : ∀ k : UInt8, c = k ↔ c.toNat = k.toNat := fun k => ⟨fun h => by rw [h], fun h => UInt8.toNat_inj.1 h⟩
  rw [e 32, e 9, e 10]
  exact Iff.rfl
theorem ret_u8 {a b : Int} (h : a = b) : Ending.returned (.int .u8 a) = .returned (.int .u8 b) := by rw [h]
set_option maxRecDepth 100000 in
set_option maxHeartbeats 3200000 in
theorem next_any (g : Nat) (s : ByteArray) (a m : Nat) (vst : Value) (bad : Int) (w : World) (h : RdAt g s a m vst bad w) (ha : a ≤ s.size) (hs : s.size ≤ 1048576) :
    Calls Tryz.prog 95 #[.pointer (some ⟨g, 0, none⟩)] w fun e w' => e = .returned (.int .u8 (hdN (JP.skip (s.data.toList.drop a)))) ∧ (∃ i, i ≤ s.size ∧ s.data.toList.drop i = JP.skip (s.data.toList.drop a) ∧ RdAt g s i m vst bad w') ∧ But g w w' := by
  have H := Lib.hid h
  clear h
  go_enter Tryz.func95, Tryz.ntmps95
  go_wp2_with fail
  go_loopg [] (s.size - a) (fun k wr => ∃ i : Nat, i + k = s.size ∧ Hid (Runs JP.blank s a i) ∧ Hid (RdAt g s i m vst bad wr) ∧ Hid (But g w wr))
  case atStart => exact ⟨a, by omega, Lib.hid (Runs.start _ ha), H, Lib.hid (But.refl _ _)⟩
  case round =>
    obtain ⟨i, hig, HR, HP, HB⟩ := hrel
    have h0 : wr.cell? ⟨g, 0, none⟩ = some (.string s) := cell_block HP.out 0
    have h1 : wr.cell? ⟨g, 1, none⟩ = some (.int .i64 (i : Int)) := cell_block HP.out 1
    have hz : wr.frozen? ⟨g, 1, none⟩ = false := free_block HP.out 1
    cases gk with
    | zero =>
      have hi : i = s.size := by omega
      have q0 : decide (i < s.size) = false := decide_eq_false (by omega)
      have q1 : ¬ (i : Int) < (s.size : Int) := by omega
      have Hs := Lib.hid (HR.out.stop (fun h => absurd h (by omega))).1
      have Hh : Hid ((0 : Int) = hdN (JP.skip (s.data.toList.drop a))) := Lib.hid (by
        show 0 = hdN ((s.data.toList.drop a).dropWhile JP.blank)
        rw [Hs.out, drop_end (by omega)]; rfl)
      have hile : i ≤ s.size := by omega
      clear hi hig
      go_wp2_with fail
      go_quiet (fail)
      go_wp2_with fail
      go_ret
      exact ⟨ret_u8 Hh.out, ⟨i, hile, Hs.out.symm, HP.out⟩, HB.out.drew _⟩
    | succ k =>
      have hil : i < s.size := by omega
      have q0 : decide (i < s.size) = true := decide_eq_true hil
      have q1 : (i : Int) < (s.size : Int) := by omega
      have q2 : (0 : Int) ≤ (i : Int) := by omega
      cases hb : JP.blank s[i] with
      | false =>
        have Hs := Lib.hid (HR.out.stop (fun h => hb)).1
        have Hh : Hid ((s[i].toNat : Int) = hdN (JP.skip (s.data.toList.drop a))) := Lib.hid (by
          show _ = hdN ((s.data.toList.drop a).dropWhile JP.blank)
          rw [Hs.out, hd_at hil])
        have hn : ¬ (s[i].toNat = 32 ∨ s[i].toNat = 9 ∨ s[i].toNat = 10) := by
          rw [blank_nat] at hb
          exact of_decide_eq_false hb
        have e1 : ((s[i].toNat : Int) != 32) = true := by rw [bne_iff_ne]; omega
        have e2 : ((s[i].toNat : Int) != 9) = true := by rw [bne_iff_ne]; omega
        have e3 : ((s[i].toNat : Int) != 10) = true := by rw [bne_iff_ne]; omega
        have e4 : ((s[i].toNat : Int) == 32) = false := by rw [beq_eq_false_iff_ne]; omega
        have e5 : ((s[i].toNat : Int) == 9) = false := by rw [beq_eq_false_iff_ne]; omega
        have e6 : ((s[i].toNat : Int) == 10) = false := by rw [beq_eq_false_iff_ne]; omega
        have hile : i ≤ s.size := by omega
        clear hb hig hn
        go_wp2_with fail
        go_quiet (fail)
        go_wp2_with fail
        go_quiet (fail)
        go_wp2_with fail
        go_ret
        exact ⟨ret_u8 Hh.out, ⟨i, hile, Hs.out.symm, HP.out⟩, HB.out.drew _⟩
      | true =>
        have HR2 := Lib.hid (HR.out.step hil hb)
        have hn : s[i].toNat = 32 ∨ s[i].toNat = 9 ∨ s[i].toNat = 10 := by
          rw [blank_nat] at hb
          exact of_decide_eq_true hb
        clear hb
        rcases hn with hn | hn | hn
        all_goals
          go_wp2_with fail
          go_quiet (fail)
          go_wp2_with fail
          go_quiet (fail)
          go_wp2_with fail
          obtain ⟨t1, t2⟩ := touch_setCell (i := 1) (v := .int .i64 ((i : Int) + 1)) HP.out
          go_roundg k
          case measure => omega
          case rel => exact ⟨i + 1, by omega, HR2, Lib.hid (by unfold RdAt; rw [show ((i + 1 : Nat) : Int) = (i : Int) + 1 by omega]; exact t1), Lib.hid ((HB.out.trans (But.touch t2)).drew _)⟩
def failE (e0 bad : Int) : Int := if bad = 0 then e0 else bad
set_option maxRecDepth 100000 in
set_option maxHeartbeats 1600000 in
theorem fail_any (g : Nat) (s : ByteArray) (a m : Nat) (vst : Value) (bad e0 : Int) (w : World) (h : RdAt g s a m vst bad w) :
    Calls Tryz.prog 96 #[.pointer (some ⟨g, 0, none⟩), .int .i64 e0] w fun e w' => e = .returned (.tuple #[]) ∧ RdAt g s a m vst (failE e0 bad) w' ∧ But g w w' := by
  have h4 : w.cell? ⟨g, 4, none⟩ = some (.int .i64 bad) := cell_block h 4
  have hz : w.frozen? ⟨g, 4, none⟩ = false := free_block h 4
  have H := Lib.hid h
  clear h
  by_cases hb : bad = 0
  · subst hb
    go_enter Tryz.func96, Tryz.ntmps96
    go_wp2_with fail
    obtain ⟨t1, t2⟩ := touch_setCell (i := 4) (v := .int .i64 e0) H.out
    go_end0
    exact ⟨rfl, by rw [show failE e0 0 = e0 from rfl]; exact t1, But.touch t2⟩
  · have q1 : (bad == 0) = false := by rw [beq_eq_false_iff_ne]; exact hb
    have Hr : Hid (failE e0 bad = bad) := Lib.hid (if_neg hb)
    clear hb
    go_enter Tryz.func96, Tryz.ntmps96
    go_wp2_with fail
    go_end0
    exact ⟨rfl, by rw [Hr.out]; exact H.out, But.refl _ _⟩
end Go.Proofs.YtnnceaapodgfbaaGreatDoor
namespace Go.Proofs.YtnnceaapodgfbaaGreatDoor
open Go
namespace JP
theorem joinB_one (x sep : Bs) : Lib.join [x] sep = x := by simp [Lib.join, List.intercalate]
theorem joinB_more (x y : Bs) (r : List Bs) (sep : Bs) : Lib.join (x :: y :: r) sep = x ++ (sep ++ Lib.join (y :: r) sep) := by simp [Lib.join, List.intercalate]
theorem skip_of {c : UInt8} (t : Bs) (h : blank c = false) : skip (c :: t) = c :: t := by
  unfold skip
  rw [List.dropWhile_cons_of_neg (by simp [h])]
theorem skip_nil : skip [] = [] := rfl
theorem digit_of {k : Nat} (h : k < 10) : digit (UInt8.ofNat (48 + k)) = true := by
  have : ∀ i : Fin 10, digit (UInt8.ofNat (48 + i.val)) = true := by decide
  exact this ⟨k, h⟩
theorem digit_val {k : Nat} (h : k < 10) : Lib.digitVal (UInt8.ofNat (48 + k)) = some k := by
  have : ∀ i : Fin 10, Lib.digitVal (UInt8.ofNat (48 + i.val)) = some i.val := by decide
  exact this ⟨k, h⟩
theorem digit_nought {k : Nat} (h : k < 10) (h0 : k ≠ 0) : UInt8.ofNat (48 + k) ≠ 48 := by
  have : ∀ i : Fin 10, i.val ≠ 0 → UInt8.ofNat (48 + i.val) ≠ 48 := by decide
  exact this ⟨k, h⟩ h0
theorem dec_digits (u : Nat) : ∀ c ∈ Lib.decDigits u, digit c = true := by
  induction u using Nat.strongRecOn with
  | _ u ih =>
    intro c hc
    by_cases h : u < 10
    · rw [Lib.decDigits, dif_pos h, List.mem_singleton] at hc
      rw [hc]; exact digit_of h
    · rw [Lib.decDigits, dif_neg h, List.mem_append, List.mem_singleton] at hc
      rcases hc with hc | rfl
      · exact ih _ (by omega) c hc
      · exact digit_of (by omega)
theorem dec_head (u : Nat) : ∃ c t, Lib.decDigits u = c :: t ∧ (c = 48 → u = 0 ∧ t = []) := by
  induction u using Nat.strongRecOn with
  | _ u ih =>
    by_cases h : u < 10
    · refine ⟨_, [], by rw [Lib.decDigits, dif_pos h], fun h0 => ⟨?_, rfl⟩⟩
      by_cases hu : u = 0
      · exact hu
      · exact absurd h0 (digit_nought h hu)
    · obtain ⟨c, t, hd, hc⟩ := ih (u / 10) (by omega)
      exact ⟨c, t ++ [UInt8.ofNat (48 + u % 10)], by rw [Lib.decDigits, dif_neg h, hd]; rfl, fun h0 => by have := (hc h0).1; omega⟩
theorem decFrom_append (acc : Nat) (l : Bs) (b : UInt8) : Lib.decFrom acc (l ++ [b]) = (Lib.decFrom acc l).bind fun m => (Lib.digitVal b).map fun d => m * 10 + d := by
  induction l generalizing acc with
  | nil =>
    simp only [List.nil_append, Lib.decFrom, Option.bind_some]
    cases Lib.digitVal b <;> rfl
  | cons c r ih =>
    simp only [List.cons_append, Lib.decFrom]
    cases Lib.digitVal c with
    | none => rfl
    | some d => exact ih _
theorem dec_value (u : Nat) : Lib.decFrom 0 (Lib.decDigits u) = some u := by
  induction u using Nat.strongRecOn with
  | _ u ih =>
    by_cases h : u < 10
    · rw [Lib.decDigits, dif_pos h]
      unfold Lib.decFrom
      rw [digit_val h]
      show Lib.decFrom (0 * 10 + u) [] = some u
      rw [Nat.zero_mul, Nat.zero_add]
      rfl
    · rw [Lib.decDigits, dif_neg h, decFrom_append, ih _ (by omega), digit_val (by omega)]
      simp
      omega
theorem nDigits_le : ∀ (k u : Nat), 0 < k → u < 10 ^ k → Lib.nDigits u ≤ k
  | 0, _, h, _ => by omega
  | k + 1, u, _, h => by
    by_cases hu : u < 10
    · rw [Lib.nDigits_small hu]; omega
    · rw [Lib.nDigits_big hu]
      have hk : 0 < k := by
        rcases Nat.eq_zero_or_pos k with rfl | hk
        · simp at h; omega
        · exact hk
      have := nDigits_le k (u / 10) hk (by rw [Nat.pow_succ] at h; omega)
      omega
theorem dec_length {u : Nat} (h : u < 1000000000000000000) : (Lib.decDigits u).length ≤ 18 := by
  rw [Lib.decDigits_length]
  exact nDigits_le 18 u (by decide) (by simpa using h)
def NoDigit (r : Bs) : Prop := ∀ c t, r = c :: t → digit c = false
theorem span_digits {ds rest : Bs} (h : ∀ c ∈ ds, digit c = true) (hr : NoDigit rest) : (ds ++ rest).takeWhile digit = ds ∧ (ds ++ rest).dropWhile digit = rest := by
  rw [List.takeWhile_append_of_pos h, List.dropWhile_append_of_pos h]
  cases rest with
  | nil => simp
  | cons c t =>
    have := hr c t rfl
    rw [List.takeWhile_cons_of_neg (by simp [this]), List.dropWhile_cons_of_neg (by simp [this])]
    simp
theorem digit_ne45 {c : UInt8} (h : digit c = true) : c ≠ 45 := fun e => by rw [e] at h; revert h; decide
theorem sgn_of {c : UInt8} (t : Bs) (h : c ≠ 45) : sgn (c :: t) = c :: t ∧ negB (c :: t) = false := by
  constructor
  · unfold sgn; split
    · rename_i he; cases he; exact absurd rfl h
    · rfl
  · unfold negB; split
    · rename_i he; cases he; exact absurd rfl h
    · rfl
theorem num_reads {n : Int} {rest : Bs} (h : numOK n) (hr : NoDigit rest) : numE (Lib.itoa n ++ rest) = 0 ∧ numV (Lib.itoa n ++ rest) = n ∧ numR (Lib.itoa n ++ rest) = rest := by
  obtain ⟨h1, h2⟩ := h
  by_cases hn : n < 0
  · obtain ⟨c, t, hd, hc⟩ := dec_head n.natAbs
    have hl := dec_length (u := n.natAbs) (by omega)
    have hs := span_digits (dec_digits n.natAbs) hr
    have e0 : Lib.itoa n ++ rest = 45 :: (Lib.decDigits n.natAbs ++ rest) := by unfold Lib.itoa; rw [if_pos hn]; rfl
    have e1 : sgn (Lib.itoa n ++ rest) = Lib.decDigits n.natAbs ++ rest := by rw [e0]; rfl
    have e2 : negB (Lib.itoa n ++ rest) = true := by rw [e0]; rfl
    have e3 : digs (Lib.itoa n ++ rest) = Lib.decDigits n.natAbs := by unfold digs; rw [e1, hs.1]
    refine ⟨?_, ?_, ?_⟩
    · unfold numE
      rw [e3, hd]
      rw [hd] at hl
      have : c ≠ 48 := fun h0 => by have := (hc h0).1; omega
      simp only [this, false_and, if_false]
      rw [if_neg (by omega)]
    · unfold numV decV
      rw [e2, e3, dec_value]
      simp
      omega
    · unfold numR; rw [e1, hs.2]
  · obtain ⟨c, t, hd, hc⟩ := dec_head n.toNat
    have hl := dec_length (u := n.toNat) (by omega)
    have hs := span_digits (dec_digits n.toNat) hr
    have hdc := dec_digits n.toNat c (by rw [hd]; exact List.mem_cons_self ..)
    have e0 : Lib.itoa n ++ rest = c :: (t ++ rest) := by unfold Lib.itoa; rw [if_neg hn, hd]; rfl
    have e1 : sgn (Lib.itoa n ++ rest) = Lib.decDigits n.toNat ++ rest := by rw [e0, (sgn_of _ (digit_ne45 hdc)).1, hd]; rfl
    have e2 : negB (Lib.itoa n ++ rest) = false := by rw [e0, (sgn_of _ (digit_ne45 hdc)).2]
    have e3 : digs (Lib.itoa n ++ rest) = Lib.decDigits n.toNat := by unfold digs; rw [e1, hs.1]
    refine ⟨?_, ?_, ?_⟩
    · unfold numE
      rw [e3, hd]
      rw [hd] at hl
      dsimp only
      rw [if_neg, if_neg (by omega)]
      rintro ⟨h0, h9⟩
      rw [e2] at h9
      rcases h9 with h9 | h9
      · exact h9 (hc h0).2
      · cases h9
    · unfold numV decV
      rw [e2, e3, dec_value]
      simp
      omega
    · unfold numR; rw [e1, hs.2]
theorem textP_other {c : UInt8} (r : Bs) (h1 : c ≠ 34) (h2 : c ≠ 92) : textP (c :: r) = if c < 32 ∨ 126 < c then none else (textP r).map fun x => (c :: x.1, x.2) := by
  rw [textP]
  · intro h; exact h1 h
  · intro h; exact absurd h h2
  · intro d r' h; exact absurd h h2
theorem stand_cases {c : UInt8} (h : stand c = true) : c = 10 ∨ c = 9 ∨ (¬ (c < 32 ∨ 126 < c)) := by
  unfold stand at h
  simp only [Bool.or_eq_true, Bool.and_eq_true, decide_eq_true_eq, beq_iff_eq] at h
  rcases h with (h | h) | h
  · refine .inr (.inr fun h9 => ?_)
    rcases h9 with h9 | h9
    · exact absurd h9 (UInt8.not_lt.2 h.1)
    · exact absurd h9 (UInt8.not_lt.2 h.2)
  · exact .inl h
  · exact .inr (.inl h)
theorem quote_reads : ∀ (s rest : Bs), s.all stand = true → textP (s.flatMap escB ++ 34 :: rest) = some (s, rest)
  | [], rest, _ => rfl
  | c :: s, rest, h => by
    rw [List.all_cons, Bool.and_eq_true] at h
    have ih := quote_reads s rest h.2
    rw [List.flatMap_cons, List.append_assoc]
    by_cases h1 : c = 34 ∨ c = 92
    · have : escB c = [92, c] := by unfold escB; rw [if_pos h1]
      rw [this]
      show textP (92 :: c :: (s.flatMap escB ++ 34 :: rest)) = _
      rw [textP]
      have : escV c = some c := by unfold escV; rw [if_pos h1]
      rw [this]
      simp only [ih, Option.map_some]
    · by_cases h2 : c = 10
      · subst h2
        show textP (92 :: 110 :: (s.flatMap escB ++ 34 :: rest)) = _
        rw [textP]
        show (textP _).map _ = _
        rw [ih]; rfl
      · by_cases h3 : c = 9
        · subst h3
          show textP (92 :: 116 :: (s.flatMap escB ++ 34 :: rest)) = _
          rw [textP]
          show (textP _).map _ = _
          rw [ih]; rfl
        · have : escB c = [c] := by unfold escB; rw [if_neg h1, if_neg h2, if_neg h3]
          rw [this]
          show textP (c :: (s.flatMap escB ++ 34 :: rest)) = _
          have h4 : ¬ (c < 32 ∨ 126 < c) := by
            rcases stand_cases h.1 with h5 | h5 | h5
            · exact absurd h5 h2
            · exact absurd h5 h3
            · exact h5
          rw [textP_other _ (fun h => h1 (.inl h)) (fun h => h1 (.inr h)), if_neg h4, ih]
          rfl
def EndOK (v : JV) (rest : Bs) : Prop := match v with
  | .num _ => NoDigit rest
  | _ => True
theorem endOK_of {c : UInt8} (v : JV) (t : Bs) (h : digit c = false) : EndOK v (c :: t) := by
  unfold EndOK
  split
  · intro c' t' h'; cases h'; exact h
  · trivial
theorem digit_starts {c : UInt8} (h : digit c = true) : starts c = true ∧ blank c = false ∧ c ≠ 93 ∧ c ≠ 91 ∧ c ≠ 123 ∧ c ≠ 34 ∧ c ≠ 116 ∧ c ≠ 102 ∧ c ≠ 110 := by
  have : ∀ c : UInt8, digit c = true → starts c = true ∧ blank c = false ∧ c ≠ 93 ∧ c ≠ 91 ∧ c ≠ 123 ∧ c ≠ 34 ∧ c ≠ 116 ∧ c ≠ 102 ∧ c ≠ 110 := by
    intro c h
    refine ⟨by simp [starts, h], ?_, ?_, ?_, ?_, ?_, ?_, ?_, ?_⟩
    · unfold digit at h
      simp only [Bool.and_eq_true, decide_eq_true_eq] at h
      unfold blank
      simp only [Bool.or_eq_false_iff, beq_eq_false_iff_ne]
      refine ⟨⟨?_, ?_⟩, ?_⟩ <;> (intro e; subst e; revert h; decide)
    all_goals (intro e; subst e; revert h; decide)
  exact this c h
theorem num_head (n : Int) : ∃ c t, Lib.itoa n = c :: t ∧ (c = 45 ∨ digit c = true) := by
  unfold Lib.itoa
  split
  · exact ⟨45, _, rfl, .inl rfl⟩
  · obtain ⟨c, t, hd, _⟩ := dec_head n.toNat
    exact ⟨c, t, hd, .inr (dec_digits n.toNat c (by rw [hd]; exact List.mem_cons_self ..))⟩
theorem text_head (v : JV) : ∃ c t, text v = c :: t ∧ starts c = true ∧ blank c = false ∧ c ≠ 93 := by
  cases v with
  | nul => exact ⟨110, _, rfl, by decide, by decide, by decide⟩
  | bool b => cases b with
    | true => exact ⟨116, _, rfl, by decide, by decide, by decide⟩
    | false => exact ⟨102, _, rfl, by decide, by decide, by decide⟩
  | num n =>
    obtain ⟨c, t, h, hc⟩ := num_head n
    refine ⟨c, t, h, ?_⟩
    rcases hc with rfl | hc
    · exact ⟨by decide, by decide, by decide⟩
    · have := digit_starts hc; exact ⟨this.1, this.2.1, this.2.2.1⟩
  | str s => exact ⟨34, _, rfl, by decide, by decide, by decide⟩
  | list l => exact ⟨91, _, by rw [text], by decide, by decide, by decide⟩
  | obj l => exact ⟨123, _, by rw [text], by decide, by decide, by decide⟩
theorem size_pos (v : JV) : 1 ≤ size v := by cases v <;> simp [size]
theorem begin_at {c : UInt8} (t : Bs) (m : Nat) (st : List Fr) (h : blank c = false) : beginP (c :: t) m st = beginC c t m st := by
  unfold beginP
  rw [skip_of t h]
theorem begin_plain {c : UInt8} {t : Bs} {m : Nat} {st : List Fr} (h : starts c = true) (hm : m + 1 ≤ 200) (h1 : c ≠ 91) (h2 : c ≠ 123) : beginC c t m st = plainP c (c :: t) (m + 1) st := by
  unfold beginC
  rw [if_neg (by simp [h]), if_neg (by omega), if_neg (by simp [h1, h2]), if_neg h1, if_neg h2]
theorem word_reads (v : JV) (p rest : Bs) (m : Nat) (st : List Fr) : wordP v p (p ++ rest) m st = .whole v rest m st := by
  unfold wordP
  rw [if_pos (List.isPrefixOf_iff_prefix.2 (List.prefix_append _ _)), List.drop_left]
theorem put_end {n : Bs} {v : JV} : ∀ {d : List (Bs × JV)}, (∀ x ∈ d, x.1 < n) → put n v d = d ++ [(n, v)]
  | [], _ => rfl
  | (m, x) :: r, h => by
    have := h (m, x) (List.mem_cons_self ..)
    unfold put
    rw [if_pos this, put_end fun y hy => h y (List.mem_cons_of_mem _ hy)]
    rfl
theorem bs_irrefl (n : Bs) : ¬ n < n := List.lt_irrefl n
theorem get_none {n : Bs} : ∀ {d : List (Bs × JV)}, (∀ x ∈ d, x.1 ≠ n) → get n d = none
  | [], _ => rfl
  | (m, x) :: r, h => by
    unfold get
    rw [if_neg (h (m, x) (List.mem_cons_self ..)), get_none fun y hy => h y (List.mem_cons_of_mem _ hy)]
theorem reads : (∀ v, wf v → ∀ (rest : Bs) (m : Nat) (st : List Fr), m + size v ≤ 200 → deep v + st.length ≤ 10 → EndOK v rest → fin (.more (text v ++ rest) m st) = fin (.whole v rest (m + size v) st)) ∧
    (∀ l, wfL l → l ≠ [] → ∀ (d : List JV) (rest : Bs) (m : Nat) (st : List Fr), m + sizeL l ≤ 200 → deepL l + st.length + 1 ≤ 10 → fin (.more (Lib.join (textL l) [44] ++ 93 :: rest) m (.lst d :: st)) = fin (.whole (.list (d ++ l)) rest (m + sizeL l) st)) ∧
    (∀ l, wfF l → l ≠ [] → ∀ (d : List (Bs × JV)) (rest : Bs) (m : Nat) (st : List Fr), Srt (d ++ l) → m + sizeF l ≤ 200 → deepF l + st.length + 1 ≤ 10 → fin (fieldP (Lib.join (textF l) [44] ++ 125 :: rest) m d st) = fin (.whole (.obj (d ++ l)) rest (m + sizeF l) st)) := by
  refine JV.both ?_ ?_ ?_ ?_ ?_ ?_ ?_ ?_ ?_ ?_
  · intro _ rest m st hm _ _
    rw [fin_more]
    show fin (beginP (110 :: ([117, 108, 108] ++ rest)) m st) = _
    simp only [size] at hm ⊢
    rw [begin_at _ _ _ (by decide), begin_plain (by decide) hm (by decide) (by decide)]
    show fin (wordP .nul [110, 117, 108, 108] ([110, 117, 108, 108] ++ rest) (m + 1) st) = _
    rw [word_reads]
  · intro b _ rest m st hm _ _
    rw [fin_more]
    simp only [size] at hm ⊢
    cases b with
    | true =>
      show fin (beginP (116 :: ([114, 117, 101] ++ rest)) m st) = _
      rw [begin_at _ _ _ (by decide), begin_plain (by decide) hm (by decide) (by decide)]
      show fin (wordP (.bool true) [116, 114, 117, 101] ([116, 114, 117, 101] ++ rest) (m + 1) st) = _
      rw [word_reads]
    | false =>
      show fin (beginP (102 :: ([97, 108, 115, 101] ++ rest)) m st) = _
      rw [begin_at _ _ _ (by decide), begin_plain (by decide) hm (by decide) (by decide)]
      show fin (wordP (.bool false) [102, 97, 108, 115, 101] ([102, 97, 108, 115, 101] ++ rest) (m + 1) st) = _
      rw [word_reads]
  · intro n hn rest m st hm _ he
    simp only [size] at hm ⊢
    rw [fin_more]
    show fin (beginP (Lib.itoa n ++ rest) m st) = _
    obtain ⟨e1, e2, e3⟩ := num_reads (by simpa only [wf] using hn) he
    obtain ⟨c, t, hc, hd⟩ := num_head n
    have hb : starts c = true ∧ blank c = false ∧ c ≠ 91 ∧ c ≠ 123 ∧ c ≠ 34 ∧ c ≠ 116 ∧ c ≠ 102 ∧ c ≠ 110 := by
      rcases hd with rfl | hd
      · decide
      · have := digit_starts hd
        exact ⟨this.1, this.2.1, this.2.2.2.1, this.2.2.2.2.1, this.2.2.2.2.2.1, this.2.2.2.2.2.2.1, this.2.2.2.2.2.2.2.1, this.2.2.2.2.2.2.2.2⟩
    obtain ⟨b1, b2, b3, b4, b5, b6, b7, b8⟩ := hb
    rw [hc] at e1 e2 e3 ⊢
    rw [show c :: t ++ rest = c :: (t ++ rest) from rfl] at e1 e2 e3 ⊢
    rw [begin_at _ _ _ b2, begin_plain b1 hm b3 b4]
    unfold plainP
    rw [if_neg b5, if_neg b6, if_neg b7, if_neg b8, if_pos e1, e2, e3]
  · intro s hs rest m st hm _ _
    simp only [size] at hm ⊢
    rw [fin_more]
    have : text (.str s) ++ rest = 34 :: (s.flatMap escB ++ 34 :: rest) := by rw [text]; unfold quote; simp
    rw [this, begin_at _ _ _ (by decide), begin_plain (by decide) hm (by decide) (by decide)]
    unfold plainP
    rw [if_pos rfl, List.tail_cons, quote_reads s rest (by simpa only [wf] using hs)]
  · intro l ih hw rest m st hm hd _
    simp only [wf] at hw
    simp only [size] at hm ⊢
    simp only [deep] at hd
    rw [fin_more]
    have e0 : text (.list l) ++ rest = 91 :: (Lib.join (textL l) [44] ++ 93 :: rest) := by rw [text]; simp
    rw [e0, begin_at _ _ _ (by decide)]
    unfold beginC
    rw [if_neg (by decide), if_neg (by omega), if_neg (by rintro ⟨_, h⟩; omega), if_pos rfl]
    cases l with
    | nil =>
      have e1 : skip (Lib.join (textL []) [44] ++ 93 :: rest) = 93 :: rest := skip_of _ (by decide)
      rw [e1, List.head?_cons, if_pos rfl]
      rfl
    | cons v r =>
      have hh : ∃ c t, Lib.join (textL (v :: r)) [44] ++ 93 :: rest = c :: t ∧ blank c = false ∧ c ≠ 93 := by
        obtain ⟨c, t, h1, _, h2, h3⟩ := text_head v
        rw [textL]
        cases hr : textL r with
        | nil => rw [joinB_one, h1]; exact ⟨c, _, rfl, h2, h3⟩
        | cons y q => rw [joinB_more, h1]; exact ⟨c, _, rfl, h2, h3⟩
      obtain ⟨c, t, h1, h2, h3⟩ := hh
      have := ih hw (by simp) [] rest (m + 1) st (by omega) (by omega)
      rw [h1] at this ⊢
      rw [skip_of _ h2, if_neg (by simpa using h3), this, Nat.add_assoc]
      rfl
  · intro l ih hw rest m st hm hd _
    simp only [wf] at hw
    simp only [size] at hm ⊢
    simp only [deep] at hd
    rw [fin_more]
    have e0 : text (.obj l) ++ rest = 123 :: (Lib.join (textF l) [44] ++ 125 :: rest) := by rw [text]; simp
    rw [e0, begin_at _ _ _ (by decide)]
    unfold beginC
    rw [if_neg (by decide), if_neg (by omega), if_neg (by rintro ⟨_, h⟩; omega), if_neg (by decide), if_pos rfl]
    cases l with
    | nil =>
      have e1 : skip (Lib.join (textF []) [44] ++ 125 :: rest) = 125 :: rest := skip_of _ (by decide)
      rw [e1, List.head?_cons, if_pos rfl]
      rfl
    | cons x r =>
      obtain ⟨n, v⟩ := x
      have hh : ∃ t, Lib.join (textF ((n, v) :: r)) [44] ++ 125 :: rest = 34 :: t := by
        rw [textF]
        cases hr : textF r with
        | nil => rw [joinB_one]; exact ⟨_, rfl⟩
        | cons y q => rw [joinB_more]; exact ⟨_, rfl⟩
      obtain ⟨t, h1⟩ := hh
      have := ih hw.2 (by simp) [] rest (m + 1) st (by simpa using hw.1) (by omega) (by omega)
      rw [h1] at this ⊢
      rw [skip_of _ (by decide), if_neg (by simp), this, Nat.add_assoc]
      rfl
  · intro _ h; exact absurd rfl h
  · intro v r ihv ihr hw _ d rest m st hm hd
    rw [wfL] at hw
    rw [sizeL] at hm ⊢
    rw [deepL] at hd
    cases r with
    | nil =>
      rw [textL, textL, joinB_one]
      rw [ihv hw.1 (93 :: rest) m (.lst d :: st) (by omega) (by simp only [List.length_cons]; omega) (endOK_of _ _ (by decide)), fin_whole]
      unfold goesP
      dsimp only
      rw [skip_of _ (by decide)]
      dsimp only
      rw [if_pos rfl, sizeL]
      rfl
    | cons x q =>
      have e0 : Lib.join (textL (v :: x :: q)) [44] ++ 93 :: rest = text v ++ (44 :: (Lib.join (textL (x :: q)) [44] ++ 93 :: rest)) := by
        rw [textL, textL, joinB_more]; simp
      rw [e0, ihv hw.1 _ m (.lst d :: st) (by omega) (by simp only [List.length_cons]; omega) (endOK_of _ _ (by decide)), fin_whole]
      unfold goesP
      dsimp only
      rw [skip_of _ (by decide)]
      dsimp only
      rw [if_neg (by decide), if_pos rfl]
      rw [ihr hw.2 (by simp) (d ++ [v]) rest (m + size v) st (by omega) (by omega), Nat.add_assoc]
      simp
  · intro _ h; exact absurd rfl h
  · intro n v r ihv ihr hw _ d rest m st hs hm hd
    rw [wfF] at hw
    rw [sizeF] at hm ⊢
    rw [deepF] at hd
    have hlt : ∀ x ∈ d, x.1 < n := fun x hx => (List.pairwise_append.1 hs).2.2 x hx (n, v) (List.mem_cons_self ..)
    have hg : get n d = none := get_none fun x hx e => bs_irrefl n (by have := hlt x hx; rwa [e] at this)
    have step : ∀ tail : Bs, (∃ c t, tail = c :: t ∧ digit c = false) → fin (fieldP (quote n ++ 58 :: (text v ++ tail)) m d st) = fin (.whole v tail (m + size v) (.ob d n :: st)) := by
      rintro tail ⟨c, t, rfl, hc⟩
      have e1 : quote n ++ 58 :: (text v ++ c :: t) = 34 :: (n.flatMap escB ++ 34 :: 58 :: (text v ++ c :: t)) := by unfold quote; simp
      rw [e1]
      unfold fieldP
      rw [skip_of _ (by decide)]
      dsimp only
      rw [if_pos rfl, quote_reads n _ hw.1]
      dsimp only
      unfold fieldN
      rw [hg, if_neg (by simp), skip_of _ (by decide)]
      dsimp only
      rw [if_pos rfl]
      exact ihv hw.2.1 _ m _ (by omega) (by simp only [List.length_cons]; omega) (endOK_of _ _ hc)
    cases r with
    | nil =>
      have e0 : Lib.join (textF [(n, v)]) [44] ++ 125 :: rest = quote n ++ 58 :: (text v ++ 125 :: rest) := by
        rw [textF, textF, joinB_one]; simp
      rw [e0, step _ ⟨125, rest, rfl, by decide⟩, fin_whole]
      unfold goesP
      dsimp only
      rw [skip_of _ (by decide)]
      dsimp only
      rw [if_pos rfl, put_end hlt, sizeF]
      rfl
    | cons x q =>
      obtain ⟨k, u⟩ := x
      have e0 : Lib.join (textF ((n, v) :: (k, u) :: q)) [44] ++ 125 :: rest = quote n ++ 58 :: (text v ++ (44 :: (Lib.join (textF ((k, u) :: q)) [44] ++ 125 :: rest))) := by
        rw [textF, textF, joinB_more]; simp
      rw [e0, step _ ⟨44, _, rfl, by decide⟩, fin_whole]
      unfold goesP
      dsimp only
      rw [skip_of _ (by decide)]
      dsimp only
      rw [if_neg (by decide), if_pos rfl, put_end hlt]
      rw [ihr hw.2.2 (by simp) (d ++ [(n, v)]) rest (m + size v) st (by simpa using hs) (by omega) (by omega), Nat.add_assoc]
      simp
theorem read_text {v : JV} (h : wf v) (hs : size v ≤ 200) (hd : deep v ≤ 10) (hl : (text v).length ≤ 2000) : readL (text v) = (v, 0) := by
  unfold readL
  rw [if_neg (by omega)]
  have := reads.1 v h [] 0 [] (by omega) (by simpa using hd) (by
    unfold EndOK
    split
    · intro c t he; cases he
    · trivial)
  rw [List.append_nil] at this
  rw [this, fin_end, skip_nil, if_pos rfl]
end JP
end Go.Proofs.YtnnceaapodgfbaaGreatDoor
