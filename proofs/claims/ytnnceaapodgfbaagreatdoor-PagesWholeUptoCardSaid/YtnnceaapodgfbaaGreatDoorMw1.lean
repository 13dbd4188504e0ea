/- Texts of ours joined. -/
import Derived.WalkKit
import Derived.Deep.AppendLies
import Derived.Laws.BytesArg
import Derived.Lib.LaidTab
import Derived.Test.YtnnceaapodgfbaaGreatDoorShelf
import Derived.Stop.LaidErr
import Derived.Deep.DeepHandedRow
import Derived.Laws.AppendOwn
import Derived.Laws.AppendOwnNone
import Derived.Deep.Strs
import Derived.Lib.Hide
import Derived.Test.YtnnceaapodgfbaaGreatDoorRows
import Derived.Test.YtnnceaapodgfbaaGreatDoorChecked
import Derived.KernelRfl
import Derived.ArgAppend
import Derived.Maps.AppendAt
import Derived.Deep.Upon
import Derived.Laws.OwnMore
import Derived.Lib.Replace
import Derived.Lib.CountLaws
import Derived.Lib.SplitLaws
import Derived.Lib.Split
import Derived.Lib.Join
import Derived.Lib.ItoaNum
import Derived.Lib.Atoi
import Derived.StillTail
import Derived.StillTactics
import Derived.Deep.RegionHeld3
import Derived.Laws.Tables
import Derived.Laws.Rows
import Derived.Lib.ParseIntBCases
import Derived.Lib.AtoiAllCases
import Derived.Lib.AtoiErrMem
set_option linter.unusedVariables false
set_option linter.unusedSimpArgs false
namespace Go.Proofs.YtnnceaapodgfbaaGreatDoor
open Go.RowKit
def byteCells (l : List UInt8) : List Value := l.map fun b => Value.int .u8 (b.toNat : Int)
theorem byteCells_length (l : List UInt8) : (byteCells l).length = l.length := by simp [byteCells]
theorem run_convert_own {P : Program} (w : World) (src dst e : TypeId) (hs : P.underlying src = some (.slice e)) (he : P.underlying e = some (.int .u8)) (hd : P.underlying dst = some .string)
    {base : Nat} {e' : TypeId} {v : Value} {n : Nat} {l : List UInt8} (h : w.ownsRow base e' 1 v n (byteCells l)) :
    (convert src dst v).run P w = .ok (.string ⟨l.toArray⟩) w := by
  have hn : n = l.length := by have := h.1; simp [byteCells_length] at this; omega
  subst hn
  rcases Nat.eq_zero_or_pos l.length with h0 | h0
  · have hl : l = [] := List.eq_nil_of_length_eq_zero h0
    subst hl
    rcases h.2 with ⟨rfl, _⟩ | ⟨g, cap, cur, rfl, _⟩
    · rw [run_convert_bytes_nil w src e hs he _ _ dst hd]; rfl
    · rw [show (([] : List UInt8).length) = (([] : List UInt8).length) from rfl]
      exact run_convert_bytes_back w src dst e _ cap [] hs he hd (fun j hj => absurd hj (by simp))
  · obtain ⟨g, cap, hv, _, hlt⟩ := h.form h0
    subst hv
    refine run_convert_bytes_back w src dst e _ cap l hs he hd (fun j hj => ?_)
    exact h.cells (g := g) rfl j _ (by simp [byteCells, hj])
theorem take_snoc (s : ByteArray) (k : Nat) (h : k < s.size) : s.data.toList.take (k + 1) = s.data.toList.take k ++ [s[k]] := by
  rw [List.take_succ_eq_append_getElem (by simpa using h)]; rfl
theorem run_callFunc_body {P : Program} {f : FuncId} {fn : Func} (hf : P.funcs[f]? = some fn) (hname : (fn.name == "runtime.NumGoroutine") = false) (hb : fn.body.isNone = false) (args : Array Value) (w : World) :
    (callFunc f args).run P w = .ok (.enter f args) w := by
  have h1 : fn.name ≠ "runtime.NumGoroutine" := by simpa using hname
  have h2 : ¬ fn.body = none := fun e => by rw [e] at hb; cases hb
  simp [callFunc, hf, h1, h2]
theorem heap_alloc_at {w : World} {o : Obj} {n : Nat} (h : n = w.heap.size) : (w.alloc o).heap[n]? = some o := by subst h; exact heap_alloc_new w o
theorem heap_alloc_old {w : World} {o x : Obj} {n : Nat} (h : w.heap[n]? = some x) : (w.alloc o).heap[n]? = some x := by
  have hn : n < w.heap.size := by
    rcases Nat.lt_or_ge n w.heap.size with h1 | h1
    · exact h1
    · rw [Array.getElem?_eq_none h1] at h; cases h
  exact (Below.heap_alloc w o n hn).trans h
theorem cell_block {w : World} {g : Nat} {cs : Array Value} {t : TypeId} {fr : Nat × Nat} (h : w.heap[g]? = some (.cells cs t fr)) (i : Nat) : w.cell? ⟨g, i, none⟩ = cs[i]? := by simp [World.cell?, h]
theorem free_block {w : World} {g : Nat} {cs : Array Value} {t : TypeId} (h : w.heap[g]? = some (.cells cs t (0, 0))) (i : Nat) : w.frozen? ⟨g, i, none⟩ = false := by simp [World.frozen?, h]
end Go.Proofs.YtnnceaapodgfbaaGreatDoor
namespace Go.Proofs.YtnnceaapodgfbaaGreatDoor
open Go.RowKit
theorem var_keep {P : Program} {w w' : World} {n : String} {k : IntKind} {zs : List Int} (h : Lib.TabIs P w n k zs) (hb : Below w.heap.size w w') : Lib.TabIs P w' n k zs := by
  unfold Lib.TabIs World.var? at h ⊢
  cases hg : P.globalNamed n with
  | none => rw [hg] at h; cases h
  | some g =>
    rw [hg] at h
    simp only [Option.bind_some] at h ⊢
    have hlt : g < w.heap.size := by
      rcases Nat.lt_or_ge g w.heap.size with h1 | h1
      · exact h1
      · rw [Array.getElem?_eq_none h1] at h; cases h
    rw [hb.block g hlt]
    exact h
def TabOK (w : World) : Prop := Lib.TabIs Tryz.prog w "internal/strconv.uint64pow10" .u64 Lib.pow10Tab
theorem TabOK.below {w w' : World} (h : TabOK w) (hb : Below w.heap.size w w') : TabOK w' := var_keep h hb
end Go.Proofs.YtnnceaapodgfbaaGreatDoor
namespace Go.Proofs.YtnnceaapodgfbaaGreatDoor
open Go.RowKit
def ErrOK (w : World) : Prop := ∃ tp p tp' p', w.var? Tryz.prog "strconv.ErrSyntax" = some #[.iface tp p] ∧ w.var? Tryz.prog "strconv.ErrRange" = some #[.iface tp' p']
theorem var_below {P : Program} {w w' : World} {n : String} {cs : Array Value} (h : w.var? P n = some cs) (hb : Below w.heap.size w w') : w'.var? P n = some cs := by
  unfold World.var? at h ⊢
  cases hg : P.globalNamed n with
  | none => rw [hg] at h; cases h
  | some g =>
    rw [hg] at h
    simp only [Option.bind_some] at h ⊢
    have hlt : g < w.heap.size := by
      rcases Nat.lt_or_ge g w.heap.size with h1 | h1
      · exact h1
      · rw [Array.getElem?_eq_none h1] at h; cases h
    rw [hb.block g hlt]
    exact h
theorem ErrOK.below {w w' : World} (h : ErrOK w) (hb : Below w.heap.size w w') : ErrOK w' := by
  obtain ⟨tp, p, tp', p', h1, h2⟩ := h
  exact ⟨tp, p, tp', p', var_below h1 hb, var_below h2 hb⟩
end Go.Proofs.YtnnceaapodgfbaaGreatDoor
namespace Go.Proofs.YtnnceaapodgfbaaGreatDoor
open Go.RowKit Go.ChangeShapes Go.WideShapes Go.ChangeAt
theorem laid_tail {P : Program} {W : World} {x : String × DataW Unit} {r : List (String × DataW Unit)} (h : laidMet P (x :: r) W) : laidMet P r W := by
  obtain ⟨ps, ⟨g, t, cs, fuel, p, q, _, _, _, _, hq, rfl⟩, hnd, hall⟩ := h
  exact ⟨q, hq, (List.nodup_append.1 hnd).2.1, fun b off hb => hall b off (List.mem_append_right _ hb)⟩
noncomputable def tabG : Nat := (Tryz.prog.globalNamed "internal/strconv.uint64pow10").getD 0
noncomputable def tabT : TypeId := ((Tryz.prog.globals[tabG]?).map (·.type)).getD 0
noncomputable def tabE : TypeId := match Tryz.prog.underlying tabT with | some (.array _ e) => e | _ => 0
noncomputable def tabN : Nat := match Tryz.prog.underlying tabT with | some (.array n _) => n | _ => 0
theorem gTab1 : Tryz.prog.globalNamed "internal/strconv.uint64pow10" = some tabG := by kernel_rfl
theorem gTab2 : (Tryz.prog.globals[tabG]?).map (·.type) = some tabT := by kernel_rfl
theorem gTab3 : Tryz.prog.underlying tabT = some (.array tabN tabE) := by kernel_rfl
theorem gTab4 : Tryz.prog.underlying tabE = some (.int .u64) := by kernel_rfl
theorem gTab5 : Tryz.prog.cellsOf tabE = 1 := by kernel_rfl
theorem gTab6 : Tryz.prog.cellsOf tabT = tabN := by kernel_rfl
theorem tab_of {W : World} {x1 x2 : String × DataW Unit} {r : List (String × DataW Unit)} {d : DataW Unit} (hd : d = Lib.tabData .u64 Lib.pow10Tab) (h : laidMet Tryz.prog (x1 :: x2 :: ("internal/strconv.uint64pow10", d) :: r) W) : TabOK W := by
  subst hd
  exact Lib.tabIs_of_head gTab1 gTab2 gTab3 gTab4 gTab5 gTab6 (laid_tail (laid_tail h))
end Go.Proofs.YtnnceaapodgfbaaGreatDoor
namespace Go.Proofs.YtnnceaapodgfbaaGreatDoor
open Go.RowKit
def strs (l : List ByteArray) : List Value := l.map Value.string
theorem strs_get {l : List ByteArray} {j : Nat} {x : ByteArray} (h : l[j]? = some x) : (strs l)[j]? = some (.string x) := by simp [strs, h]
def StrAt (w : World) (v : Value) (l : List ByteArray) : Prop :=
  (v = .slice none 0 0 ∧ l = []) ∨ ∃ a c, v = .slice (some a) l.length c ∧ l.length ≤ c ∧ c ≤ maxLen ∧ ∀ j x, l[j]? = some x → w.cell? (a.add j) = some (.string x)
section
variable {w w' : World} {v : Value} {l : List ByteArray}
theorem StrAt.nil (w : World) : StrAt w (.slice none 0 0) [] := .inl ⟨rfl, rfl⟩
theorem StrAt.len (h : StrAt w v l) : ∃ ao c, v = .slice ao l.length c ∧ l.length ≤ c ∧ c ≤ maxLen := by
  rcases h with ⟨rfl, rfl⟩ | ⟨a, c, rfl, h1, h2, _⟩
  · exact ⟨_, _, rfl, by simp, by simp⟩
  · exact ⟨_, _, rfl, h1, h2⟩
theorem spot_none {a : Addr} {x : Value} (h : w.cell? a = some x) : a = ⟨a.block, a.off, none⟩ := by
  obtain ⟨b, o, s⟩ := a
  cases s with
  | none => rfl
  | some s =>
    unfold World.cell? at h
    simp only at h
    split at h
    · simp at h
    · cases h
theorem add_plain' (b o j : Nat) : (⟨b, o, none⟩ : Addr).add j = ⟨b, o + j, none⟩ := by unfold Addr.add; split <;> simp_all
theorem StrAt.form (h : StrAt w v l) (hl : 0 < l.length) :
    ∃ b o c, v = .slice (some ⟨b, o, none⟩) l.length c ∧ l.length ≤ c ∧ c ≤ maxLen ∧ b < w.heap.size ∧ ∀ j x, l[j]? = some x → w.cell? ⟨b, o + j, none⟩ = some (.string x) := by
  rcases h with ⟨_, rfl⟩ | ⟨a, c, rfl, h1, h2, h3⟩
  · simp at hl
  · have h0 := h3 0 l[0] (by simp [hl])
    rw [show a.add 0 = a from by simp [Addr.add]] at h0
    have ha := spot_none h0
    refine ⟨a.block, a.off, c, by rw [← ha], h1, h2, World.block_lt_of_cell? w _ h0, fun j x hx => ?_⟩
    have h4 := h3 j x hx
    rw [ha, add_plain'] at h4
    exact h4
theorem StrAt.keep (h : StrAt w v l) (hk : ∀ p x, w.cell? p = some x → w'.cell? p = some x) : StrAt w' v l := by
  rcases h with ⟨rfl, rfl⟩ | ⟨a, c, rfl, h1, h2, h3⟩
  · exact .inl ⟨rfl, rfl⟩
  · exact .inr ⟨a, c, rfl, h1, h2, fun j x hx => hk _ _ (h3 j x hx)⟩
theorem StrAt.below (h : StrAt w v l) (hb : Below w.heap.size w w') : StrAt w' v l :=
  h.keep fun p x hp => by rw [← hp]; exact hb.cell (World.block_lt_of_cell? w _ hp)
theorem StrAt.drew (h : StrAt w v l) : StrAt w.drew v l := h
theorem StrAt.cut (h : StrAt w v l) {b o c : Nat} (hv : v = .slice (some ⟨b, o, none⟩) l.length c) {i j : Nat} (hi : i ≤ j) (hj : j ≤ l.length) : StrAt w (.slice (some ⟨b, o + i, none⟩) (j - i) (c - i)) ((l.take j).drop i) := by
  rcases h with ⟨rfl, rfl⟩ | ⟨a, c', h0, h1, h2, h3⟩
  · cases hv
  · rw [h0] at hv
    obtain ⟨rfl, rfl⟩ : a = ⟨b, o, none⟩ ∧ c' = c := by injection hv with e1 e2 e3; exact ⟨by injection e1, e3⟩
    have hlen : ((l.take j).drop i).length = j - i := by simp; omega
    refine .inr ⟨_, _, by rw [hlen], by rw [hlen]; omega, by omega, fun k x hx => ?_⟩
    have hk : k < j - i := by have := (List.getElem?_eq_some_iff.1 hx).1; rwa [hlen] at this
    have := h3 (i + k) x (by rw [List.getElem?_drop, List.getElem?_take_of_lt (by omega)] at hx; exact hx)
    rw [add_plain'] at this ⊢
    rw [← this]
    congr 2
    omega
end
end Go.Proofs.YtnnceaapodgfbaaGreatDoor
namespace Go.Proofs.YtnnceaapodgfbaaGreatDoor
open Go.RowKit Go.ChangeShapes Go.WideShapes
def total (l : List ByteArray) : Nat := (l.map fun s => s.size + 1).sum
theorem total_mem {l : List ByteArray} {x : ByteArray} (h : x ∈ l) : x.size + 1 ≤ total l := by
  induction l with
  | nil => cases h
  | cons y r ih =>
    simp only [total, List.map_cons, List.sum_cons]
    rcases List.mem_cons.1 h with rfl | h
    · omega
    · have := ih h
      simp only [total] at this
      omega
theorem total_length (l : List ByteArray) : l.length ≤ total l := by
  induction l with
  | nil => simp
  | cons y r ih =>
    simp only [total, List.map_cons, List.sum_cons, List.length_cons] at *
    omega
end Go.Proofs.YtnnceaapodgfbaaGreatDoor
namespace Go.Proofs.YtnnceaapodgfbaaGreatDoor
theorem Tryz.infoU8 : (Tryz.prog.info? 5).map (fun i => (i.zero, i.size, i.bytes)) = some (some (.int .u8 0), 1, 1) := by kernel_rfl
theorem Tryz.infoStr : (Tryz.prog.info? 9).map (fun i => (i.zero, i.size, i.bytes)) = some (some (.string ByteArray.empty), 1, 16) := by kernel_rfl
end Go.Proofs.YtnnceaapodgfbaaGreatDoor
namespace Go.Proofs.YtnnceaapodgfbaaGreatDoor
open Go.RowKit Go.ChangeShapes Go.WideShapes
abbrev Rd (α : Type) := World → List Value → α → Prop
abbrev Keeps (w w' : World) : Prop := ∀ p v, w.cell? p = some v → w'.cell? p = some v
def Stays {α : Type} (R : Rd α) : Prop := ∀ w w' cs a, Keeps w w' → R w cs a → R w' cs a
theorem keeps_below {w w' : World} (h : Below w.heap.size w w') : Keeps w w' := fun _ _ hp => (h.cell (World.block_lt_of_cell? w _ hp)).trans hp
def RString : Rd ByteArray := fun _ cs s => cs = [.string s]
def RInt (k : IntKind) : Rd Int := fun _ cs n => cs = [.int k n] ∧ (Lit.int k n).wf = true
def RBool : Rd Bool := fun _ cs b => cs = [.bool b]
def RStrs : Rd (List ByteArray) := fun w cs l => ∃ v, cs = [v] ∧ StrAt w v l
def RowAt {α : Type} (R : Rd α) (k : Nat) (w : World) (v : Value) (l : List α) : Prop :=
  (v = .slice none 0 0 ∧ l = []) ∨ ∃ a c, v = .slice (some a) l.length c ∧ l.length ≤ c ∧ c ≤ maxLen ∧
    ∀ j x, l[j]? = some x → ∃ cs, cs.length = k ∧ (∀ i u, cs[i]? = some u → w.cell? (a.add (j * k + i)) = some u) ∧ R w cs x
def RRow {α : Type} (R : Rd α) (k : Nat) : Rd (List α) := fun w cs l => ∃ v, cs = [v] ∧ RowAt R k w v l
theorem stays_string : Stays RString := fun _ _ _ _ _ h => h
section
variable {α : Type} {R : Rd α} {k : Nat} {w w' : World} {v : Value} {l : List α}
theorem RowAt.keep (hs : Stays R) (h : RowAt R k w v l) (hk : Keeps w w') : RowAt R k w' v l := by
  rcases h with h | ⟨a, c, h1, h2, h3, h4⟩
  · exact .inl h
  · exact .inr ⟨a, c, h1, h2, h3, fun j x hx => by
      obtain ⟨cs, g1, g2, g3⟩ := h4 j x hx
      exact ⟨cs, g1, fun i u hu => hk _ _ (g2 i u hu), hs _ _ _ _ hk g3⟩⟩
theorem RowAt.below (hs : Stays R) (h : RowAt R k w v l) (hb : Below w.heap.size w w') : RowAt R k w' v l := h.keep hs (keeps_below hb)
theorem RowAt.nil (w : World) : RowAt R k w (.slice none 0 0) [] := .inl ⟨rfl, rfl⟩
theorem RowAt.len (h : RowAt R k w v l) : ∃ ao c, v = .slice ao l.length c ∧ l.length ≤ c ∧ c ≤ maxLen := by
  rcases h with ⟨rfl, rfl⟩ | ⟨a, c, rfl, h1, h2, _⟩
  · exact ⟨_, _, rfl, by simp, by simp⟩
  · exact ⟨_, _, rfl, h1, h2⟩
theorem RowAt.form (h : RowAt R k w v l) (hl : 0 < l.length) (hk : 0 < k) :
    ∃ b o c, v = .slice (some ⟨b, o, none⟩) l.length c ∧ l.length ≤ c ∧ c ≤ maxLen ∧ b < w.heap.size ∧
      ∀ j x, l[j]? = some x → ∃ cs, cs.length = k ∧ (∀ i u, cs[i]? = some u → w.cell? ⟨b, o + j * k + i, none⟩ = some u) ∧ R w cs x := by
  rcases h with ⟨_, rfl⟩ | ⟨a, c, rfl, h1, h2, h3⟩
  · simp at hl
  · obtain ⟨cs, g1, g2, _⟩ := h3 0 l[0] (by simp [hl])
    have h0 := g2 0 cs[0] (by simp)
    rw [show a.add (0 * k + 0) = a from by simp [Addr.add]] at h0
    have ha := spot_none h0
    refine ⟨a.block, a.off, c, by rw [← ha], h1, h2, World.block_lt_of_cell? w _ h0, fun j x hx => ?_⟩
    obtain ⟨cs, g1, g2, g3⟩ := h3 j x hx
    refine ⟨cs, g1, fun i u hu => ?_, g3⟩
    have h4 := g2 i u hu
    rw [ha, add_plain', ← Nat.add_assoc] at h4
    exact h4
theorem RowAt.cut (h : RowAt R k w v l) {b o c : Nat} (hv : v = .slice (some ⟨b, o, none⟩) l.length c) {i j : Nat} (hi : i ≤ j) (hj : j ≤ l.length) :
    RowAt R k w (.slice (some ⟨b, o + i * k, none⟩) (j - i) (c - i)) ((l.take j).drop i) := by
  rcases h with ⟨rfl, rfl⟩ | ⟨a, c', h0, h1, h2, h3⟩
  · cases hv
  · rw [h0] at hv
    obtain ⟨rfl, rfl⟩ : a = ⟨b, o, none⟩ ∧ c' = c := by injection hv with e1 e2 e3; exact ⟨by injection e1, e3⟩
    have hlen : ((l.take j).drop i).length = j - i := by simp; omega
    refine .inr ⟨_, _, by rw [hlen], by rw [hlen]; omega, by omega, fun m x hx => ?_⟩
    have hm : m < j - i := by have := (List.getElem?_eq_some_iff.1 hx).1; rwa [hlen] at this
    obtain ⟨cs, g1, g2, g3⟩ := h3 (i + m) x (by rw [List.getElem?_drop, List.getElem?_take_of_lt (by omega)] at hx; exact hx)
    refine ⟨cs, g1, fun q u hu => ?_, g3⟩
    have := g2 q u hu
    rw [add_plain'] at this ⊢
    rw [← this]
    congr 2
    rw [Nat.add_mul]
    omega
end
theorem RowAt.strs {w : World} {v : Value} {l : List ByteArray} (h : RowAt RString 1 w v l) : StrAt w v l := by
  rcases h with ⟨rfl, rfl⟩ | ⟨a, c, rfl, h1, h2, h3⟩
  · exact .inl ⟨rfl, rfl⟩
  · refine .inr ⟨a, c, rfl, h1, h2, fun j x hx => ?_⟩
    obtain ⟨cs, _, g2, rfl⟩ := h3 j x hx
    simpa using g2 0 _ rfl
theorem StrAt.row {w : World} {v : Value} {l : List ByteArray} (h : StrAt w v l) : RowAt RString 1 w v l := by
  rcases h with ⟨rfl, rfl⟩ | ⟨a, c, rfl, h1, h2, h3⟩
  · exact .inl ⟨rfl, rfl⟩
  · refine .inr ⟨a, c, rfl, h1, h2, fun j x hx => ⟨[.string x], rfl, fun i u hu => ?_, rfl⟩⟩
    match i, hu with
    | 0, hu => simp only [List.getElem?_cons_zero, Option.some.injEq] at hu; subst hu; simpa using h3 j x hx
def Opens (P : Program) (t : TypeId) {α : Type} (R : Rd α) (μ : α → Nat) : Prop :=
  ∀ (H : Type) (enc : TypeId × Value → H) (w : World) (base : Nat) (spare : Nat → Bool) (held : Bool) (fuel : Nat) (cs : List Value) (x : DataW H × List MemPlace),
    DataW.trod enc P w base spare held fuel t cs = some x → ∃ a, R w cs a ∧ μ a ≤ Rows.uptoBulk x.1
section
variable {P : Program} {t e : TypeId}
theorem opens_string (ht : P.underlying t = some .string) : Opens P t RString (fun s => s.size + 1) := fun _ _ _ _ _ _ _ _ _ h => by
  obtain ⟨s, rfl, rfl, _⟩ := DataW.trod_string ht h
  exact ⟨s, rfl, by simp [Rows.uptoBulk]⟩
theorem opens_int {k : IntKind} (ht : P.underlying t = some (.int k)) : Opens P t (RInt k) (fun _ => 1) := fun _ _ _ _ _ _ _ _ _ h => by
  obtain ⟨n, rfl, rfl, hw⟩ := DataW.trod_int ht h
  exact ⟨n, ⟨rfl, hw⟩, by simp [Rows.uptoBulk]⟩
theorem opens_bool (ht : P.underlying t = some .bool) : Opens P t RBool (fun _ => 1) := fun _ _ _ _ _ _ _ _ _ h => by
  obtain ⟨b, rfl, rfl⟩ := DataW.trod_bool ht h
  exact ⟨b, rfl, by simp [Rows.uptoBulk]⟩
theorem uptoBulkAll_append {H : Type} (l m : List (DataW H)) : Rows.uptoBulkAll (l ++ m) = Rows.uptoBulkAll l + Rows.uptoBulkAll m := by
  induction l with
  | nil => simp [Rows.uptoBulkAll]
  | cons d r ih => simp only [List.cons_append, Rows.uptoBulkAll, ih]; omega
theorem list_of_each {α : Type} {H : Type} (Q : Nat → α → Prop) (μ : α → Nat) (D : Nat → DataW H) : ∀ n : Nat, (∀ i, i < n → ∃ a, Q i a ∧ μ a ≤ Rows.uptoBulk (D i)) →
    ∃ l : List α, l.length = n ∧ (∀ i x, l[i]? = some x → Q i x) ∧ (l.map μ).sum ≤ Rows.uptoBulkAll ((List.range n).map D)
  | 0, _ => ⟨[], rfl, fun i x h => by simp at h, by simp⟩
  | n + 1, h => by
    obtain ⟨l, h1, h2, h3⟩ := list_of_each Q μ D n fun i hi => h i (by omega)
    obtain ⟨a, ha, hm⟩ := h n (by omega)
    refine ⟨l ++ [a], by simp [h1], fun i x hx => ?_, ?_⟩
    · by_cases hi : i < n
      · rw [List.getElem?_append_left (by omega)] at hx
        exact h2 i x hx
      · have : i = n := by have := (List.getElem?_eq_some_iff.1 hx).1; simp [h1] at this; omega
        subst this
        rw [List.getElem?_append_right (by omega), h1] at hx
        simp at hx
        subst hx
        exact ha
    · rw [List.range_succ, List.map_append (l₁ := List.range n), uptoBulkAll_append, List.map_append, List.sum_append]
      simp only [List.map_cons, List.map_nil, List.sum_cons, List.sum_nil, Rows.uptoBulkAll]
      omega
theorem opens_row {α : Type} {R : Rd α} {μ : α → Nat} {k : Nat} (ht : P.underlying t = some (.slice e)) (hC : P.cellsOf e = k) (h : Opens P e R μ) : Opens P t (RRow R k) (fun l => (l.map μ).sum + 1) := fun H enc w base spare held fuel cs x hx => by
  rcases Deep.open_slice ht hx with ⟨rfl, rfl⟩ | ⟨a, len, cap, m, n, D, Pl, rfl, _, hl, hm, hmm, rfl, hel⟩
  · exact ⟨[], ⟨_, rfl, .inl ⟨rfl, rfl⟩⟩, by simp [Rows.uptoBulk]⟩
  · have hlm : len ≤ m := by rw [hmm]; split <;> omega
    obtain ⟨l, h1, h2, h3⟩ := list_of_each (fun i y => ∃ cs, cs.length = k ∧ (∀ j u, cs[j]? = some u → w.cell? (a.add (i * k + j)) = some u) ∧ R w cs y) μ D len fun i hi => by
      obtain ⟨cs', hc, ht'⟩ := hel i (by omega)
      rw [hC] at hc
      obtain ⟨_, hcl, hat⟩ := World.cells?_some hc
      obtain ⟨y, hy, hb⟩ := h _ _ _ _ _ _ _ _ _ ht'
      refine ⟨y, ⟨cs', hcl, fun j u hu => ?_, hy⟩, hb⟩
      have hjk : j < k := by have := (List.getElem?_eq_some_iff.1 hu).1; omega
      rw [← Deep.add_add, hat j hjk]
      exact hu
    subst h1
    refine ⟨l, ⟨_, rfl, .inr ⟨a, cap, rfl, hl, hm, h2⟩⟩, ?_⟩
    simp only [Rows.uptoBulk]
    omega
theorem opens_strs (ht : P.underlying t = some (.slice e)) (he : P.underlying e = some .string) (hC : P.cellsOf e = 1) : Opens P t RStrs (fun l => total l + 1) := fun H enc w base spare held fuel cs x hx => by
  obtain ⟨l, ⟨v, rfl, h1⟩, h2⟩ := opens_row ht hC (opens_string he) H enc w base spare held fuel cs x hx
  exact ⟨l, ⟨v, rfl, h1.strs⟩, h2⟩
theorem Opens.at {α : Type} {R : Rd α} {μ : α → Nat} (h : Opens P t R μ) {H : Type} {enc : TypeId × Value → H} {w : World} {base : Nat} {spare : Nat → Bool} {held : Bool} {fuel k o : Nat} {cs ds : List Value} {x : DataW H × List MemPlace}
    (hx : DataW.trod enc P w base spare held fuel t ((cs.drop o).take (P.cellsOf t)) = some x) (hk : P.cellsOf t = k) (hd : (cs.drop o).take k = ds) : ∃ a, R w ds a ∧ μ a ≤ Rows.uptoBulk x.1 := by
  rw [hk, hd] at hx
  exact h _ _ _ _ _ _ _ _ _ hx
end
end Go.Proofs.YtnnceaapodgfbaaGreatDoor
namespace Go.Proofs.YtnnceaapodgfbaaGreatDoor
open Go.RowKit
theorem own_below' {w w' : World} {B n k : Nat} {e : TypeId} {v : Value} {xs : List Value} (h : w.ownsRow B e k v n xs) (hb : Below w.heap.size w w') : w'.ownsRow B e k v n xs := by
  refine ⟨h.1, ?_⟩
  rcases h.2 with h0 | ⟨g, cap, cur, hv, hB, hh, hr⟩
  · exact .inl h0
  · have hg : g < w.heap.size := by
      rcases Nat.lt_or_ge g w.heap.size with h1 | h1
      · exact h1
      · rw [Array.getElem?_eq_none h1] at hh; cases hh
    exact .inr ⟨g, cap, cur, hv, hB, (hb.block g hg).trans hh, hr⟩
theorem flat_get {β : Type} {k : Nat} : ∀ {css : List (List β)}, (∀ cs ∈ css, cs.length = k) → ∀ {m : Nat} {u : β}, css.flatten[m]? = some u → ∃ j i cs, m = j * k + i ∧ css[j]? = some cs ∧ cs[i]? = some u
  | [], _, m, u, h => by simp at h
  | c :: r, hk, m, u, h => by
    have hc : c.length = k := hk c (List.mem_cons_self ..)
    rw [List.flatten_cons] at h
    by_cases hm : m < c.length
    · rw [List.getElem?_append_left hm] at h
      exact ⟨0, m, c, by omega, rfl, h⟩
    · rw [List.getElem?_append_right (by omega)] at h
      obtain ⟨j, i, cs, h1, h2, h3⟩ := flat_get (fun cs hcs => hk cs (List.mem_cons_of_mem _ hcs)) h
      exact ⟨j + 1, i, cs, by rw [Nat.add_mul]; omega, by simpa using h2, h3⟩
theorem get_flat {β : Type} {k : Nat} : ∀ {css : List (List β)}, (∀ cs ∈ css, cs.length = k) → ∀ {j i : Nat} {cs : List β} {u : β}, css[j]? = some cs → cs[i]? = some u → css.flatten[j * k + i]? = some u
  | [], _, j, i, cs, u, h, _ => by simp at h
  | c :: r, hk, j, i, cs, u, h, hi => by
    have hc : c.length = k := hk c (List.mem_cons_self ..)
    rw [List.flatten_cons]
    cases j with
    | zero =>
      simp only [List.getElem?_cons_zero, Option.some.injEq] at h
      subst h
      have := (List.getElem?_eq_some_iff.1 hi).1
      rw [Nat.zero_mul, Nat.zero_add, List.getElem?_append_left this]
      exact hi
    | succ j =>
      have h' : r[j]? = some cs := by simpa using h
      rw [Nat.add_mul, Nat.one_mul, List.getElem?_append_right (by omega), show j * k + k + i - c.length = j * k + i by omega]
      exact get_flat (fun cs hcs => hk cs (List.mem_cons_of_mem _ hcs)) h' hi
theorem flat_len {β : Type} {k : Nat} : ∀ {css : List (List β)}, (∀ cs ∈ css, cs.length = k) → css.flatten.length = css.length * k
  | [], _ => by simp
  | c :: r, hk => by
    rw [List.flatten_cons, List.length_append, flat_len fun cs hcs => hk cs (List.mem_cons_of_mem _ hcs), hk c (List.mem_cons_self ..), List.length_cons, Nat.add_mul]
    omega
theorem pick_each {β : Type} (Q : Nat → β → Prop) : ∀ n : Nat, (∀ i, i < n → ∃ y, Q i y) → ∃ ys : List β, ys.length = n ∧ ∀ i y, ys[i]? = some y → Q i y
  | 0, _ => ⟨[], rfl, fun i y h => by simp at h⟩
  | n + 1, h => by
    obtain ⟨ys, h1, h2⟩ := pick_each Q n fun i hi => h i (by omega)
    obtain ⟨y, hy⟩ := h n (by omega)
    refine ⟨ys ++ [y], by simp [h1], fun i z hz => ?_⟩
    by_cases hi : i < n
    · rw [List.getElem?_append_left (by omega)] at hz
      exact h2 i z hz
    · have : i = n := by have := (List.getElem?_eq_some_iff.1 hz).1; simp [h1] at this; omega
      subst this
      rw [List.getElem?_append_right (by omega), h1] at hz
      simp at hz
      subst hz
      exact hy
def OneR {α : Type} (R : Rd α) : Prop := ∀ w cs x, R w cs x → ∀ u ∈ cs, u.oneCell' = true
section
variable {α : Type} {R : Rd α} {k : Nat} {w w' : World} {v : Value} {l m : List α} {B : Nat} {e : TypeId}
theorem RowAt.cells (h : RowAt R k w v l) {a : Addr} {n c : Nat} (hv : v = .slice (some a) n c) :
    n = l.length ∧ ∃ css : List (List Value), css.length = l.length ∧ (∀ cs ∈ css, cs.length = k) ∧ (∀ (j : Nat) (u : Value), css.flatten[j]? = some u → w.cell? (a.add j) = some u) ∧ ∀ (j : Nat) (cs : List Value) (x : α), css[j]? = some cs → l[j]? = some x → R w cs x := by
  rcases h with ⟨rfl, rfl⟩ | ⟨a', c', rfl, _, _, h4⟩
  · cases hv
  · cases hv
    refine ⟨rfl, ?_⟩
    obtain ⟨css, h1, h2⟩ := pick_each (fun j cs => ∃ x, l[j]? = some x ∧ cs.length = k ∧ (∀ i u, cs[i]? = some u → w.cell? (a.add (j * k + i)) = some u) ∧ R w cs x) l.length (fun j hj => by
      obtain ⟨cs, g1, g2, g3⟩ := h4 j l[j] (by simp [hj])
      exact ⟨cs, l[j], by simp [hj], g1, g2, g3⟩)
    have hk : ∀ cs ∈ css, cs.length = k := fun cs hcs => by
      obtain ⟨j, hj, rfl⟩ := List.getElem_of_mem hcs
      obtain ⟨x, _, g, _⟩ := h2 j _ (List.getElem?_eq_getElem hj)
      exact g
    refine ⟨css, h1, hk, fun j u hu => ?_, fun j cs x hcs hx => ?_⟩
    · obtain ⟨q, i, cs, rfl, hq, hi⟩ := flat_get hk hu
      obtain ⟨x, _, _, g, _⟩ := h2 q cs hq
      exact g i u hi
    · obtain ⟨y, hy, _, _, g⟩ := h2 j cs hcs
      rw [hx] at hy
      cases hy
      exact g
def OwnAt (R : Rd α) (k : Nat) (w : World) (B : Nat) (e : TypeId) (v : Value) (l : List α) : Prop :=
  ∃ css : List (List Value), css.length = l.length ∧ (∀ cs ∈ css, cs.length = k) ∧ w.ownsRow B e k v l.length css.flatten ∧ ∀ (j : Nat) (cs : List Value) (x : α), css[j]? = some cs → l[j]? = some x → R w cs x
theorem OwnAt.nil (w : World) : OwnAt R k w B e (.slice none 0 0) [] := ⟨[], rfl, fun _ h => (by cases h), World.ownsRow_nil _ _ _ _, fun j cs x h => (by simp at h)⟩
theorem OwnAt.form (h : OwnAt R k w B e v l) : (v = .slice none 0 0 ∧ l = []) ∨ ∃ g c, v = .slice (some ⟨g, 0, none⟩) l.length c ∧ B ≤ g ∧ g < w.heap.size ∧ l.length ≤ c ∧ c ≤ maxLen := by
  obtain ⟨css, _, _, h3, _⟩ := h
  rcases h3.2 with ⟨h4, h5⟩ | ⟨g, cap, cur, h4, h5, h6, h7, h8, _⟩
  · exact .inl ⟨h4, List.eq_nil_of_length_eq_zero h5⟩
  · refine .inr ⟨g, cap, h4, h5, ?_, h7, h8⟩
    rcases Nat.lt_or_ge g w.heap.size with h1 | h1
    · exact h1
    · rw [Array.getElem?_eq_none h1] at h6; cases h6
theorem OwnAt.at (h : OwnAt R k w B e v l) {g : Nat} (hg : v.ownBlock = some g) : B ≤ g ∧ g < w.heap.size ∧ ∃ cur, w.heap[g]? = some (.cells cur e (0, 0)) := by
  obtain ⟨css, _, _, h3, _⟩ := h
  rcases h3.2 with ⟨rfl, _⟩ | ⟨g', cap, cur, rfl, h5, h6, _⟩
  · cases hg
  · obtain rfl : g' = g := by simpa [Value.ownBlock] using hg
    refine ⟨h5, ?_, cur, h6⟩
    rcases Nat.lt_or_ge g' w.heap.size with h1 | h1
    · exact h1
    · rw [Array.getElem?_eq_none h1] at h6; cases h6
theorem OwnAt.other {β : Type} {R' : Rd β} {k' : Nat} {B' : Nat} {e' : TypeId} {v' : Value} {l' : List β} (h : OwnAt R k w B e v l) (h' : OwnAt R' k' w B' e' v' l') (hne : e ≠ e') {g : Nat} (hg : v.ownBlock = some g) : v'.ownBlock ≠ some g := fun hg' => by
  obtain ⟨_, _, cur, h1⟩ := h.at hg
  obtain ⟨_, _, cur', h2⟩ := h'.at hg'
  rw [h1] at h2
  cases h2
  exact hne rfl
theorem OwnAt.row (h : OwnAt R k w B e v l) : RowAt R k w v l := by
  obtain ⟨css, h1, h2, h3, h4⟩ := h
  rcases h3.2 with ⟨h5, h6⟩ | ⟨g, cap, cur, h5, _, _, h7, h8, _, hc⟩
  · exact .inl ⟨h5, List.eq_nil_of_length_eq_zero h6⟩
  · refine .inr ⟨_, cap, h5, h7, h8, fun j x hx => ?_⟩
    have hj : j < css.length := by rw [h1]; exact (List.getElem?_eq_some_iff.1 hx).1
    have hcs : css[j]? = some css[j] := List.getElem?_eq_getElem hj
    exact ⟨css[j], h2 _ (List.getElem_mem hj), fun i u hu => h3.cells (by rw [h5]; rfl) (j * k + i) u (get_flat h2 hcs hu), h4 j _ x hcs hx⟩
theorem OwnAt.keepRow (hs : Stays R) (h : OwnAt R k w B e v l) (hk : Keeps w w') (ho : ∀ xs, w.ownsRow B e k v l.length xs → w'.ownsRow B e k v l.length xs) : OwnAt R k w' B e v l := by
  obtain ⟨css, h1, h2, h3, h4⟩ := h
  exact ⟨css, h1, h2, ho _ h3, fun j cs x hcs hx => hs _ _ _ _ hk (h4 j cs x hcs hx)⟩
theorem OwnAt.below (hs : Stays R) (h : OwnAt R k w B e v l) (hb : Below w.heap.size w w') : OwnAt R k w' B e v l := h.keepRow hs (keeps_below hb) fun _ ho => own_below' ho hb
theorem OwnAt.mono {B' : Nat} (h : OwnAt R k w B e v l) (hB : B' ≤ B) : OwnAt R k w B' e v l := by
  obtain ⟨css, h1, h2, h3, h4⟩ := h
  exact ⟨css, h1, h2, h3.mono hB, h4⟩
theorem OwnAt.alloc (hs : Stays R) (h : OwnAt R k w B e v l) (o : Obj) : OwnAt R k (w.alloc o) B e v l := h.below hs ((Below.refl _ _).alloc (Nat.le_refl _) o)
theorem RowAt.one {b : Nat} {cs : Array Value} {fr : Nat × Nat} (hb : w.heap[b]? = some (.cells cs e fr)) (hk : cs.size = k) {x : α} (h : R w cs.toList x) : RowAt R k w (.slice (some ⟨b, 0, none⟩) 1 1) [x] := by
  refine .inr ⟨_, 1, rfl, Nat.le_refl _, by unfold maxLen; decide, fun j y hy => ?_⟩
  have hj : j < 1 := (List.getElem?_eq_some_iff.1 hy).1
  obtain rfl : j = 0 := by omega
  simp only [List.getElem?_cons_zero, Option.some.injEq] at hy
  subst hy
  refine ⟨cs.toList, by simpa using hk, fun i u hu => ?_, h⟩
  rw [Nat.zero_mul, Nat.zero_add, add_plain', Nat.zero_add]
  have hi : i < cs.size := by have := (List.getElem?_eq_some_iff.1 hu).1; simpa using this
  have : w.cell? ⟨b, i, none⟩ = cs[i]? := by unfold World.cell?; simp [hb]
  rw [this]
  simpa using hu
end
theorem own_setLow {w : World} {B n k : Nat} {e : TypeId} {v : Value} {xs : List Value} (h : w.ownsRow B e k v n xs) {p : Addr} (hp : p.block < B) (x : Value) : (w.setCell p x).ownsRow B e k v n xs := by
  refine ⟨h.1, ?_⟩
  rcases h.2 with h0 | ⟨g, cap, cur, hv, hB, hh, hr⟩
  · exact .inl h0
  · exact .inr ⟨g, cap, cur, hv, hB, (Below.heap_setCell w p x g (by omega)).trans hh, hr⟩
def Flat {α : Type} (R : Rd α) : Prop := ∀ w w' cs x, R w cs x → R w' cs x
theorem Flat.stays {α : Type} {R : Rd α} (h : Flat R) : Stays R := fun _ _ _ _ _ hR => h _ _ _ _ hR
section
variable {P : Program} {α : Type} {R : Rd α} {k : Nat} {l m : List α} {B : Nat} {e : TypeId}
theorem OwnAt.setLow (hf : Flat R) {w : World} {v : Value} (h : OwnAt R k w B e v l) {p : Addr} (hp : p.block < B) (x : Value) : OwnAt R k (w.setCell p x) B e v l := by
  obtain ⟨css, h1, h2, h3, h4⟩ := h
  exact ⟨css, h1, h2, own_setLow h3 hp x, fun j cs y hcs hy => hf _ _ _ _ (h4 j cs y hcs hy)⟩
theorem OwnAt.grown (hf : Flat R) {w w' : World} {v : Value} (h : OwnAt R k w B e v l) {r : Option Nat} (hg : w.grownBy w' r) (hne : ∀ q, v.ownBlock = some q → some q ≠ r) : OwnAt R k w' B e v l := by
  obtain ⟨css, h1, h2, h3, h4⟩ := h
  refine ⟨css, h1, h2, ⟨h3.1, ?_⟩, fun j cs y hcs hy => hf _ _ _ _ (h4 j cs y hcs hy)⟩
  rcases h3.2 with h5 | ⟨q, cap, cur, rfl, hB, hh, hr⟩
  · exact .inl h5
  · have hq : q < w.heap.size := by
      rcases Nat.lt_or_ge q w.heap.size with h1 | h1
      · exact h1
      · rw [Array.getElem?_eq_none h1] at hh; cases hh
    exact .inr ⟨q, cap, cur, rfl, hB, (hg.block q hq (hne q rfl)).trans hh, hr⟩
theorem nil_of_len {β : Type} {l : List β} (h : l.length = 0) : l = [] := List.eq_nil_of_length_eq_zero h
theorem run_append_ownAt (w : World) (t ty : TypeId) (i : TypeInfo) (z : Value) (bytes : Nat) (ht : P.underlying t = some (.slice e)) (hi : P.info? e = some i) (hz : i.zero = some z) (hsize : i.size = k) (hby : i.bytes = bytes)
    (hzs : z.cells.size = k) (hsz : 0 < k) (hf : Flat R) (h1 : OneR R) (v : Value) (hv : OwnAt R k w B e v l) (x : Value) (hx : RowAt R k w x m) (hlen : l.length + m.length ≤ maxLen)
    (hbytes : (l.length + m.length) * bytes ≤ 140737488355328) (hbase : B ≤ w.heap.size) :
    ∃ v' w', (Builtin.append_ #[t, t] ty #[v, x]).run P w = .ok v' w' ∧ OwnAt R k w' B e v' (l ++ m) ∧ w.grownBy w' v.ownBlock ∧ (∀ g, v.ownBlock = some g → B ≤ g) ∧ (v'.ownBlock = v.ownBlock ∨ v'.ownBlock = some w.heap.size) := by
  obtain ⟨css, c1, c2, c3, c4⟩ := hv
  rcases hx with ⟨rfl, rfl⟩ | ⟨a, c, rfl, hc1, hc2, hc3⟩
  · exact ⟨v, w, run_append_owned_none (P := P) w B t ty e i k ht hi v _ _ c3, ⟨css, by simpa using c1, c2, by simpa using c3, fun j cs y hcs hy => c4 j cs y hcs (by simpa using hy)⟩, World.grownBy.refl w _, fun g hg => (c3.lt g hg).1, .inl rfl⟩
  · obtain ⟨_, ds, d1, d2, d3, d4⟩ := RowAt.cells (R := R) (k := k) (w := w) (l := m) (.inr ⟨a, c, rfl, hc1, hc2, hc3⟩) rfl
    have d6 : ∀ u ∈ ds.flatten, u.oneCell' = true := fun u hu => by
      obtain ⟨cs, hcs, hu'⟩ := List.mem_flatten.1 hu
      obtain ⟨j, hj, rfl⟩ := List.getElem_of_mem hcs
      exact h1 w _ m[j] (d4 j _ _ (List.getElem?_eq_getElem hj) (List.getElem?_eq_getElem (by omega))) u hu'
    obtain ⟨v', w', hrun, r1, r2, _, r4⟩ := run_append_own_at (P := P) w B t ty e i z k bytes ht hi hz hsize hby hzs hsz v l.length css.flatten c3 a m.length c ds.flatten (by rw [flat_len d2, d1]) d3 d6 hlen hbytes hbase
    refine ⟨v', w', hrun, ⟨css ++ ds, by simp [c1, d1], fun cs hcs => (List.mem_append.1 hcs).elim (c2 cs) (d2 cs), by rw [List.flatten_append, List.length_append]; exact r1, fun j cs y hcs hy => ?_⟩, r2, fun g hg => (c3.lt g hg).1, r4⟩
    by_cases hj : j < l.length
    · rw [List.getElem?_append_left (by omega)] at hcs hy
      exact hf _ _ _ _ (c4 j cs y hcs hy)
    · rw [List.getElem?_append_right (by omega)] at hcs hy
      rw [c1] at hcs
      exact hf _ _ _ _ (d4 _ cs y hcs hy)
theorem wpList_append_ownAt (w : World) {ops : Array Oper} {rest : List Oper} {o : Oper} {a : Act} {Q : Exit → Act → World → Prop} (hg : o.guard = none) (s x : Operand) (t : TypeId)
    (ho : o.op = .call { callee := .builtin .append, args := #[s, x], argTypes := #[t, t] })
    (i : TypeInfo) (z : Value) (bytes : Nat) (ht : P.underlying t = some (.slice e)) (hi : P.info? e = some i) (hz : i.zero = some z) (hsize : i.size = k) (hby : i.bytes = bytes) (hzs : z.cells.size = k) (hsz : 0 < k) (hf : Flat R) (h1 : OneR R)
    (v : Value) (hs : a.eval s = v) (hv : OwnAt R k w B e v l) (xv : Value) (hxv : a.eval x = xv) (hx : RowAt R k w xv m) (hlen : l.length + m.length ≤ maxLen)
    (hbytes : (l.length + m.length) * bytes ≤ 140737488355328) (hbase : B ≤ w.heap.size)
    (h : ∀ v' w', OwnAt R k w' B e v' (l ++ m) → w.grownBy w' v.ownBlock → (∀ g, v.ownBlock = some g → B ≤ g) → (v'.ownBlock = v.ownBlock ∨ v'.ownBlock = some w.heap.size) → wpList P ops Q rest (a.put o.dst v') w') : wpList P ops Q (o :: rest) a w := by
  refine wpList_plain hg fun K hK' => ?_
  obtain ⟨v', w', hrun, r1, r2, r3, r4⟩ := run_append_ownAt w t o.type i z bytes ht hi hz hsize hby hzs hsz hf h1 v hv xv hx hlen hbytes hbase
  unfold Oper.wp
  simp [execOp, ho, resolve, invoke, builtin, hs, hxv, hrun, Result.andThen]
  exact hK' _ _ (h v' w' r1 r2 r3 r4)
theorem below_of_grown {B : Nat} {W w w' : World} (h : Below B W w) (hB : B ≤ w.heap.size) {r : Option Nat} (hg : w.grownBy w' r) (hr : ∀ g, r = some g → B ≤ g) : Below B W w' := h.grown hg hB hr
end
theorem own_empty {α : Type} {R : Rd α} (w : World) (k : Nat) (e : TypeId) {B : Nat} (hB : B ≤ w.heap.size) : OwnAt R k (w.alloc (.cells #[] e)) B e (.slice (some ⟨w.heap.size, 0, none⟩) 0 0) [] :=
  ⟨[], rfl, fun _ h => (by cases h), ⟨by simp, .inr ⟨w.heap.size, 0, #[], rfl, hB, heap_alloc_new w _, Nat.le_refl _, by simp, by simp, by simp⟩⟩, fun j cs x h => (by simp at h)⟩
theorem flat_string : Flat RString := fun _ _ _ _ h => h
theorem one_string : OneR RString := fun _ _ _ h u hu => by rw [h] at hu; simp at hu; subst hu; rfl
end Go.Proofs.YtnnceaapodgfbaaGreatDoor
namespace Go.Proofs.YtnnceaapodgfbaaGreatDoor
open Go.RowKit
def MaxOK (m : Int) (w : World) : Prop := w.cell? ⟨Tryz.laysM143_ren.g 1, 0, none⟩ = some (.int .i64 m)
theorem MaxOK.below {m : Int} {w w' : World} (h : MaxOK m w) (hb : Below w.heap.size w w') : MaxOK m w' := by
  have h' : w.cell? ⟨Tryz.laysM143_ren.g 1, 0, none⟩ = some (.int .i64 m) := h
  exact (hb.cell (p := ⟨Tryz.laysM143_ren.g 1, 0, none⟩) (World.block_lt_of_cell? w _ h')).trans h'
theorem MaxOK.drewN {m : Int} {w : World} (h : MaxOK m w) (k : Nat) : MaxOK m (w.drewN k) := h
theorem max_of {w : World} (h : w.ShapedOpen Tryz.prog) : ∃ m, MaxOK m w := Tryz.laysM143.s1_3 w h
end Go.Proofs.YtnnceaapodgfbaaGreatDoor
namespace Go.Proofs.YtnnceaapodgfbaaGreatDoor
open Go.RowKit Go.ChangeShapes Go.WideShapes Go.ChangeAt
def Env (w : World) : Prop := TabOK w ∧ ErrOK w ∧ ∃ m, MaxOK m w
theorem Env.below {w w' : World} (h : Env w) (hb : Below w.heap.size w w') : Env w' := ⟨h.1.below hb, h.2.1.below hb, by obtain ⟨m, hm⟩ := h.2.2; exact ⟨m, hm.below hb⟩⟩
theorem star_err : "*" ++ "errors.errorString" = "*errors.errorString" := by decide
theorem row_err (u : TypeId) (h : Tryz.prog.typeName? 3 u = some "*errors.errorString") : u = 305 :=
  typeName_ptr_named (nm := "errors.errorString") (by rw [star_err]; kernel_rfl) (by kernel_rfl) (by decide) u (by rw [star_err]; exact h)
noncomputable def errR : Nat := (Tryz.prog.globalNamed "strconv.ErrRange").getD 0
noncomputable def errS : Nat := (Tryz.prog.globalNamed "strconv.ErrSyntax").getD 0
theorem errR1 : Tryz.prog.globalNamed "strconv.ErrRange" = some errR := by kernel_rfl
theorem errS1 : Tryz.prog.globalNamed "strconv.ErrSyntax" = some errS := by kernel_rfl
theorem errR2 : (Tryz.prog.globals[errR]?).map (·.type) = some 234 := by kernel_rfl
theorem errS2 : (Tryz.prog.globals[errS]?).map (·.type) = some 234 := by kernel_rfl
theorem errCells : Tryz.prog.cellsOf 307 = 1 := by kernel_rfl
theorem errCells2 : Tryz.prog.cellsOf 9 = 1 := by kernel_rfl
theorem err_of {W : World} {x1 x2 x3 x4 : String × DataW Unit} {t1 t2 : List UInt8} {d1 d2 : DataW Unit} {r : List (String × DataW Unit)} (h1 : d1 = .iface "*errors.errorString" (.ptr (.agg [.lit (.string t1)]))) (h2 : d2 = .iface "*errors.errorString" (.ptr (.agg [.lit (.string t2)]))) (h : laidMet Tryz.prog (x1 :: x2 :: x3 :: x4 :: ("strconv.ErrRange", d1) :: ("strconv.ErrSyntax", d2) :: r) W) : ErrOK W := by
  subst h1; subst h2
  have h4 := h.tail.tail.tail.tail
  obtain ⟨a0, s0, hv0, _⟩ := laid_sentinel h4 errR1 errR2 Tryz.underlying234 row_err Tryz.underlying305 Tryz.underlying307 rfl rfl Tryz.underlying9 errCells errCells2
  obtain ⟨a1, s1, hv1, _⟩ := laid_sentinel h4.tail errS1 errS2 Tryz.underlying234 row_err Tryz.underlying305 Tryz.underlying307 rfl rfl Tryz.underlying9 errCells errCells2
  exact ⟨_, _, _, _, hv1, hv0⟩
theorem env_of {W : World} {x1 x2 x4 : String × DataW Unit} {t1 t2 : List UInt8} {d d1 d2 : DataW Unit} {r : List (String × DataW Unit)} (hd : d = Lib.tabData .u64 Lib.pow10Tab) (h1 : d1 = .iface "*errors.errorString" (.ptr (.agg [.lit (.string t1)]))) (h2 : d2 = .iface "*errors.errorString" (.ptr (.agg [.lit (.string t2)]))) (h : laidMet Tryz.prog (x1 :: x2 :: ("internal/strconv.uint64pow10", d) :: x4 :: ("strconv.ErrRange", d1) :: ("strconv.ErrSyntax", d2) :: r) W) (hs : W.ShapedOpen Tryz.prog) : Env W :=
  ⟨tab_of hd h, err_of h1 h2 h, max_of hs⟩
end Go.Proofs.YtnnceaapodgfbaaGreatDoor
namespace Go.Proofs.YtnnceaapodgfbaaGreatDoor.NameP
def edge (c : Nat) : Bool := decide (97 ≤ c ∧ c ≤ 122) || decide (65 ≤ c ∧ c ≤ 90) || decide (48 ≤ c ∧ c ≤ 57)
def low (c : Nat) : Bool := edge c && (decide (c < 65) || decide (90 < c))
def dash (c : Nat) : Bool := c == 45
def wordIn (c : Nat) : Bool := c == 45 || c == 95 || c == 46
def made (e v : Nat → Bool) (l : List UInt8) : Bool :=
  match l with
  | [] => false
  | x :: r => e x.toNat && e ((x :: r).getLast (by simp)).toNat && (x :: r).all fun c => e c.toNat || v c.toNat
def isName (l : List UInt8) : Bool := made low dash l
def isWord (l : List UInt8) : Bool := made edge wordIn l
def judge (n most : Nat) (is : Bool) : Int := if most < n then 2 else if is then 0 else 6
def check (l : List UInt8) : Int := judge l.length 63 (isName l)
def checkVal (l : List UInt8) : Int := judge l.length 63 (l.isEmpty || isWord l)
theorem made_iff {e v : Nat → Bool} {l : List UInt8} : made e v l = true ↔ ∃ (h : l ≠ []), e (l.head h).toNat = true ∧ e (l.getLast h).toNat = true ∧ ∀ c ∈ l, e c.toNat = true ∨ v c.toNat = true := by
  cases l with
  | nil => simp [made]
  | cons x r => simp [made, and_assoc]
end Go.Proofs.YtnnceaapodgfbaaGreatDoor.NameP
namespace Go.Proofs.YtnnceaapodgfbaaGreatDoor.HexP
def val (c : Nat) : Nat := if 48 ≤ c ∧ c ≤ 57 then c - 48 else c - 87
end Go.Proofs.YtnnceaapodgfbaaGreatDoor.HexP
namespace Go.Proofs.YtnnceaapodgfbaaGreatDoor
open Go Go.Lib
end Go.Proofs.YtnnceaapodgfbaaGreatDoor
namespace Go.Proofs.YtnnceaapodgfbaaGreatDoor
open Go Go.Lib
def splitL (c : UInt8) : List UInt8 → List (List UInt8)
  | [] => [[]]
  | x :: r => if x = c then [] :: splitL c r else match splitL c r with
    | h :: t => (x :: h) :: t
    | [] => [[x]]
theorem splitK_scan (c : UInt8) : ∀ s : List UInt8, splitK [c] 0 (count s [c]) s = splitL c s
  | [] => by
    have h1 : index ([] : List UInt8) [c] = -1 := by unfold index; rfl
    rw [count_miss h1]; rfl
  | x :: r => by
    have ih := splitK_scan c r
    rw [splitL]
    by_cases h : x = c
    · subst h
      rw [if_pos rfl, ← ih, count_cons_eq, Nat.add_comm]
      have h1 : index (x :: r) [x] = 0 := by unfold index; simp
      rw [splitK, h1]
      simp
    · rw [if_neg h, count_cons_ne x c r h, ← ih]
      have h1 : index (x :: r) [c] = if index r [c] == -1 then -1 else index r [c] + 1 := by
        rw [index, if_neg (by simp [List.isPrefixOf, Ne.symm h])]
      rcases index_spec r [c] with ⟨h2, _⟩ | ⟨i, h2, _, _⟩
      · rw [count_miss h2]; rfl
      · rw [h2, if_neg (by rw [beq_iff_eq]; omega)] at h1
        rw [count_hit (by simp) h2, Nat.add_comm, splitK, splitK, h1, h2, if_neg (by rw [beq_iff_eq]; omega), if_neg (by rw [beq_iff_eq]; omega)]
        have e1 : ((i : Int) + 1).toNat = i + 1 := by omega
        have e2 : ((i : Int)).toNat = i := by omega
        rw [e1, e2]
        simp
theorem splitL_one (c : UInt8) : ∀ p : List UInt8, c ∉ p → splitL c p = [p]
  | [], _ => rfl
  | x :: r, h => by
    rw [splitL, if_neg (fun e => h (by rw [e]; exact List.mem_cons_self ..)), splitL_one c r fun hm => h (List.mem_cons_of_mem _ hm)]
theorem splitL_cut (c : UInt8) (s : List UInt8) : ∀ p : List UInt8, c ∉ p → splitL c (p ++ c :: s) = p :: splitL c s
  | [], _ => by rw [List.nil_append, splitL, if_pos rfl]
  | x :: r, h => by
    rw [List.cons_append, splitL, if_neg (fun e => h (by rw [e]; exact List.mem_cons_self ..)), splitL_cut c s r fun hm => h (List.mem_cons_of_mem _ hm)]
theorem splitL_back (c : UInt8) : ∀ (p : List UInt8) (l : List (List UInt8)), (∀ q ∈ p :: l, c ∉ q) → splitL c (p ++ l.flatMap fun q => c :: q) = p :: l
  | p, [], h => by rw [List.flatMap_nil, List.append_nil, splitL_one c p (h p (List.mem_cons_self ..))]
  | p, q :: l, h => by
    rw [List.flatMap_cons, List.cons_append, splitL_cut c _ p (h p (List.mem_cons_self ..)), splitL_back c q l fun x hx => h x (List.mem_cons_of_mem _ hx)]
end Go.Proofs.YtnnceaapodgfbaaGreatDoor
namespace Go.Proofs.YtnnceaapodgfbaaGreatDoor
open Go
namespace JP
abbrev Bs := List UInt8
inductive JV where
  | nul
  | bool (b : Bool)
  | num (n : Int)
  | str (s : Bs)
  | list (l : List JV)
  | obj (l : List (Bs × JV))
theorem JV.both {P : JV → Prop} {PL : List JV → Prop} {PF : List (Bs × JV) → Prop}
    (h0 : P .nul) (h1 : ∀ b, P (.bool b)) (h2 : ∀ n, P (.num n)) (h3 : ∀ s, P (.str s)) (h4 : ∀ l, PL l → P (.list l)) (h5 : ∀ l, PF l → P (.obj l))
    (h6 : PL []) (h7 : ∀ v r, P v → PL r → PL (v :: r)) (h8 : PF []) (h9 : ∀ n v r, P v → PF r → PF ((n, v) :: r)) : (∀ v, P v) ∧ (∀ l, PL l) ∧ ∀ l, PF l := by
  have a : ∀ v, P v := fun v => JV.rec (motive_1 := P) (motive_2 := PL) (motive_3 := PF) (motive_4 := fun x => P x.2) h0 h1 h2 h3 h4 h5 h6 (fun v r a b => h7 v r a b) h8 (fun x r a b => h9 x.1 x.2 r a b) (fun _ _ h => h) v
  refine ⟨a, fun l => ?_, fun l => ?_⟩
  · induction l with
    | nil => exact h6
    | cons v r ih => exact h7 v r (a v) ih
  · induction l with
    | nil => exact h8
    | cons x r ih => exact h9 x.1 x.2 r (a x.2) ih
def escB (c : UInt8) : Bs := if c = 34 ∨ c = 92 then [92, c] else if c = 10 then [92, 110] else if c = 9 then [92, 116] else [c]
def quote (s : Bs) : Bs := 34 :: (s.flatMap escB ++ [34])
mutual
def text : JV → Bs
  | .nul => [110, 117, 108, 108]
  | .bool b => if b = true then [116, 114, 117, 101] else [102, 97, 108, 115, 101]
  | .num n => Lib.itoa n
  | .str s => quote s
  | .list l => 91 :: (Lib.join (textL l) [44] ++ [93])
  | .obj l => 123 :: (Lib.join (textF l) [44] ++ [125])
termination_by structural x => x
def textL : List JV → List Bs
  | [] => []
  | v :: r => text v :: textL r
termination_by structural x => x
def textF : List (Bs × JV) → List Bs
  | [] => []
  | (n, v) :: r => (quote n ++ 58 :: text v) :: textF r
termination_by structural x => x
end
mutual
def size : JV → Nat
  | .list l => 1 + sizeL l
  | .obj l => 1 + sizeF l
  | .nul => 1
  | .bool _ => 1
  | .num _ => 1
  | .str _ => 1
termination_by structural x => x
def sizeL : List JV → Nat
  | [] => 0
  | v :: r => size v + sizeL r
termination_by structural x => x
def sizeF : List (Bs × JV) → Nat
  | [] => 0
  | (_, v) :: r => size v + sizeF r
termination_by structural x => x
end
mutual
def deep : JV → Nat
  | .list l => deepL l + 1
  | .obj l => deepF l + 1
  | .nul => 0
  | .bool _ => 0
  | .num _ => 0
  | .str _ => 0
termination_by structural x => x
def deepL : List JV → Nat
  | [] => 0
  | v :: r => max (deep v) (deepL r)
termination_by structural x => x
def deepF : List (Bs × JV) → Nat
  | [] => 0
  | (_, v) :: r => max (deep v) (deepF r)
termination_by structural x => x
end
def kind : JV → Int
  | .nul => 1
  | .bool _ => 2
  | .num _ => 3
  | .str _ => 4
  | .list _ => 5
  | .obj _ => 6
def stand (c : UInt8) : Bool := (decide (32 ≤ c) && decide (c ≤ 126)) || c == 10 || c == 9
def put (n : Bs) (v : JV) : List (Bs × JV) → List (Bs × JV)
  | [] => [(n, v)]
  | (m, x) :: r => if m < n then (m, x) :: put n v r else if m = n then (n, v) :: r else (n, v) :: (m, x) :: r
def get (n : Bs) : List (Bs × JV) → Option JV
  | [] => none
  | (m, x) :: r => if m = n then some x else get n r
def cut (n : Bs) (l : List (Bs × JV)) : List (Bs × JV) := l.filter fun x => x.1 != n
def Srt (l : List (Bs × JV)) : Prop := l.Pairwise fun a b => a.1 < b.1
def numOK (n : Int) : Prop := -1000000000000000000 < n ∧ n < 1000000000000000000
mutual
def wf : JV → Prop
  | .nul => True
  | .bool _ => True
  | .num n => numOK n
  | .str s => s.all stand = true
  | .list l => wfL l
  | .obj l => Srt l ∧ wfF l
termination_by structural x => x
def wfL : List JV → Prop
  | [] => True
  | v :: r => wf v ∧ wfL r
termination_by structural x => x
def wfF : List (Bs × JV) → Prop
  | [] => True
  | (n, v) :: r => n.all stand = true ∧ wf v ∧ wfF r
termination_by structural x => x
end
inductive Fr where
  | lst (d : List JV)
  | ob (d : List (Bs × JV)) (n : Bs)
inductive R where
  | bad (e : Int)
  | whole (v : JV) (r : Bs) (m : Nat) (st : List Fr)
  | more (r : Bs) (m : Nat) (st : List Fr)
def blank (c : UInt8) : Bool := c == 32 || c == 9 || c == 10
def skip (r : Bs) : Bs := r.dropWhile blank
def digit (c : UInt8) : Bool := decide (48 ≤ c) && decide (c ≤ 57)
def escV (c : UInt8) : Option UInt8 := if c = 34 ∨ c = 92 then some c else if c = 110 then some 10 else if c = 116 then some 9 else none
def textP : Bs → Option (Bs × Bs)
  | [] => none
  | 34 :: r => some ([], r)
  | 92 :: [] => none
  | 92 :: d :: r => match escV d with
    | none => none
    | some c => (textP r).map fun x => (c :: x.1, x.2)
  | c :: r => if c < 32 ∨ 126 < c then none else (textP r).map fun x => (c :: x.1, x.2)
def sgn (r : Bs) : Bs := match r with
  | 45 :: t => t
  | _ => r
def negB (r : Bs) : Bool := match r with
  | 45 :: _ => true
  | _ => false
def digs (r : Bs) : Bs := (sgn r).takeWhile digit
def decV (ds : Bs) : Nat := (Lib.decFrom 0 ds).getD 0
def numV (r : Bs) : Int := if negB r = true then -(decV (digs r) : Int) else (decV (digs r) : Int)
def numR (r : Bs) : Bs := (sgn r).dropWhile digit
def numE (r : Bs) : Int := match digs r with
  | [] => 3
  | c :: t => if c = 48 ∧ (t ≠ [] ∨ negB r = true) then 3 else if 18 < (c :: t).length then 2 else 0
def wordP (v : JV) (p : Bs) (r : Bs) (m : Nat) (st : List Fr) : R := if p.isPrefixOf r = true then .whole v (r.drop p.length) m st else .bad 3
def plainP (c : UInt8) (r : Bs) (m : Nat) (st : List Fr) : R :=
  if c = 34 then match textP r.tail with
    | none => .bad 3
    | some x => .whole (.str x.1) x.2 m st
  else if c = 116 then wordP (.bool true) [116, 114, 117, 101] r m st
  else if c = 102 then wordP (.bool false) [102, 97, 108, 115, 101] r m st
  else if c = 110 then wordP .nul [110, 117, 108, 108] r m st
  else if numE r = 0 then .whole (.num (numV r)) (numR r) m st else .bad (numE r)
def fieldN (r : Bs) (m : Nat) (d : List (Bs × JV)) (st : List Fr) (n t : Bs) : R :=
  if (get n d).isSome = true then .bad 5 else match skip t with
    | [] => .bad 3
    | c :: t' => if c = 58 then .more t' m (.ob d n :: st) else .bad 3
def fieldP (r : Bs) (m : Nat) (d : List (Bs × JV)) (st : List Fr) : R := match skip r with
  | [] => .bad 3
  | c :: t => if c = 34 then match textP t with
      | none => .bad 3
      | some x => fieldN r m d st x.1 x.2
    else .bad 3
def starts (c : UInt8) : Bool := c == 91 || c == 123 || c == 34 || c == 45 || c == 116 || c == 102 || c == 110 || digit c
def beginC (c : UInt8) (t : Bs) (m : Nat) (st : List Fr) : R :=
  if starts c = false then .bad 3
  else if 200 < m + 1 then .bad 2
  else if (c = 91 ∨ c = 123) ∧ st.length = 10 then .bad 4
  else if c = 91 then if (skip t).head? = some 93 then .whole (.list []) (skip t).tail (m + 1) st else .more (skip t) (m + 1) (.lst [] :: st)
  else if c = 123 then if (skip t).head? = some 125 then .whole (.obj []) (skip t).tail (m + 1) st else fieldP (skip t) (m + 1) [] st
  else plainP c (c :: t) (m + 1) st
def beginP (r : Bs) (m : Nat) (st : List Fr) : R := match skip r with
  | [] => .bad 3
  | c :: t => beginC c t m st
def goesP (v : JV) (r : Bs) (m : Nat) (f : Fr) (st : List Fr) : R := match f with
  | .lst d => match skip r with
    | [] => .bad 3
    | c :: t => if c = 93 then .whole (.list (d ++ [v])) t m st else if c = 44 then .more t m (.lst (d ++ [v]) :: st) else .bad 3
  | .ob d n => match skip r with
    | [] => .bad 3
    | c :: t => if c = 125 then .whole (.obj (put n v d)) t m st else if c = 44 then fieldP t m (put n v d) st else .bad 3
def mu : R → Nat
  | .bad _ => 0
  | .more r _ _ => 2 * r.length + 1
  | .whole _ r _ _ => 2 * r.length + 2
theorem skip_le (r : Bs) : (skip r).length ≤ r.length := (List.dropWhile_sublist _).length_le
theorem skip_cons {r t : Bs} {c : UInt8} (h : skip r = c :: t) : t.length + 1 ≤ r.length := by have := skip_le r; rw [h] at this; simpa using this
theorem textP_len : ∀ (r : Bs) (x : Bs × Bs), textP r = some x → x.2.length + 1 ≤ r.length := by
  intro r
  induction r using textP.induct with
  | case1 => intro x h; simp [textP] at h
  | case2 r => intro x h; simp only [textP, Option.some.injEq] at h; subst h; simp
  | case3 => intro x h; simp [textP] at h
  | case4 d r hd => intro x h; simp [textP, hd] at h
  | case5 d r c hd ih =>
    intro x h
    simp only [textP, hd] at h
    obtain ⟨y, hy, rfl⟩ := Option.map_eq_some_iff.1 h
    have := ih y hy
    simp only [List.length_cons]
    omega
  | case6 c r h1 h2 h3 h4 => intro x h; rw [textP] at h <;> simp_all
  | case7 c r h1 h2 h3 h4 ih =>
    intro x h
    rw [textP] at h
    · rw [if_neg h4] at h
      obtain ⟨y, hy, rfl⟩ := Option.map_eq_some_iff.1 h
      have := ih y hy
      simp only [List.length_cons]
      omega
    all_goals simp_all
theorem field_mu (r : Bs) (m : Nat) (d : List (Bs × JV)) (st : List Fr) : mu (fieldP r m d st) < 2 * r.length + 1 := by
  unfold fieldP
  split
  · simp [mu]
  · rename_i c t h
    have h1 := skip_cons h
    split
    · split
      · simp [mu]
      · rename_i x hx
        have h2 := textP_len _ _ hx
        unfold fieldN
        split
        · simp [mu]
        · split
          · simp [mu]
          · rename_i c' t' h'
            have h3 := skip_cons h'
            split
            · simp only [mu]; omega
            · simp [mu]
    · simp [mu]
theorem sgn_le (r : Bs) : (sgn r).length ≤ r.length := by unfold sgn; split <;> simp
theorem numR_lt {r : Bs} (h : numE r = 0) : (numR r).length + 1 ≤ r.length := by
  have h1 := sgn_le r
  have h2 : (digs r).length + (numR r).length = (sgn r).length := by
    unfold digs numR
    rw [← List.length_append, List.takeWhile_append_dropWhile]
  unfold numE at h
  split at h
  · cases h
  · rename_i c t hd
    rw [hd] at h2
    simp at h2
    omega
theorem word_mu {v : JV} {p r : Bs} {m : Nat} {st : List Fr} (hp : 0 < p.length) : mu (wordP v p r m st) < 2 * r.length + 1 := by
  unfold wordP
  split
  · rename_i h
    have := (List.isPrefixOf_iff_prefix.1 h).length_le
    simp only [mu, List.length_drop]
    omega
  · simp [mu]
theorem plain_mu (c : UInt8) (t : Bs) (m : Nat) (st : List Fr) : mu (plainP c (c :: t) m st) < 2 * (t.length + 1) + 1 := by
  unfold plainP
  split
  · split
    · simp [mu]
    · rename_i x hx
      have := textP_len _ _ hx
      simp only [mu, List.tail_cons] at this ⊢
      omega
  · split
    · exact word_mu (r := c :: t) (by decide)
    · split
      · exact word_mu (r := c :: t) (by decide)
      · split
        · exact word_mu (r := c :: t) (by decide)
        · split
          · rename_i h
            have := numR_lt h
            simp only [mu, List.length_cons] at this ⊢
            omega
          · simp [mu]
theorem begin_mu (r : Bs) (m : Nat) (st : List Fr) : mu (beginP r m st) < mu (.more r m st) := by
  unfold beginP
  split
  · simp [mu]
  · rename_i c t h
    have h1 := skip_cons h
    have h2 := skip_le t
    have h3 := List.length_tail (l := skip t)
    unfold beginC
    split
    · simp [mu]
    · split
      · simp [mu]
      · split
        · simp [mu]
        · split
          · split <;> (simp only [mu]; omega)
          · split
            · split
              · simp only [mu]; omega
              · have := field_mu (skip t) (m + 1) [] st
                show _ < 2 * r.length + 1
                omega
            · have := plain_mu c t (m + 1) st
              show _ < 2 * r.length + 1
              omega
theorem goes_mu (v : JV) (r : Bs) (m : Nat) (f : Fr) (st : List Fr) : mu (goesP v r m f st) < mu (.whole v r m (f :: st)) := by
  unfold goesP
  split
  · split
    · simp [mu]
    · rename_i c t h
      have h1 := skip_cons h
      split
      · simp only [mu]; omega
      · split
        · simp only [mu]; omega
        · simp [mu]
  · split
    · simp [mu]
    · rename_i c t h
      have h1 := skip_cons h
      split
      · simp only [mu]; omega
      · split
        · refine Nat.lt_of_lt_of_le (field_mu t m _ st) ?_
          show _ ≤ 2 * r.length + 2
          omega
        · simp [mu]
def fin (x : R) : JV × Int := match x with
  | .bad e => (.nul, e)
  | .more r m st => fin (beginP r m st)
  | .whole v r _ [] => if skip r = [] then (v, 0) else (.nul, 3)
  | .whole v r m (f :: st) => fin (goesP v r m f st)
termination_by mu x
decreasing_by
  · exact begin_mu _ _ _
  · exact goes_mu _ _ _ _ _
def readL (s : Bs) : JV × Int := if 2000 < s.length then (.nul, 2) else fin (.more s 0 [])
theorem fin_bad (e : Int) : fin (.bad e) = (.nul, e) := by rw [fin]
theorem fin_more (r : Bs) (m : Nat) (st : List Fr) : fin (.more r m st) = fin (beginP r m st) := by rw [fin]
theorem fin_end (v : JV) (r : Bs) (m : Nat) : fin (.whole v r m []) = if skip r = [] then (v, 0) else (.nul, 3) := by rw [fin]
theorem fin_whole (v : JV) (r : Bs) (m : Nat) (f : Fr) (st : List Fr) : fin (.whole v r m (f :: st)) = fin (goesP v r m f st) := by rw [fin]
end JP
end Go.Proofs.YtnnceaapodgfbaaGreatDoor
namespace Go.Proofs.YtnnceaapodgfbaaGreatDoor
open Go
namespace JP
theorem joinB_one (x sep : Bs) : Lib.join [x] sep = x := by simp [Lib.join, List.intercalate]
theorem joinB_more (x y : Bs) (r : List Bs) (sep : Bs) : Lib.join (x :: y :: r) sep = x ++ (sep ++ Lib.join (y :: r) sep) := by simp [Lib.join, List.intercalate]
theorem skip_of {c : UInt8} (t : Bs) (h : blank c = false) : skip (c :: t) = c :: t := by
  unfold skip
  rw [List.dropWhile_cons_of_neg (by simp [h])]
theorem digit_of {k : Nat} (h : k < 10) : digit (UInt8.ofNat (48 + k)) = true := by
  have : ∀ i : Fin 10, digit (UInt8.ofNat (48 + i.val)) = true := by decide
  exact this ⟨k, h⟩
theorem digit_val {k : Nat} (h : k < 10) : Lib.digitVal (UInt8.ofNat (48 + k)) = some k := by
  have : ∀ i : Fin 10, Lib.digitVal (UInt8.ofNat (48 + i.val)) = some i.val := by decide
  exact this ⟨k, h⟩
theorem digit_nought {k : Nat} (h : k < 10) (h0 : k ≠ 0) : UInt8.ofNat (48 + k) ≠ 48 := by
  have : ∀ i : Fin 10, i.val ≠ 0 → UInt8.ofNat (48 + i.val) ≠ 48 := by decide
  exact this ⟨k, h⟩ h0
theorem dec_digits (u : Nat) : ∀ c ∈ Lib.decDigits u, digit c = true := by
  induction u using Nat.strongRecOn with
  | _ u ih =>
    intro c hc
    by_cases h : u < 10
    · rw [Lib.decDigits, dif_pos h, List.mem_singleton] at hc
      rw [hc]; exact digit_of h
    · rw [Lib.decDigits, dif_neg h, List.mem_append, List.mem_singleton] at hc
      rcases hc with hc | rfl
      · exact ih _ (by omega) c hc
      · exact digit_of (by omega)
theorem dec_head (u : Nat) : ∃ c t, Lib.decDigits u = c :: t ∧ (c = 48 → u = 0 ∧ t = []) := by
  induction u using Nat.strongRecOn with
  | _ u ih =>
    by_cases h : u < 10
    · refine ⟨_, [], by rw [Lib.decDigits, dif_pos h], fun h0 => ⟨?_, rfl⟩⟩
      by_cases hu : u = 0
      · exact hu
      · exact absurd h0 (digit_nought h hu)
    · obtain ⟨c, t, hd, hc⟩ := ih (u / 10) (by omega)
      exact ⟨c, t ++ [UInt8.ofNat (48 + u % 10)], by rw [Lib.decDigits, dif_neg h, hd]; rfl, fun h0 => by have := (hc h0).1; omega⟩
theorem decFrom_append (acc : Nat) (l : Bs) (b : UInt8) : Lib.decFrom acc (l ++ [b]) = (Lib.decFrom acc l).bind fun m => (Lib.digitVal b).map fun d => m * 10 + d := by
  induction l generalizing acc with
  | nil =>
    simp only [List.nil_append, Lib.decFrom, Option.bind_some]
    cases Lib.digitVal b <;> rfl
  | cons c r ih =>
    simp only [List.cons_append, Lib.decFrom]
    cases Lib.digitVal c with
    | none => rfl
    | some d => exact ih _
theorem dec_value (u : Nat) : Lib.decFrom 0 (Lib.decDigits u) = some u := by
  induction u using Nat.strongRecOn with
  | _ u ih =>
    by_cases h : u < 10
    · rw [Lib.decDigits, dif_pos h]
      unfold Lib.decFrom
      rw [digit_val h]
      show Lib.decFrom (0 * 10 + u) [] = some u
      rw [Nat.zero_mul, Nat.zero_add]
      rfl
    · rw [Lib.decDigits, dif_neg h, decFrom_append, ih _ (by omega), digit_val (by omega)]
      simp
      omega
theorem nDigits_le : ∀ (k u : Nat), 0 < k → u < 10 ^ k → Lib.nDigits u ≤ k
  | 0, _, h, _ => by omega
  | k + 1, u, _, h => by
    by_cases hu : u < 10
    · rw [Lib.nDigits_small hu]; omega
    · rw [Lib.nDigits_big hu]
      have hk : 0 < k := by
        rcases Nat.eq_zero_or_pos k with rfl | hk
        · simp at h; omega
        · exact hk
      have := nDigits_le k (u / 10) hk (by rw [Nat.pow_succ] at h; omega)
      omega
theorem dec_length {u : Nat} (h : u < 1000000000000000000) : (Lib.decDigits u).length ≤ 18 := by
  rw [Lib.decDigits_length]
  exact nDigits_le 18 u (by decide) (by simpa using h)
def NoDigit (r : Bs) : Prop := ∀ c t, r = c :: t → digit c = false
theorem span_digits {ds rest : Bs} (h : ∀ c ∈ ds, digit c = true) (hr : NoDigit rest) : (ds ++ rest).takeWhile digit = ds ∧ (ds ++ rest).dropWhile digit = rest := by
  rw [List.takeWhile_append_of_pos h, List.dropWhile_append_of_pos h]
  cases rest with
  | nil => simp
  | cons c t =>
    have := hr c t rfl
    rw [List.takeWhile_cons_of_neg (by simp [this]), List.dropWhile_cons_of_neg (by simp [this])]
    simp
theorem digit_ne45 {c : UInt8} (h : digit c = true) : c ≠ 45 := fun e => by rw [e] at h; revert h; decide
theorem sgn_of {c : UInt8} (t : Bs) (h : c ≠ 45) : sgn (c :: t) = c :: t ∧ negB (c :: t) = false := by
  constructor
  · unfold sgn; split
    · rename_i he; cases he; exact absurd rfl h
    · rfl
  · unfold negB; split
    · rename_i he; cases he; exact absurd rfl h
    · rfl
theorem num_reads {n : Int} {rest : Bs} (h : numOK n) (hr : NoDigit rest) : numE (Lib.itoa n ++ rest) = 0 ∧ numV (Lib.itoa n ++ rest) = n ∧ numR (Lib.itoa n ++ rest) = rest := by
  obtain ⟨h1, h2⟩ := h
  by_cases hn : n < 0
  · obtain ⟨c, t, hd, hc⟩ := dec_head n.natAbs
    have hl := dec_length (u := n.natAbs) (by omega)
    have hs := span_digits (dec_digits n.natAbs) hr
    have e0 : Lib.itoa n ++ rest = 45 :: (Lib.decDigits n.natAbs ++ rest) := by unfold Lib.itoa; rw [if_pos hn]; rfl
    have e1 : sgn (Lib.itoa n ++ rest) = Lib.decDigits n.natAbs ++ rest := by rw [e0]; rfl
    have e2 : negB (Lib.itoa n ++ rest) = true := by rw [e0]; rfl
    have e3 : digs (Lib.itoa n ++ rest) = Lib.decDigits n.natAbs := by unfold digs; rw [e1, hs.1]
    refine ⟨?_, ?_, ?_⟩
    · unfold numE
      rw [e3, hd]
      rw [hd] at hl
      have : c ≠ 48 := fun h0 => by have := (hc h0).1; omega
      simp only [this, false_and, if_false]
      rw [if_neg (by omega)]
    · unfold numV decV
      rw [e2, e3, dec_value]
      simp
      omega
    · unfold numR; rw [e1, hs.2]
  · obtain ⟨c, t, hd, hc⟩ := dec_head n.toNat
    have hl := dec_length (u := n.toNat) (by omega)
    have hs := span_digits (dec_digits n.toNat) hr
    have hdc := dec_digits n.toNat c (by rw [hd]; exact List.mem_cons_self ..)
    have e0 : Lib.itoa n ++ rest = c :: (t ++ rest) := by unfold Lib.itoa; rw [if_neg hn, hd]; rfl
    have e1 : sgn (Lib.itoa n ++ rest) = Lib.decDigits n.toNat ++ rest := by rw [e0, (sgn_of _ (digit_ne45 hdc)).1, hd]; rfl
    have e2 : negB (Lib.itoa n ++ rest) = false := by rw [e0, (sgn_of _ (digit_ne45 hdc)).2]
    have e3 : digs (Lib.itoa n ++ rest) = Lib.decDigits n.toNat := by unfold digs; rw [e1, hs.1]
    refine ⟨?_, ?_, ?_⟩
    · unfold numE
      rw [e3, hd]
      rw [hd] at hl
      dsimp only
      rw [if_neg, if_neg (by omega)]
      rintro ⟨h0, h9⟩
      rw [e2] at h9
      rcases h9 with h9 | h9
      · exact h9 (hc h0).2
      · cases h9
    · unfold numV decV
      rw [e2, e3, dec_value]
      simp
      omega
    · unfold numR; rw [e1, hs.2]
theorem textP_other {c : UInt8} (r : Bs) (h1 : c ≠ 34) (h2 : c ≠ 92) : textP (c :: r) = if c < 32 ∨ 126 < c then none else (textP r).map fun x => (c :: x.1, x.2) := by
  rw [textP]
  · intro h; exact h1 h
  · intro h; exact absurd h h2
  · intro d r' h; exact absurd h h2
theorem stand_cases {c : UInt8} (h : stand c = true) : c = 10 ∨ c = 9 ∨ (¬ (c < 32 ∨ 126 < c)) := by
  unfold stand at h
  simp only [Bool.or_eq_true, Bool.and_eq_true, decide_eq_true_eq, beq_iff_eq] at h
  rcases h with (h | h) | h
  · refine .inr (.inr fun h9 => ?_)
    rcases h9 with h9 | h9
    · exact absurd h9 (UInt8.not_lt.2 h.1)
    · exact absurd h9 (UInt8.not_lt.2 h.2)
  · exact .inl h
  · exact .inr (.inl h)
theorem quote_reads : ∀ (s rest : Bs), s.all stand = true → textP (s.flatMap escB ++ 34 :: rest) = some (s, rest)
  | [], rest, _ => rfl
  | c :: s, rest, h => by
    rw [List.all_cons, Bool.and_eq_true] at h
    have ih := quote_reads s rest h.2
    rw [List.flatMap_cons, List.append_assoc]
    by_cases h1 : c = 34 ∨ c = 92
    · have : escB c = [92, c] := by unfold escB; rw [if_pos h1]
      rw [this]
      show textP (92 :: c :: (s.flatMap escB ++ 34 :: rest)) = _
      rw [textP]
      have : escV c = some c := by unfold escV; rw [if_pos h1]
      rw [this]
      simp only [ih, Option.map_some]
    · by_cases h2 : c = 10
      · subst h2
        show textP (92 :: 110 :: (s.flatMap escB ++ 34 :: rest)) = _
        rw [textP]
        show (textP _).map _ = _
        rw [ih]; rfl
      · by_cases h3 : c = 9
        · subst h3
          show textP (92 :: 116 :: (s.flatMap escB ++ 34 :: rest)) = _
          rw [textP]
          show (textP _).map _ = _
          rw [ih]; rfl
        · have : escB c = [c] := by unfold escB; rw [if_neg h1, if_neg h2, if_neg h3]
          rw [this]
          show textP (c :: (s.flatMap escB ++ 34 :: rest)) = _
          have h4 : ¬ (c < 32 ∨ 126 < c) := by
            rcases stand_cases h.1 with h5 | h5 | h5
            · exact absurd h5 h2
            · exact absurd h5 h3
            · exact h5
          rw [textP_other _ (fun h => h1 (.inl h)) (fun h => h1 (.inr h)), if_neg h4, ih]
          rfl
def EndOK (v : JV) (rest : Bs) : Prop := match v with
  | .num _ => NoDigit rest
  | _ => True
theorem endOK_of {c : UInt8} (v : JV) (t : Bs) (h : digit c = false) : EndOK v (c :: t) := by
  unfold EndOK
  split
  · intro c' t' h'; cases h'; exact h
  · trivial
theorem digit_starts {c : UInt8} (h : digit c = true) : starts c = true ∧ blank c = false ∧ c ≠ 93 ∧ c ≠ 91 ∧ c ≠ 123 ∧ c ≠ 34 ∧ c ≠ 116 ∧ c ≠ 102 ∧ c ≠ 110 := by
  have : ∀ c : UInt8, digit c = true → starts c = true ∧ blank c = false ∧ c ≠ 93 ∧ c ≠ 91 ∧ c ≠ 123 ∧ c ≠ 34 ∧ c ≠ 116 ∧ c ≠ 102 ∧ c ≠ 110 := by
    intro c h
    refine ⟨by simp [starts, h], ?_, ?_, ?_, ?_, ?_, ?_, ?_, ?_⟩
    · unfold digit at h
      simp only [Bool.and_eq_true, decide_eq_true_eq] at h
      unfold blank
      simp only [Bool.or_eq_false_iff, beq_eq_false_iff_ne]
      refine ⟨⟨?_, ?_⟩, ?_⟩ <;> (intro e; subst e; revert h; decide)
    all_goals (intro e; subst e; revert h; decide)
  exact this c h
theorem num_head (n : Int) : ∃ c t, Lib.itoa n = c :: t ∧ (c = 45 ∨ digit c = true) := by
  unfold Lib.itoa
  split
  · exact ⟨45, _, rfl, .inl rfl⟩
  · obtain ⟨c, t, hd, _⟩ := dec_head n.toNat
    exact ⟨c, t, hd, .inr (dec_digits n.toNat c (by rw [hd]; exact List.mem_cons_self ..))⟩
theorem text_head (v : JV) : ∃ c t, text v = c :: t ∧ starts c = true ∧ blank c = false ∧ c ≠ 93 := by
  cases v with
  | nul => exact ⟨110, _, rfl, by decide, by decide, by decide⟩
  | bool b => cases b with
    | true => exact ⟨116, _, rfl, by decide, by decide, by decide⟩
    | false => exact ⟨102, _, rfl, by decide, by decide, by decide⟩
  | num n =>
    obtain ⟨c, t, h, hc⟩ := num_head n
    refine ⟨c, t, h, ?_⟩
    rcases hc with rfl | hc
    · exact ⟨by decide, by decide, by decide⟩
    · have := digit_starts hc; exact ⟨this.1, this.2.1, this.2.2.1⟩
  | str s => exact ⟨34, _, rfl, by decide, by decide, by decide⟩
  | list l => exact ⟨91, _, by rw [text], by decide, by decide, by decide⟩
  | obj l => exact ⟨123, _, by rw [text], by decide, by decide, by decide⟩
theorem begin_at {c : UInt8} (t : Bs) (m : Nat) (st : List Fr) (h : blank c = false) : beginP (c :: t) m st = beginC c t m st := by
  unfold beginP
  rw [skip_of t h]
theorem begin_plain {c : UInt8} {t : Bs} {m : Nat} {st : List Fr} (h : starts c = true) (hm : m + 1 ≤ 200) (h1 : c ≠ 91) (h2 : c ≠ 123) : beginC c t m st = plainP c (c :: t) (m + 1) st := by
  unfold beginC
  rw [if_neg (by simp [h]), if_neg (by omega), if_neg (by simp [h1, h2]), if_neg h1, if_neg h2]
theorem word_reads (v : JV) (p rest : Bs) (m : Nat) (st : List Fr) : wordP v p (p ++ rest) m st = .whole v rest m st := by
  unfold wordP
  rw [if_pos (List.isPrefixOf_iff_prefix.2 (List.prefix_append _ _)), List.drop_left]
theorem put_end {n : Bs} {v : JV} : ∀ {d : List (Bs × JV)}, (∀ x ∈ d, x.1 < n) → put n v d = d ++ [(n, v)]
  | [], _ => rfl
  | (m, x) :: r, h => by
    have := h (m, x) (List.mem_cons_self ..)
    unfold put
    rw [if_pos this, put_end fun y hy => h y (List.mem_cons_of_mem _ hy)]
    rfl
theorem bs_irrefl (n : Bs) : ¬ n < n := List.lt_irrefl n
theorem get_none {n : Bs} : ∀ {d : List (Bs × JV)}, (∀ x ∈ d, x.1 ≠ n) → get n d = none
  | [], _ => rfl
  | (m, x) :: r, h => by
    unfold get
    rw [if_neg (h (m, x) (List.mem_cons_self ..)), get_none fun y hy => h y (List.mem_cons_of_mem _ hy)]
theorem reads : (∀ v, wf v → ∀ (rest : Bs) (m : Nat) (st : List Fr), m + size v ≤ 200 → deep v + st.length ≤ 10 → EndOK v rest → fin (.more (text v ++ rest) m st) = fin (.whole v rest (m + size v) st)) ∧
    (∀ l, wfL l → l ≠ [] → ∀ (d : List JV) (rest : Bs) (m : Nat) (st : List Fr), m + sizeL l ≤ 200 → deepL l + st.length + 1 ≤ 10 → fin (.more (Lib.join (textL l) [44] ++ 93 :: rest) m (.lst d :: st)) = fin (.whole (.list (d ++ l)) rest (m + sizeL l) st)) ∧
    (∀ l, wfF l → l ≠ [] → ∀ (d : List (Bs × JV)) (rest : Bs) (m : Nat) (st : List Fr), Srt (d ++ l) → m + sizeF l ≤ 200 → deepF l + st.length + 1 ≤ 10 → fin (fieldP (Lib.join (textF l) [44] ++ 125 :: rest) m d st) = fin (.whole (.obj (d ++ l)) rest (m + sizeF l) st)) := by
  refine JV.both ?_ ?_ ?_ ?_ ?_ ?_ ?_ ?_ ?_ ?_
  · intro _ rest m st hm _ _
    rw [fin_more]
    show fin (beginP (110 :: ([117, 108, 108] ++ rest)) m st) = _
    simp only [size] at hm ⊢
    rw [begin_at _ _ _ (by decide), begin_plain (by decide) hm (by decide) (by decide)]
    show fin (wordP .nul [110, 117, 108, 108] ([110, 117, 108, 108] ++ rest) (m + 1) st) = _
    rw [word_reads]
  · intro b _ rest m st hm _ _
    rw [fin_more]
    simp only [size] at hm ⊢
    cases b with
    | true =>
      show fin (beginP (116 :: ([114, 117, 101] ++ rest)) m st) = _
      rw [begin_at _ _ _ (by decide), begin_plain (by decide) hm (by decide) (by decide)]
      show fin (wordP (.bool true) [116, 114, 117, 101] ([116, 114, 117, 101] ++ rest) (m + 1) st) = _
      rw [word_reads]
    | false =>
      show fin (beginP (102 :: ([97, 108, 115, 101] ++ rest)) m st) = _
      rw [begin_at _ _ _ (by decide), begin_plain (by decide) hm (by decide) (by decide)]
      show fin (wordP (.bool false) [102, 97, 108, 115, 101] ([102, 97, 108, 115, 101] ++ rest) (m + 1) st) = _
      rw [word_reads]
  · intro n hn rest m st hm _ he
    simp only [size] at hm ⊢
    rw [fin_more]
    show fin (beginP (Lib.itoa n ++ rest) m st) = _
    obtain ⟨e1, e2, e3⟩ := num_reads (by simpa only [wf] using hn) he
    obtain ⟨c, t, hc, hd⟩ := num_head n
    have hb : starts c = true ∧ blank c = false ∧ c ≠ 91 ∧ c ≠ 123 ∧ c ≠ 34 ∧ c ≠ 116 ∧ c ≠ 102 ∧ c ≠ 110 := by
      rcases hd with rfl | hd
      · decide
      · have := digit_starts hd
        exact ⟨this.1, this.2.1, this.2.2.2.1, this.2.2.2.2.1, this.2.2.2.2.2.1, this.2.2.2.2.2.2.1, this.2.2.2.2.2.2.2.1, this.2.2.2.2.2.2.2.2⟩
    obtain ⟨b1, b2, b3, b4, b5, b6, b7, b8⟩ := hb
    rw [hc] at e1 e2 e3 ⊢
    rw [show c :: t ++ rest = c :: (t ++ rest) from rfl] at e1 e2 e3 ⊢
    rw [begin_at _ _ _ b2, begin_plain b1 hm b3 b4]
    unfold plainP
    rw [if_neg b5, if_neg b6, if_neg b7, if_neg b8, if_pos e1, e2, e3]
  · intro s hs rest m st hm _ _
    simp only [size] at hm ⊢
    rw [fin_more]
    have : text (.str s) ++ rest = 34 :: (s.flatMap escB ++ 34 :: rest) := by rw [text]; unfold quote; simp
    rw [this, begin_at _ _ _ (by decide), begin_plain (by decide) hm (by decide) (by decide)]
    unfold plainP
    rw [if_pos rfl, List.tail_cons, quote_reads s rest (by simpa only [wf] using hs)]
  · intro l ih hw rest m st hm hd _
    simp only [wf] at hw
    simp only [size] at hm ⊢
    simp only [deep] at hd
    rw [fin_more]
    have e0 : text (.list l) ++ rest = 91 :: (Lib.join (textL l) [44] ++ 93 :: rest) := by rw [text]; simp
    rw [e0, begin_at _ _ _ (by decide)]
    unfold beginC
    rw [if_neg (by decide), if_neg (by omega), if_neg (by rintro ⟨_, h⟩; omega), if_pos rfl]
    cases l with
    | nil =>
      have e1 : skip (Lib.join (textL []) [44] ++ 93 :: rest) = 93 :: rest := skip_of _ (by decide)
      rw [e1, List.head?_cons, if_pos rfl]
      rfl
    | cons v r =>
      have hh : ∃ c t, Lib.join (textL (v :: r)) [44] ++ 93 :: rest = c :: t ∧ blank c = false ∧ c ≠ 93 := by
        obtain ⟨c, t, h1, _, h2, h3⟩ := text_head v
        rw [textL]
        cases hr : textL r with
        | nil => rw [joinB_one, h1]; exact ⟨c, _, rfl, h2, h3⟩
        | cons y q => rw [joinB_more, h1]; exact ⟨c, _, rfl, h2, h3⟩
      obtain ⟨c, t, h1, h2, h3⟩ := hh
      have := ih hw (by simp) [] rest (m + 1) st (by omega) (by omega)
      rw [h1] at this ⊢
      rw [skip_of _ h2, if_neg (by simpa using h3), this, Nat.add_assoc]
      rfl
  · intro l ih hw rest m st hm hd _
    simp only [wf] at hw
    simp only [size] at hm ⊢
    simp only [deep] at hd
    rw [fin_more]
    have e0 : text (.obj l) ++ rest = 123 :: (Lib.join (textF l) [44] ++ 125 :: rest) := by rw [text]; simp
    rw [e0, begin_at _ _ _ (by decide)]
    unfold beginC
    rw [if_neg (by decide), if_neg (by omega), if_neg (by rintro ⟨_, h⟩; omega), if_neg (by decide), if_pos rfl]
    cases l with
    | nil =>
      have e1 : skip (Lib.join (textF []) [44] ++ 125 :: rest) = 125 :: rest := skip_of _ (by decide)
      rw [e1, List.head?_cons, if_pos rfl]
      rfl
    | cons x r =>
      obtain ⟨n, v⟩ := x
      have hh : ∃ t, Lib.join (textF ((n, v) :: r)) [44] ++ 125 :: rest = 34 :: t := by
        rw [textF]
        cases hr : textF r with
        | nil => rw [joinB_one]; exact ⟨_, rfl⟩
        | cons y q => rw [joinB_more]; exact ⟨_, rfl⟩
      obtain ⟨t, h1⟩ := hh
      have := ih hw.2 (by simp) [] rest (m + 1) st (by simpa using hw.1) (by omega) (by omega)
      rw [h1] at this ⊢
      rw [skip_of _ (by decide), if_neg (by simp), this, Nat.add_assoc]
      rfl
  · intro _ h; exact absurd rfl h
  · intro v r ihv ihr hw _ d rest m st hm hd
    rw [wfL] at hw
    rw [sizeL] at hm ⊢
    rw [deepL] at hd
    cases r with
    | nil =>
      rw [textL, textL, joinB_one]
      rw [ihv hw.1 (93 :: rest) m (.lst d :: st) (by omega) (by simp only [List.length_cons]; omega) (endOK_of _ _ (by decide)), fin_whole]
      unfold goesP
      dsimp only
      rw [skip_of _ (by decide)]
      dsimp only
      rw [if_pos rfl, sizeL]
      rfl
    | cons x q =>
      have e0 : Lib.join (textL (v :: x :: q)) [44] ++ 93 :: rest = text v ++ (44 :: (Lib.join (textL (x :: q)) [44] ++ 93 :: rest)) := by
        rw [textL, textL, joinB_more]; simp
      rw [e0, ihv hw.1 _ m (.lst d :: st) (by omega) (by simp only [List.length_cons]; omega) (endOK_of _ _ (by decide)), fin_whole]
      unfold goesP
      dsimp only
      rw [skip_of _ (by decide)]
      dsimp only
      rw [if_neg (by decide), if_pos rfl]
      rw [ihr hw.2 (by simp) (d ++ [v]) rest (m + size v) st (by omega) (by omega), Nat.add_assoc]
      simp
  · intro _ h; exact absurd rfl h
  · intro n v r ihv ihr hw _ d rest m st hs hm hd
    rw [wfF] at hw
    rw [sizeF] at hm ⊢
    rw [deepF] at hd
    have hlt : ∀ x ∈ d, x.1 < n := fun x hx => (List.pairwise_append.1 hs).2.2 x hx (n, v) (List.mem_cons_self ..)
    have hg : get n d = none := get_none fun x hx e => bs_irrefl n (by have := hlt x hx; rwa [e] at this)
    have step : ∀ tail : Bs, (∃ c t, tail = c :: t ∧ digit c = false) → fin (fieldP (quote n ++ 58 :: (text v ++ tail)) m d st) = fin (.whole v tail (m + size v) (.ob d n :: st)) := by
      rintro tail ⟨c, t, rfl, hc⟩
      have e1 : quote n ++ 58 :: (text v ++ c :: t) = 34 :: (n.flatMap escB ++ 34 :: 58 :: (text v ++ c :: t)) := by unfold quote; simp
      rw [e1]
      unfold fieldP
      rw [skip_of _ (by decide)]
      dsimp only
      rw [if_pos rfl, quote_reads n _ hw.1]
      dsimp only
      unfold fieldN
      rw [hg, if_neg (by simp), skip_of _ (by decide)]
      dsimp only
      rw [if_pos rfl]
      exact ihv hw.2.1 _ m _ (by omega) (by simp only [List.length_cons]; omega) (endOK_of _ _ hc)
    cases r with
    | nil =>
      have e0 : Lib.join (textF [(n, v)]) [44] ++ 125 :: rest = quote n ++ 58 :: (text v ++ 125 :: rest) := by
        rw [textF, textF, joinB_one]; simp
      rw [e0, step _ ⟨125, rest, rfl, by decide⟩, fin_whole]
      unfold goesP
      dsimp only
      rw [skip_of _ (by decide)]
      dsimp only
      rw [if_pos rfl, put_end hlt, sizeF]
      rfl
    | cons x q =>
      obtain ⟨k, u⟩ := x
      have e0 : Lib.join (textF ((n, v) :: (k, u) :: q)) [44] ++ 125 :: rest = quote n ++ 58 :: (text v ++ (44 :: (Lib.join (textF ((k, u) :: q)) [44] ++ 125 :: rest))) := by
        rw [textF, textF, joinB_more]; simp
      rw [e0, step _ ⟨44, _, rfl, by decide⟩, fin_whole]
      unfold goesP
      dsimp only
      rw [skip_of _ (by decide)]
      dsimp only
      rw [if_neg (by decide), if_pos rfl, put_end hlt]
      rw [ihr hw.2.2 (by simp) (d ++ [(n, v)]) rest (m + size v) st (by simpa using hs) (by omega) (by omega), Nat.add_assoc]
      simp
end JP
end Go.Proofs.YtnnceaapodgfbaaGreatDoor
namespace Go.Proofs.YtnnceaapodgfbaaGreatDoor
open Go
section
variable {P : Program} {ops : Array Oper} {md : Region.Mode}
inductive Behind (md : Region.Mode) (ops : Array Oper) (i : Nat) : Nat → Prop
  | edge {t : Nat} {o : Oper} {e : Edge} (ho : ops[t]? = some o) (he : e ∈ o.after) (hb : Region.binds md e = true) (hi : e.on = i) : Behind md ops i t
  | step {t : Nat} {o : Oper} {e : Edge} (ho : ops[t]? = some o) (he : e ∈ o.after) (hb : Region.binds md e = true) (h : Behind md ops i e.on) : Behind md ops i t
def Shut (md : Region.Mode) (ops : Array Oper) (listed : Array Bool) : Prop :=
  ∀ j oj, ops[j]? = some oj → listed.getD j false = true → ∀ e ∈ oj.after, Region.binds md e = true → listed.getD e.on false = true
theorem Behind.listed {i t : Nat} {listed : Array Bool} (h : Behind md ops i t) (hc : Shut md ops listed) :
    (∀ o, ops[t]? = some o → ∀ e ∈ o.after, Region.binds md e = true → listed.getD e.on false = true) → listed.getD i false = true := by
  induction h with
  | edge ho he hb hi => intro hall; rw [← hi]; exact hall _ ho _ he hb
  | step ho he hb _ ih =>
    intro hall
    have h1 := hall _ ho _ he hb
    exact ih (fun o2 ho2 e2 he2 hb2 => hc _ o2 ho2 h1 e2 he2 hb2)
theorem Shut.set {i : Nat} {listed : Array Bool} (hc : Shut md ops listed) (hi : i ∈ Region.ready md ops listed) : Shut md ops (listed.setIfInBounds i true) := by
  obtain ⟨_, oi, hoi, hall⟩ := mem_ready.1 hi
  intro j oj hj hl e he hb
  by_cases hij : i = j
  · subst hij
    have : oj = oi := Option.some.inj (hj.symm.trans hoi)
    subst this
    exact getD_set_true (hall e he hb)
  · rw [getD_set_ne false hij] at hl
    exact getD_set_true (hc j oj hj hl e he hb)
end
end Go.Proofs.YtnnceaapodgfbaaGreatDoor
namespace Go.Proofs.YtnnceaapodgfbaaGreatDoor
open Go
section
variable {P : Program} {ops : Array Oper} {md : Region.Mode} {I : World → Prop}
def gives (P : Program) (R : Value → World → Prop) : Result Next → Prop
  | .ok (.value v) w' => R v w'
  | .ok .skip w' => R undef w'
  | .ok (.enter f args) w' => Calls P f args w' fun e w'' => ∃ v, e = .returned v ∧ R v w''
  | _ => False
theorem gives_upon {o : Oper} {a : Act} {R : Value → World → Prop} {K : Act → World → Prop} {Q : Exit → Act → World → Prop} (h : ∀ v w, R v w → K (a.put o.dst v) w) :
    ∀ {r : Result Next}, gives P R r → o.upon P a K Q r
  | .ok (.value v) w', hr => h _ _ hr
  | .ok .skip w', hr => h _ _ hr
  | .ok (.enter f args) w', hr => Calls.mono hr fun e w'' he => by
      obtain ⟨v, rfl, hR⟩ := he
      exact h _ _ hR
def YieldsIn (P : Program) (ops : Array Oper) (I : World → Prop) (o : Oper) (v : Value) (a : Act) : Prop :=
  (Region.wanted o (yielded ops a.tmps) = true ∧ ∀ w, I w → gives P (fun u w' => u = v ∧ I w') ((execOp a.eval o).run P w)) ∨
  (Region.wanted o (yielded ops a.tmps) = false ∧ v = undef)
theorem YieldsIn.of_same {o : Oper} {v : Value} {a a' : Act} (hy : YieldsIn P ops I o v a) (he : execOp a'.eval o = execOp a.eval o)
    (hw : Region.wanted o (yielded ops a'.tmps) = Region.wanted o (yielded ops a.tmps)) : YieldsIn P ops I o v a' := by
  unfold YieldsIn at *
  rw [he, hw]
  exact hy
theorem YieldsIn.wpOp {i : Nat} {o : Oper} {v : Value} {a : Act} {w : World} (hi : ops[i]? = some o) (hy : YieldsIn P ops I o v a) (hI : I w) {K : Act → World → Prop} {Q : Exit → Act → World → Prop}
    (h : ∀ w', I w' → K (a.put o.dst v) w') : wpOp P ops Q i K a w := by
  unfold Go.wpOp
  simp only [hi]
  rcases hy with ⟨hw, hv⟩ | ⟨hw, rfl⟩
  · simp only [hw, if_true]
    refine .inl ?_
    unfold Oper.wp
    exact gives_upon (R := fun u w' => u = v ∧ I w') (fun u w' hR => by obtain ⟨rfl, hI'⟩ := hR; exact h _ hI') (hv w hI)
  · simp only [hw, Bool.false_eq_true, if_false]
    exact h _ hI
def wpHold (P : Program) (ops : Array Oper) (I : World → Prop) (Q : Act → Prop) : List Oper → Act → Prop
  | [], a => Q a
  | o :: rest, a => ∃ v, YieldsIn P ops I o v a ∧ wpHold P ops I Q rest (a.put o.dst v)
def wpAnyV (P : Program) (md : Region.Mode) (ops : Array Oper) (I : World → Prop) (n : Nat) (L : Array Bool → Act → Prop) : Nat → Array Bool → Act → Prop
  | 0, listed, a => L listed a
  | f + 1, listed, a =>
    Region.ready md ops listed ≠ [] ∧ ∀ i ∈ Region.ready md ops listed, i < n ∧ ∃ o v, ops[i]? = some o ∧ YieldsIn P ops I o v a ∧ wpAnyV P md ops I n L f (listed.setIfInBounds i true) (a.put o.dst v)
theorem wpAny_of_hold {n g : Nat} {L : Array Bool → Act → Prop} {Q' : Exit → Act → World → Prop} (hL : ∀ listed a w, L listed a → I w → wpAny P md ops Q' g listed a w) :
    ∀ (f : Nat) (listed : Array Bool) (a : Act) (w : World), I w → wpAnyV P md ops I n L f listed a → wpAny P md ops Q' (f + g) listed a w
  | 0, listed, a, w, hI, h => by rw [Nat.zero_add]; exact hL _ _ _ h hI
  | f + 1, listed, a, w, hI, h => by
    rw [show f + 1 + g = (f + g) + 1 by omega]
    refine ⟨fun h0 => absurd h0 h.1, fun i hi => ?_⟩
    obtain ⟨_, o, v, ho, hy, hK⟩ := h.2 i hi
    exact hy.wpOp ho hI fun w' hI' => wpAny_of_hold hL f _ _ w' hI' hK
theorem wpAnyV_first {n i : Nat} {oi : Oper} {v : Value} {L : Array Bool → Act → Prop} (hi : ops[i]? = some oi) (hsel : ∀ (j : Nat) (o : Oper) cs b, ops[j]? = some o → o.op ≠ .select cs b)
    (htw : ∀ (listed : Array Bool) (i : Nat), HeadInv md ops n listed → i < n → listed.getD i true = false → ∀ t, n ≤ t → t ∉ Region.ready md ops listed) (hin : i < n)
    (hdone : ∀ listed a, L listed a → ∀ j ∈ Region.ready md ops listed, n ≤ j) :
    ∀ (f : Nat) (listed : Array Bool) (a : Act), HeadInv md ops n listed →
      (∀ j oj, ops[j]? = some oj → j ≠ i → listed.getD j true = false → (∀ e ∈ oj.after, Region.binds md e = true → e.on ≠ i) → oi.apart ops oj = true) →
      i ∈ Region.ready md ops listed → YieldsIn P ops I oi v a →
      wpAnyV P md ops I n L f (listed.setIfInBounds i true) (a.put oi.dst v) → wpAnyV P md ops I n L (f + 1) listed a := by
  intro f
  induction f with
  | zero =>
    intro listed a inv _ hr hy H
    have hun := (mem_ready.1 hr).1
    refine ⟨fun h => (by rw [h] at hr; cases hr), fun j hj => ?_⟩
    have hjn : j < n := by
      rcases Nat.lt_or_ge j n with h | h
      · exact h
      · exact absurd hj (htw _ i inv hin hun j h)
    refine ⟨hjn, ?_⟩
    by_cases hji : j = i
    · subst hji; exact ⟨oi, v, hi, hy, H⟩
    · have := hdone _ _ H j (ready_mono hj hji)
      omega
  | succ f ih =>
    intro listed a inv hfree hr hy H
    have hun := (mem_ready.1 hr).1
    refine ⟨fun h => (by rw [h] at hr; cases hr), fun j hj => ?_⟩
    have hjn : j < n := by
      rcases Nat.lt_or_ge j n with h | h
      · exact h
      · exact absurd hj (htw _ i inv hin hun j h)
    refine ⟨hjn, ?_⟩
    by_cases hji : j = i
    · subst hji; exact ⟨oi, v, hi, hy, H⟩
    · obtain ⟨oj, u, hoj, hyj, hK⟩ := (H.2 j (ready_mono hj hji)).2
      obtain ⟨hjun, oj', hoj', hall⟩ := mem_ready.1 hj
      have : oj' = oj := Option.some.inj (hoj'.symm.trans hoj)
      subst this
      have hnot : ∀ e ∈ oj'.after, Region.binds md e = true → e.on ≠ i := fun e he hb heq => by
        have h1 := hall e he hb
        rw [heq, getD_both hun] at h1
        cases h1
      have hap := hfree j oj' hoj hji hjun hnot
      obtain ⟨h1, h2, h3⟩ := Oper.apart_spec hap
      have hfree' : ∀ k ok, ops[k]? = some ok → k ≠ i → (listed.setIfInBounds j true).getD k true = false →
          (∀ e ∈ ok.after, Region.binds md e = true → e.on ≠ i) → oi.apart ops ok = true := fun k ok hk hki hun' hno => by
        refine hfree k ok hk hki ?_ hno
        by_cases hjk : j = k
        · subst hjk; exact hjun
        · rw [getD_set_ne true hjk] at hun'; exact hun'
      have hyj' : YieldsIn P ops I oj' u a := hyj.of_same (execOp_put oj' (fun cs b => hsel j oj' cs b hoj) a oi.dst v h1).symm (wanted_put oj' a oi.dst v h1).symm
      have hyi' : YieldsIn P ops I oi v (a.put oj'.dst u) := hy.of_same (execOp_put oi (fun cs b => hsel i oi cs b hi) a oj'.dst u h3) (wanted_put oi a oj'.dst u h3)
      refine ⟨oj', u, hoj, hyj', ih (listed.setIfInBounds j true) _ (inv.set hj hjn) hfree' (ready_mono hr (Ne.symm hji)) hyi' ?_⟩
      rw [Array.setIfInBounds_comm _ _ hji, ← Act.put_comm a v u h2]
      exact hK
theorem wpAnyV_lex {n g : Nat} {Lq : Act → Prop} (hsel : Region.noSelect ops = true)
    (htw : ∀ (listed : Array Bool) (i : Nat), HeadInv md ops n listed → i < n → listed.getD i true = false → ∀ t, n ≤ t → t ∉ Region.ready md ops listed) :
    ∀ (l : List Oper) (k : Nat) (listed : Array Bool) (a : Act), (∀ j, j < l.length → l[j]? = ops[k + j]?) → k + l.length = n → HeadInv md ops n listed →
    Region.lexHead md ops g l.length k listed = true → wpHold P ops I Lq l a →
    wpAnyV P md ops I n (fun listed' a' => Region.seqB md ops g n listed' = true ∧ Lq a') l.length listed a
  | [], k, listed, a, _, hk, _, hB, h => by
    have : k = n := by simpa using hk
    subst this
    exact ⟨by simpa [Region.lexHead] using hB, h⟩
  | o :: l, k, listed, a, hl, hk, inv, hB, h => by
    have h0 : ops[k]? = some o := by simpa using (hl 0 (by simp)).symm
    simp only [List.length_cons, Region.lexHead, Bool.and_eq_true] at hB
    obtain ⟨⟨hr, hf⟩, hB'⟩ := hB
    have hkn : k < n := by simp only [List.length_cons] at hk; omega
    have hr' : k ∈ Region.ready md ops listed := by simpa using hr
    obtain ⟨v, hy, hK⟩ := h
    exact wpAnyV_first h0 (Region.noSelect_spec hsel) htw hkn (fun listed' a' hL => seqB_ready hL.1) l.length listed a inv (Region.free_spec h0 hf) hr' hy
      (wpAnyV_lex hsel htw l (k + 1) _ _ (fun j hj => by have := hl (j + 1) (by simp; omega); simpa [Nat.add_assoc, Nat.add_comm 1 j] using this) (by simp only [List.length_cons] at hk; omega) (inv.set hr' hkn) hB' hK)
theorem wp_region_hold {id : Nat} {Q : Exit → Act → World → Prop} {a : Act} {w : World} {l : List Oper} (n : Nat) (I : World → Prop) (hm : P.follows .mixedOrders = true) (hB : Region.lexTailB .any l.toArray n = true)
    (hI : I w.drew) (h : wpHold P l.toArray I (fun a' => ∀ w', I w' → wpList P l.toArray Q (l.drop n) a' w') (l.take n) a) : (Code.region id l.toArray true).wp P Q a w := by
  simp only [Region.lexTailB, Bool.and_eq_true, decide_eq_true_eq] at hB
  obtain ⟨⟨⟨⟨hsel, hn⟩, hs⟩, hc⟩, hlex⟩ := hB
  have hn' : n < l.length := by simpa using hn
  have htl : (l.take n).length = n := by simp; omega
  have hdl : (l.drop n).length = l.toArray.size - n := by simp
  have inv0 : HeadInv .any l.toArray n (Array.replicate l.toArray.size false) :=
    ⟨by simp, fun j oj _ hl => (by rw [getD_replicate_false] at hl; cases hl), fun t _ ht => getD_in (by simpa using ht) (getD_replicate_false _ _)⟩
  have H := wpAnyV_lex (md := .any) (g := l.toArray.size - n) (n := n) hsel (fun listed i inv hi hun => tail_waits hs hc hn inv _ i rfl hi hun) (l.take n) 0 _ a (fun j hj => by
    have hj' : j < n := by rw [htl] at hj; exact hj
    simp [hj']) (by simpa using htl) inv0 (by rw [htl]; exact hlex) h
  refine wp_region_any hm ?_
  have := wpAny_of_hold (Q' := Q) (g := l.toArray.size - n) (fun listed a' w' hL hI' => by
    have := wpAny_of_seq (md := .any) (Q' := Q) (l.drop n) n listed a' w' (fun j => by simp [List.getElem?_drop]) (by rw [hdl]; exact hL.1) (hL.2 w' hI')
    rwa [hdl] at this) _ _ _ w.drew hI H
  rw [htl, show n + (l.toArray.size - n) = l.toArray.size by omega] at this
  exact this
theorem below_then {a b c : World} (h : RowKit.Below a.heap.size a b) (k : RowKit.Below b.heap.size b c) : RowKit.Below a.heap.size a c := h.trans (k.mono h.size)
theorem wpHold_nil {Q : Act → Prop} {a : Act} (h : Q a) : wpHold P ops I Q [] a := h
theorem wpHold_pure {Q : Act → Prop} {a : Act} {o : Oper} {rest : List Oper} {v : Value} (hg : o.guard = none) (h : ∀ w, (execOp a.eval o).run P w = .ok (.value v) w) (k : wpHold P ops I Q rest (a.put o.dst v)) :
    wpHold P ops I Q (o :: rest) a :=
  ⟨v, .inl ⟨by simp [Region.wanted, hg], fun w hI => by rw [h w]; exact ⟨rfl, hI⟩⟩, k⟩
theorem wpHold_read {Q : Act → Prop} {a : Act} {o : Oper} {rest : List Oper} {v : Value} (hg : o.guard = none) (h : ∀ w, I w → (execOp a.eval o).run P w = .ok (.value v) w) (k : wpHold P ops I Q rest (a.put o.dst v)) :
    wpHold P ops I Q (o :: rest) a :=
  ⟨v, .inl ⟨by simp [Region.wanted, hg], fun w hI => by rw [h w hI]; exact ⟨rfl, hI⟩⟩, k⟩
theorem wpHold_call {Q : Act → Prop} {a : Act} {o : Oper} {rest : List Oper} {v : Value} {f : FuncId} {args : Array Value} (hg : o.guard = none) (h : ∀ w, (execOp a.eval o).run P w = .ok (.enter f args) w)
    (hc : ∀ w, I w → Calls P f args w fun e w' => e = .returned v ∧ I w') (k : wpHold P ops I Q rest (a.put o.dst v)) : wpHold P ops I Q (o :: rest) a :=
  ⟨v, .inl ⟨by simp [Region.wanted, hg], fun w hI => by rw [h w]; exact (hc w hI).mono fun e w' h' => ⟨v, h'.1, rfl, h'.2⟩⟩, k⟩
theorem wpHold_pure' {Q : Act → Prop} {a : Act} {o : Oper} {rest : List Oper} {v : Value} (hg : Region.wanted o (yielded ops a.tmps) = true) (h : ∀ w, (execOp a.eval o).run P w = .ok (.value v) w) (k : wpHold P ops I Q rest (a.put o.dst v)) :
    wpHold P ops I Q (o :: rest) a :=
  ⟨v, .inl ⟨hg, fun w hI => by rw [h w]; exact ⟨rfl, hI⟩⟩, k⟩
theorem wpHold_skip {Q : Act → Prop} {a : Act} {o : Oper} {rest : List Oper} (hg : Region.wanted o (yielded ops a.tmps) = false) (k : wpHold P ops I Q rest (a.put o.dst undef)) : wpHold P ops I Q (o :: rest) a :=
  ⟨undef, .inr ⟨hg, rfl⟩, k⟩
end
end Go.Proofs.YtnnceaapodgfbaaGreatDoor
namespace Go.Proofs.YtnnceaapodgfbaaGreatDoor
open Go
section
variable {P : Program} {ops : Array Oper} {md : Region.Mode}
def putAll : List Oper → (Nat → Value) → Nat → Act → Act
  | [], _, _, a => a
  | o :: r, u, k, a => putAll r u (k + 1) (a.put o.dst (u k))
def slotOf (a : Act) : Option Tmp → Value
  | some d => a.tmps.getD d undef
  | none => undef
theorem put_same (a : Act) (d : Option Tmp) (v w : Value) : (a.put d v).put d w = a.put d w := by
  cases d with
  | none => rfl
  | some d => simp [Act.put]
theorem put_own (a : Act) (d : Option Tmp) : a.put d (slotOf a d) = a := by
  cases d with
  | none => rfl
  | some d =>
    unfold Act.put slotOf
    simp only
    congr 1
    apply Array.ext
    · simp
    · intro i h1 h2
      rw [Array.getElem_setIfInBounds]
      split
      · rename_i h
        subst h
        simp [Array.getD, h2]
      · rfl
def apartDsts (l : List Oper) : Prop := l.Pairwise fun x y => ∀ d, x.dst = some d → y.dst ≠ some d
theorem putAll_put : ∀ (l : List Oper) (u : Nat → Value) (k : Nat) (a : Act) (d : Option Tmp) (v : Value), (∀ o ∈ l, ∀ t, d = some t → o.dst ≠ some t) → (putAll l u k a).put d v = putAll l u k (a.put d v)
  | [], _, _, _, _, _, _ => rfl
  | o :: r, u, k, a, d, v, h => by
    show (putAll r u (k + 1) (a.put o.dst (u k))).put d v = putAll r u (k + 1) ((a.put d v).put o.dst (u k))
    rw [putAll_put r u (k + 1) _ d v (fun o' ho => h o' (List.mem_cons_of_mem _ ho)), ← Act.put_comm a v (u k) (h o (List.mem_cons_self ..))]
theorem putAll_congr : ∀ (l : List Oper) (u u' : Nat → Value) (k : Nat) (a : Act), (∀ j, k ≤ j → u j = u' j) → putAll l u k a = putAll l u' k a
  | [], _, _, _, _, _ => rfl
  | o :: r, u, u', k, a, h => by
    show putAll r u (k + 1) (a.put o.dst (u k)) = putAll r u' (k + 1) (a.put o.dst (u' k))
    rw [h k (Nat.le_refl _)]
    exact putAll_congr r u u' (k + 1) _ (fun j hj => h j (by omega))
theorem putAll_set : ∀ (l : List Oper) (u : Nat → Value) (k i : Nat) (a : Act) (o : Oper) (v : Value), apartDsts l → l[i]? = some o → (putAll l u k a).put o.dst v = putAll l (fun j => if j = k + i then v else u j) k a
  | [], _, _, _, _, _, _, _, h => by simp at h
  | x :: r, u, k, 0, a, o, v, hd, h => by
    obtain rfl : x = o := by simpa using h
    show (putAll r u (k + 1) (a.put x.dst (u k))).put x.dst v = putAll r _ (k + 1) (a.put x.dst (if k = k + 0 then v else u k))
    rw [if_pos (by omega), putAll_put r u (k + 1) _ x.dst v (fun o' ho t ht => (List.pairwise_cons.1 hd).1 o' ho t ht), put_same]
    exact putAll_congr r _ _ (k + 1) _ (fun j hj => by rw [if_neg (by omega)])
  | x :: r, u, k, i + 1, a, o, v, hd, h => by
    show (putAll r u (k + 1) (a.put x.dst (u k))).put o.dst v = putAll r _ (k + 1) (a.put x.dst (if k = k + (i + 1) then v else u k))
    rw [if_neg (by omega), putAll_set r u (k + 1) i _ o v (List.pairwise_cons.1 hd).2 (by simpa using h)]
    exact putAll_congr r _ _ (k + 1) _ (fun j _ => by simp [show k + 1 + i = k + (i + 1) by omega])
theorem putAll_own : ∀ (l : List Oper) (k : Nat) (a : Act) (u : Nat → Value), (∀ j o, l[j]? = some o → u (k + j) = slotOf a o.dst) → putAll l u k a = a
  | [], _, _, _, _ => rfl
  | x :: r, k, a, u, h => by
    show putAll r u (k + 1) (a.put x.dst (u k)) = a
    rw [show u k = slotOf a x.dst from h 0 x rfl, put_own]
    exact putAll_own r (k + 1) a u (fun j o ho => by rw [show k + 1 + j = k + (j + 1) by omega]; exact h (j + 1) o (by simpa using ho))
def unl (listed : Array Bool) : Nat → Nat
  | 0 => 0
  | n + 1 => unl listed n + if listed.getD n true = true then 0 else 1
theorem unl_set {listed : Array Bool} {i : Nat} : ∀ {n : Nat}, i < n → listed.getD i true = false → i < listed.size → unl (listed.setIfInBounds i true) n + 1 = unl listed n
  | 0, h, _, _ => by omega
  | n + 1, h, hu, hs => by
    unfold unl
    by_cases hin : i = n
    · subst hin
      rw [hu, getD_set_true_own hs]
      have : unl (listed.setIfInBounds i true) i = unl listed i := unl_far (Nat.le_refl _)
      rw [this]
      simp
    · rw [getD_set_ne true hin]
      have := unl_set (n := n) (by omega) hu hs
      omega
where
  unl_far {i : Nat} : ∀ {n : Nat}, n ≤ i → unl (listed.setIfInBounds i true) n = unl listed n
    | 0, _ => rfl
    | n + 1, h => by
      unfold unl
      rw [unl_far (n := n) (by omega), getD_set_ne true (by omega)]
  getD_set_true_own {i : Nat} (hs : i < listed.size) : (listed.setIfInBounds i true).getD i true = true := by
    simp [Array.getD, hs]
theorem unl_zero {listed : Array Bool} : ∀ {n : Nat}, unl listed n = 0 → ∀ j, j < n → listed.getD j true = true
  | 0, _, j, h => by omega
  | n + 1, h0, j, h => by
    unfold unl at h0
    by_cases hj : j = n
    · subst hj
      by_cases hl : listed.getD j true = true
      · exact hl
      · rw [if_neg hl] at h0; omega
    · exact unl_zero (n := n) (by omega) j (by omega)
theorem unl_least {listed : Array Bool} {n : Nat} (hu : unl listed n ≠ 0) : ∃ i, i < n ∧ listed.getD i true = false ∧ ∀ j, j < i → listed.getD j true = true := by
  induction n with
  | zero => exact absurd rfl hu
  | succ n ih =>
    by_cases h : unl listed n = 0
    · refine ⟨n, by omega, ?_, unl_zero h⟩
      unfold unl at hu
      rw [h] at hu
      cases hl : listed.getD n true with
      | false => rfl
      | true => rw [hl] at hu; simp at hu
    · obtain ⟨i, hi, h1, h2⟩ := ih h
      exact ⟨i, by omega, h1, h2⟩
theorem getD_false {listed : Array Bool} {i : Nat} (hi : i < listed.size) (h : listed.getD i true = true) : listed.getD i false = true := by
  simp [Array.getD, hi] at h ⊢
  exact h
theorem ready_ex {n : Nat} {listed : Array Bool} (inv : HeadInv md ops n listed) (hback : ∀ i o, ops[i]? = some o → ∀ e ∈ o.after, Region.binds md e = true → e.on < i) (hn : n ≤ ops.size) (hu : unl listed n ≠ 0) :
    ∃ i, i < n ∧ listed.getD i true = false ∧ i ∈ Region.ready md ops listed := by
  obtain ⟨i, hi, h1, h2⟩ := unl_least hu
  refine ⟨i, hi, h1, mem_ready.2 ⟨h1, ops[i]'(by omega), by simp, fun e he hb => ?_⟩⟩
  have h3 := hback i _ (by simp) e he hb
  exact getD_false (by rw [inv.size]; omega) (h2 _ h3)
def canon (n m : Nat) : Array Bool := (Array.range m).map fun j => decide (j < n)
theorem eq_canon {n : Nat} {listed : Array Bool} (inv : HeadInv md ops n listed) (hu : unl listed n = 0) : listed = canon n ops.size := by
  apply Array.ext
  · simp [canon, inv.size]
  · intro i h1 h2
    have h3 : (canon n ops.size)[i] = decide (i < n) := by simp [canon]
    rw [h3]
    by_cases h : i < n
    · have := unl_zero hu i h
      simp [Array.getD, h1] at this
      simp [this, h]
    · have := inv.tail i (by omega) (by rw [← inv.size]; exact h1)
      simp [Array.getD, h1] at this
      simp [this, h]
def upd (u : Nat → Value) (i : Nat) (v : Value) : Nat → Value := fun j => if j = i then v else u j
theorem wpAny_rel {n g : Nat} {hs : List Oper} {a0 : Act} {I : World → Prop} {R : Nat → (Nat → Value) → World → Prop} {deps : Nat → List Nat} {Q : Exit → Act → World → Prop}
    (hops : ∀ j, j < n → hs[j]? = ops[j]?) (hn : n < ops.size) (hap : apartDsts hs)
    (hs1 : Region.sinkB md ops n = true) (hc1 : Region.chainB md ops n = true)
    (hback : ∀ i o, ops[i]? = some o → ∀ e ∈ o.after, Region.binds md e = true → e.on < i)
    (hdeps : ∀ i o, hs[i]? = some o → ∀ j ∈ deps i, j < n ∧ ∃ e ∈ o.after, Region.binds md e = true ∧ e.on = j)
    (hloc : ∀ j u u' w, (∀ k, (k = j ∨ k ∈ deps j) → u k = u' k) → R j u w → R j u' w)
    (obl : ∀ i o, hs[i]? = some o → ∀ (u : Nat → Value) w, I w → (∀ j ∈ deps i, R j u w) →
      (Region.wanted o (yielded ops (putAll hs u 0 a0).tmps) = true ∧ gives P (fun v w' => R i (upd u i v) w' ∧ I w' ∧ ∀ j u, j ≠ i → R j u w → R j u w') ((execOp (putAll hs u 0 a0).eval o).run P w)) ∨
      (Region.wanted o (yielded ops (putAll hs u 0 a0).tmps) = false ∧ R i (upd u i undef) w))
    (hend : ∀ (u : Nat → Value) w, I w → (∀ j, j < n → R j u w) → wpAny P md ops Q g (canon n ops.size) (putAll hs u 0 a0) w) :
    ∀ (f : Nat) (listed : Array Bool) (u : Nat → Value) (w : World), unl listed n = f → HeadInv md ops n listed → I w → (∀ j, j < n → listed.getD j false = true → R j u w) →
      wpAny P md ops Q (f + g) listed (putAll hs u 0 a0) w := by
  intro f
  induction f with
  | zero =>
    intro listed u w hf inv hI hR
    rw [Nat.zero_add, eq_canon inv hf]
    refine hend u w hI fun j hj => hR j hj (getD_false (by rw [inv.size]; omega) (unl_zero hf j hj))
  | succ f ih =>
    intro listed u w hf inv hI hR
    obtain ⟨k, hk, hku, hkr⟩ := ready_ex inv hback (by omega) (by omega)
    rw [show f + 1 + g = (f + g) + 1 by omega]
    refine ⟨fun h => (by rw [h] at hkr; cases hkr), fun i hi => ?_⟩
    have hin : i < n := by
      rcases Nat.lt_or_ge i n with h | h
      · exact h
      · exact absurd hi (tail_waits hs1 hc1 hn inv _ k rfl hk hku i h)
    obtain ⟨hiu, o, ho, hall⟩ := mem_ready.1 hi
    have ho' : hs[i]? = some o := (hops i hin).trans ho
    have hRd : ∀ j ∈ deps i, R j u w := fun j hj => by
      obtain ⟨hjn, e, he, hb, hon⟩ := hdeps i o ho' j hj
      exact hR j hjn (by rw [← hon]; exact hall e he hb)
    have next : ∀ v w', R i (upd u i v) w' → I w' → (∀ j u, j ≠ i → R j u w → R j u w') → wpAny P md ops Q (f + g) (listed.setIfInBounds i true) ((putAll hs u 0 a0).put o.dst v) w' := fun v w' hv hI' hst => by
      rw [putAll_set hs u 0 i a0 o v hap ho']
      have hil : i < listed.size := by rw [inv.size]; omega
      refine ih _ _ w' (by have := unl_set hin hiu hil; omega) (inv.set hi hin) hI' fun j hj hl => ?_
      have hup : (fun j => if j = 0 + i then v else u j) = upd u i v := by funext j; simp [upd]
      rw [hup]
      by_cases hji : j = i
      · subst hji; exact hv
      · rw [getD_set_ne false (fun h => hji h.symm)] at hl
        refine hloc j u _ w' (fun q hq => ?_) (hst _ _ hji (hR j hj hl))
        unfold upd
        rw [if_neg ?_]
        rintro rfl
        rcases hq with rfl | hq
        · exact hji rfl
        · have hjo : ∃ oj, hs[j]? = some oj := by
            have hlen := hops j hj
            have : j < ops.size := by omega
            exact ⟨ops[j], by rw [hlen]; simp [this]⟩
          obtain ⟨oj, hoj⟩ := hjo
          obtain ⟨_, e, he, hb, hon⟩ := hdeps j oj hoj q hq
          have h1 := inv.closed j oj ((hops j hj).symm.trans hoj) hl e he hb
          rw [hon, getD_both hiu] at h1
          cases h1
    unfold wpOp
    simp only [ho]
    rcases obl i o ho' u w hI hRd with ⟨hw, hg⟩ | ⟨hw, hv⟩
    · rw [if_pos hw]
      refine .inl ?_
      unfold Oper.wp
      exact gives_upon (R := fun v w' => R i (upd u i v) w' ∧ I w' ∧ ∀ j u, j ≠ i → R j u w → R j u w') (fun v w' h => next v w' h.1 h.2.1 h.2.2) hg
    · rw [if_neg (by rw [hw]; simp)]
      exact next undef w hv hI (fun _ _ _ h => h)
def relB (md : Region.Mode) (l : List Oper) (n : Nat) (deps : Nat → List Nat) : Bool :=
  decide (n < l.length) && Region.sinkB md l.toArray n && Region.chainB md l.toArray n &&
  ((List.range l.length).all fun i => match l[i]? with | some o => o.after.all fun e => !Region.binds md e || decide (e.on < i) | none => true) &&
  ((List.range n).all fun i => (List.range i).all fun j => match l[i]?, l[j]? with | some x, some y => (match y.dst with | some d => x.dst != some d | none => true) | _, _ => true) &&
  ((List.range n).all fun i => match l[i]? with | some o => (deps i).all fun j => decide (j < n) && o.after.any fun e => Region.binds md e && e.on == j | none => true) &&
  Region.seqB md l.toArray (l.length - n) n (canon n l.length)
theorem wp_region_rel {id : Nat} {Q : Exit → Act → World → Prop} {a : Act} {w : World} {l : List Oper} (n : Nat) (I : World → Prop) (R : Nat → (Nat → Value) → World → Prop) (deps : Nat → List Nat)
    (hm : P.follows .mixedOrders = true) (hB : relB .any l n deps = true) (hloc : ∀ j u u' w, (∀ k, (k = j ∨ k ∈ deps j) → u k = u' k) → R j u w → R j u' w) (hI : I w.drew)
    (obl : ∀ i o, (l.take n)[i]? = some o → ∀ (u : Nat → Value) w, I w → (∀ j ∈ deps i, R j u w) →
      (Region.wanted o (yielded l.toArray (putAll (l.take n) u 0 a).tmps) = true ∧ gives P (fun v w' => R i (upd u i v) w' ∧ I w' ∧ ∀ j u, j ≠ i → R j u w → R j u w') ((execOp (putAll (l.take n) u 0 a).eval o).run P w)) ∨
      (Region.wanted o (yielded l.toArray (putAll (l.take n) u 0 a).tmps) = false ∧ R i (upd u i undef) w))
    (htail : ∀ (u : Nat → Value) w, I w → (∀ j, j < n → R j u w) → wpList P l.toArray Q (l.drop n) (putAll (l.take n) u 0 a) w) : (Code.region id l.toArray true).wp P Q a w := by
  simp only [relB, Bool.and_eq_true, decide_eq_true_eq, List.all_eq_true, List.mem_range] at hB
  obtain ⟨⟨⟨⟨⟨⟨hn, hs1⟩, hc1⟩, hback⟩, hap⟩, hdeps⟩, hseq⟩ := hB
  have hsz : l.toArray.size = l.length := by simp
  refine wp_region_any hm ?_
  have hown : putAll (l.take n) (fun j => slotOf a (((l.take n)[j]?).bind (·.dst))) 0 a = a := putAll_own _ 0 a _ fun j o ho => by simp only [Nat.zero_add]; rw [ho]; rfl
  have hu0 : unl (Array.replicate l.toArray.size false) n = n := by
    have key : ∀ m, m ≤ l.length → unl (Array.replicate l.toArray.size false) m = m := by
      intro m
      induction m with
      | zero => intro _; rfl
      | succ m ih =>
        intro h
        unfold unl
        rw [ih (by omega), if_neg (by simp [Array.getD, show m < l.length by omega])]
    exact key n (by omega)
  have inv0 : HeadInv .any l.toArray n (Array.replicate l.toArray.size false) :=
    ⟨by simp, fun j oj _ hl => (by rw [getD_replicate_false] at hl; cases hl), fun t _ ht => getD_in (by simpa using ht) (getD_replicate_false _ _)⟩
  have H := wpAny_rel (P := P) (ops := l.toArray) (md := .any) (n := n) (g := l.length - n) (hs := l.take n) (a0 := a) (I := I) (R := R) (deps := deps) (Q := Q)
    (fun j hj => by simp [List.getElem?_take_of_lt hj]) (by simpa using hn)
    (List.pairwise_iff_getElem.2 fun i j hi hj hij d hd => by
      have hi' : i < l.length := by simp at hi; omega
      have hj' : j < l.length := by simp at hj; omega
      have hjn : j < n := by simp at hj; omega
      have := hap j hjn i hij
      rw [List.getElem?_eq_getElem hj', List.getElem?_eq_getElem hi'] at this
      simp only [List.getElem_take] at hd ⊢
      simp only [hd] at this
      simpa using this)
    hs1 hc1
    (fun i o ho e he hb => by
      have ho' : l[i]? = some o := by simpa using ho
      have hil : i < l.length := (List.getElem?_eq_some_iff.1 ho').1
      have := hback i hil
      rw [ho'] at this
      have := Array.all_eq_true'.1 this e he
      simpa [hb] using this)
    (fun i o ho j hj => by
      have hin : i < n := by have := (List.getElem?_eq_some_iff.1 ho).1; simp at this; omega
      have ho' : l[i]? = some o := by rw [List.getElem?_take_of_lt hin] at ho; exact ho
      have := hdeps i hin
      rw [ho'] at this
      have := List.all_eq_true.1 this j hj
      simp only [Bool.and_eq_true, decide_eq_true_eq] at this
      obtain ⟨e, he, hb⟩ := Array.any_eq_true'.1 this.2
      simp only [Bool.and_eq_true, beq_iff_eq] at hb
      exact ⟨this.1, e, he, hb.1, hb.2⟩)
    hloc obl
    (fun u w' hI' hR => by
      have := wpAny_of_seq (md := .any) (Q' := Q) (l.drop n) n (canon n l.toArray.size) (putAll (l.take n) u 0 a) w' (fun j => by simp [List.getElem?_drop]) (by rw [List.length_drop, hsz]; exact hseq) (htail u w' hI' hR)
      rwa [List.length_drop] at this)
    n (Array.replicate l.toArray.size false) (fun j => slotOf a (((l.take n)[j]?).bind (·.dst))) w.drew hu0 inv0 hI (fun j _ hl => by rw [getD_replicate_false] at hl; cases hl)
  rw [hown, show n + (l.length - n) = l.length by omega] at H
  rw [hsz]
  exact H
def mask (ds : List Nat) (j : Nat) (u : Nat → Value) : Nat → Value := fun k => if k = j ∨ k ∈ ds then u k else undef
theorem mask_congr {ds : List Nat} {j : Nat} {u u' : Nat → Value} (h : ∀ k, (k = j ∨ k ∈ ds) → u k = u' k) : mask ds j u = mask ds j u' := by
  funext k
  unfold mask
  split
  · rename_i hk; exact h k hk
  · rfl
def relObl (P : Program) (ops : Array Oper) (W : World) (R : Nat → (Nat → Value) → World → Prop) (deps : Nat → List Nat) (hs : List Oper) (a0 : Act) : List Oper → Nat → Prop
  | [], _ => True
  | o :: r, i => (∀ (u : Nat → Value) w, RowKit.Below W.heap.size W w → (∀ j ∈ deps i, R j (mask (deps j) j u) w) →
      (Region.wanted o (yielded ops (putAll hs u 0 a0).tmps) = true ∧ gives P (fun v w' => R i (mask (deps i) i (upd u i v)) w' ∧ RowKit.Below w.heap.size w w') ((execOp (putAll hs u 0 a0).eval o).run P w)) ∨
      (Region.wanted o (yielded ops (putAll hs u 0 a0).tmps) = false ∧ R i (mask (deps i) i (upd u i undef)) w)) ∧ relObl P ops W R deps hs a0 r (i + 1)
theorem relObl_get {W : World} {R : Nat → (Nat → Value) → World → Prop} {deps : Nat → List Nat} {hs : List Oper} {a0 : Act} : ∀ (l : List Oper) (k : Nat), relObl P ops W R deps hs a0 l k → ∀ j o, l[j]? = some o →
    (∀ (u : Nat → Value) w, RowKit.Below W.heap.size W w → (∀ i ∈ deps (k + j), R i (mask (deps i) i u) w) →
      (Region.wanted o (yielded ops (putAll hs u 0 a0).tmps) = true ∧ gives P (fun v w' => R (k + j) (mask (deps (k + j)) (k + j) (upd u (k + j) v)) w' ∧ RowKit.Below w.heap.size w w') ((execOp (putAll hs u 0 a0).eval o).run P w)) ∨
      (Region.wanted o (yielded ops (putAll hs u 0 a0).tmps) = false ∧ R (k + j) (mask (deps (k + j)) (k + j) (upd u (k + j) undef)) w))
  | [], _, _, j, o, h => by simp at h
  | x :: r, k, h, j, o, ho => by
    cases j with
    | zero =>
      simp only [List.getElem?_cons_zero, Option.some.injEq] at ho
      subst ho
      exact h.1
    | succ j =>
      have := relObl_get r (k + 1) h.2 j o (by simpa using ho)
      rw [show k + 1 + j = k + (j + 1) by omega] at this
      exact this
theorem gives_mono {P : Program} {R R' : Value → World → Prop} (h : ∀ v w, R v w → R' v w) : ∀ {r : Result Next}, gives P R r → gives P R' r
  | .ok (.value _) _, hr => h _ _ hr
  | .ok .skip _, hr => h _ _ hr
  | .ok (.enter _ _) _, hr => Calls.mono hr fun _ _ ⟨v, h1, h2⟩ => ⟨v, h1, h _ _ h2⟩
theorem wp_region_relB {id : Nat} {Q : Exit → Act → World → Prop} {a : Act} {w : World} {l : List Oper} (n : Nat) (R : Nat → (Nat → Value) → World → Prop) (deps : Nat → List Nat)
    (hm : P.follows .mixedOrders = true) (hB : relB .any l n deps = true) (hst : ∀ j u w w', RowKit.Below w.heap.size w w' → R j u w → R j u w')
    (obl : relObl P l.toArray w.drew R deps (l.take n) a (l.take n) 0)
    (htail : ∀ (u : Nat → Value) w', RowKit.Below w.drew.heap.size w.drew w' → (∀ j, j < n → R j (mask (deps j) j u) w') → wpList P l.toArray Q (l.drop n) (putAll (l.take n) u 0 a) w') : (Code.region id l.toArray true).wp P Q a w := by
  refine wp_region_rel n (fun w' => RowKit.Below w.drew.heap.size w.drew w') (fun j u w => R j (mask (deps j) j u) w) deps hm hB (fun j u u' w h hR => by rw [← mask_congr h]; exact hR) (RowKit.Below.refl _ _) (fun i o ho u w' hI hd => ?_) htail
  have h := relObl_get (l.take n) 0 obl i o ho u w' hI (by rw [Nat.zero_add]; exact hd)
  rw [Nat.zero_add] at h
  rcases h with ⟨h1, h2⟩ | h
  · exact .inl ⟨h1, gives_mono (fun v w'' ⟨g1, g2⟩ => ⟨g1, below_then hI g2, fun j u _ hj => hst j _ _ _ g2 hj⟩) h2⟩
  · exact .inr h
def owes (P : Program) (ops : Array Oper) (Ri : Value → World → Prop) (A : Act) (o : Oper) (w : World) : Prop :=
  (Region.wanted o (yielded ops A.tmps) = true ∧ gives P (fun v w' => Ri v w' ∧ RowKit.Below w.heap.size w w') ((execOp A.eval o).run P w)) ∨ (Region.wanted o (yielded ops A.tmps) = false ∧ Ri undef w)
theorem owes_here {Ri : Value → World → Prop} {A : Act} {o : Oper} {w : World} (v : Value) (hg : o.guard = none) (h : (execOp A.eval o).run P w = .ok (.value v) w) (hR : Ri v w) : owes P ops Ri A o w :=
  .inl ⟨by simp [Region.wanted, hg], by rw [h]; exact ⟨hR, RowKit.Below.refl _ _⟩⟩
theorem owes_call {Ri : Value → World → Prop} {A : Act} {o : Oper} {w : World} (f : FuncId) (args : Array Value) (hg : o.guard = none) (h : (execOp A.eval o).run P w = .ok (.enter f args) w)
    (hc : Calls P f args w fun e w' => ∃ v, e = .returned v ∧ Ri v w' ∧ RowKit.Below w.heap.size w w') : owes P ops Ri A o w :=
  .inl ⟨by simp [Region.wanted, hg], by rw [h]; exact hc⟩
theorem owes_makes {Ri : Value → World → Prop} {A : Act} {o : Oper} {w w' : World} (v : Value) (hg : o.guard = none) (h : (execOp A.eval o).run P w = .ok (.value v) w') (hR : Ri v w') (hb : RowKit.Below w.heap.size w w') : owes P ops Ri A o w :=
  .inl ⟨by simp [Region.wanted, hg], by rw [h]; exact ⟨hR, hb⟩⟩
theorem else_of {c : Prop} [Decidable c] {A B : Prop} (h : ¬ c) (q : B) : if c then A else B := by rw [if_neg h]; exact q
theorem then_of {c : Prop} [Decidable c] {A B : Prop} (h : c) (q : A) : if c then A else B := by rw [if_pos h]; exact q
def owesK (P : Program) (ops : Array Oper) (Ri : Value → World → Prop) (Ki : World → World → Prop) (A : Act) (o : Oper) (w : World) : Prop :=
  (Region.wanted o (yielded ops A.tmps) = true ∧ gives P (fun v w' => Ri v w' ∧ Ki w w') ((execOp A.eval o).run P w)) ∨ (Region.wanted o (yielded ops A.tmps) = false ∧ Ri undef w)
def relOblK (P : Program) (ops : Array Oper) (I : World → Prop) (K : Nat → World → World → Prop) (R : Nat → (Nat → Value) → World → Prop) (deps : Nat → List Nat) (hs : List Oper) (a0 : Act) : List Oper → Nat → Prop
  | [], _ => True
  | o :: r, i => (∀ (u : Nat → Value) w, I w → (∀ j ∈ deps i, R j (mask (deps j) j u) w) → owesK P ops (fun v w' => R i (mask (deps i) i (upd u i v)) w') (K i) (putAll hs u 0 a0) o w) ∧ relOblK P ops I K R deps hs a0 r (i + 1)
theorem relOblK_get {I : World → Prop} {K : Nat → World → World → Prop} {R : Nat → (Nat → Value) → World → Prop} {deps : Nat → List Nat} {hs : List Oper} {a0 : Act} : ∀ (l : List Oper) (k : Nat), relOblK P ops I K R deps hs a0 l k → ∀ j o, l[j]? = some o →
    (∀ (u : Nat → Value) w, I w → (∀ i ∈ deps (k + j), R i (mask (deps i) i u) w) → owesK P ops (fun v w' => R (k + j) (mask (deps (k + j)) (k + j) (upd u (k + j) v)) w') (K (k + j)) (putAll hs u 0 a0) o w)
  | [], _, _, j, o, h => by simp at h
  | x :: r, k, h, j, o, ho => by
    cases j with
    | zero =>
      simp only [List.getElem?_cons_zero, Option.some.injEq] at ho
      subst ho
      exact h.1
    | succ j =>
      have := relOblK_get r (k + 1) h.2 j o (by simpa using ho)
      rw [show k + 1 + j = k + (j + 1) by omega] at this
      exact this
theorem owesK_here {Ri : Value → World → Prop} {Ki : World → World → Prop} {A : Act} {o : Oper} {w : World} (v : Value) (hg : o.guard = none) (h : (execOp A.eval o).run P w = .ok (.value v) w) (hR : Ri v w) (hk : Ki w w) : owesK P ops Ri Ki A o w :=
  .inl ⟨by simp [Region.wanted, hg], by rw [h]; exact ⟨hR, hk⟩⟩
theorem owesK_call {Ri : Value → World → Prop} {Ki : World → World → Prop} {A : Act} {o : Oper} {w : World} (f : FuncId) (args : Array Value) (hg : o.guard = none) (h : (execOp A.eval o).run P w = .ok (.enter f args) w)
    (hc : Calls P f args w fun e w' => ∃ v, e = .returned v ∧ Ri v w' ∧ Ki w w') : owesK P ops Ri Ki A o w :=
  .inl ⟨by simp [Region.wanted, hg], by rw [h]; exact hc⟩
theorem owesK_makes {Ri : Value → World → Prop} {Ki : World → World → Prop} {A : Act} {o : Oper} {w w' : World} (v : Value) (hg : o.guard = none) (h : (execOp A.eval o).run P w = .ok (.value v) w') (hR : Ri v w') (hk : Ki w w') : owesK P ops Ri Ki A o w :=
  .inl ⟨by simp [Region.wanted, hg], by rw [h]; exact ⟨hR, hk⟩⟩
end
end Go.Proofs.YtnnceaapodgfbaaGreatDoor
namespace Go.Proofs.YtnnceaapodgfbaaGreatDoor
open Go.RowKit
structure Touch (g : Nat) (w W : World) : Prop where
  os : W.os = w.os
  tape : W.tape = w.tape
  output : W.output = w.output
  size : W.heap.size = w.heap.size
  other : ∀ b, b ≠ g → W.heap[b]? = w.heap[b]?
section
variable {g B : Nat} {a w W : World}
theorem Touch.below (h : Touch g w W) (hb : Below B a w) (hg : B ≤ g) : Below B a W :=
  hb.trans ⟨h.os, h.tape, h.output, by rw [h.size]; exact Nat.le_refl _, fun k hk => h.other k (by omega)⟩
theorem Touch.block (h : Touch g w W) {b : Nat} {x : Obj} (hx : w.heap[b]? = some x) (hne : b ≠ g) : W.heap[b]? = some x := (h.other b hne).trans hx
theorem below_block (h : Below w.heap.size w W) {b : Nat} {x : Obj} (hx : w.heap[b]? = some x) : W.heap[b]? = some x := by
  have hb : b < w.heap.size := by
    rcases Nat.lt_or_ge b w.heap.size with h1 | h1
    · exact h1
    · rw [Array.getElem?_eq_none h1] at hx; cases hx
  exact (h.block b hb).trans hx
theorem touch_setRow (w : World) (g : Nat) (cs : Array Value) : Touch g w (w.setRow g cs) := ⟨rfl, rfl, rfl, by simp, fun b hb => setRow_other w g b cs hb⟩
theorem OwnAt.touch {α : Type} {R : Rd α} {k : Nat} {e : TypeId} {v : Value} {l : List α} (hf : Flat R) (h : OwnAt R k w B e v l) (ht : Touch g w W) (hne : ∀ q, v.ownBlock = some q → q ≠ g) : OwnAt R k W B e v l := by
  obtain ⟨css, h1, h2, h3, h4⟩ := h
  refine ⟨css, h1, h2, ⟨h3.1, ?_⟩, fun j cs y hcs hy => hf _ _ _ _ (h4 j cs y hcs hy)⟩
  rcases h3.2 with h5 | ⟨q, cap, cur, rfl, hB, hh, hr⟩
  · exact .inl h5
  · exact .inr ⟨q, cap, cur, rfl, hB, (ht.other q (hne q rfl)).trans hh, hr⟩
end
section
variable {P : Program} {ops : Array Oper} {rest : List Oper} {o : Oper} {a : Act} {w : World} {Q : Exit → Act → World → Prop}
theorem at_last {l : List Oper} {K : Act → World → Prop} (hK : ∀ a w, wpList P ops Q l a w → K a w) (h : wpList P ops Q l a w) : K a w := hK _ _ h
theorem wpList_store_box (hgd : o.guard = none) (ty : TypeId) (x y : Operand) (ho : o.op = .store ty x y) (g : Nat) (cells : Array Value) (hx : a.eval x = .pointer (some ⟨g, 0, none⟩)) (hy : a.eval y = .agg cells)
    (t : TypeId) (old : Array Value) (hg : w.heap[g]? = some (.cells old t (0, 0))) (hi : (P.info? ty).map (·.size) = some cells.size) (hold : old.size = cells.size) (h1 : cells.all (·.oneCell') = true)
    (h : ∀ W, W.heap[g]? = some (.cells cells t (0, 0)) → Touch g w W → wpList P ops Q rest (a.put o.dst undef) W) : wpList P ops Q (o :: rest) a w :=
  wpList_store_row hgd ty x y ho g cells hx hy t old hg hi hold h1 (h _ (setRow_heap w g old cells t (0, 0) hg) (touch_setRow w g cells))
theorem touch_setCell {g i : Nat} {cs : Array Value} {t : TypeId} {v : Value} (hg : w.heap[g]? = some (.cells cs t (0, 0))) : (w.setCell ⟨g, i, none⟩ v).heap[g]? = some (.cells (cs.setIfInBounds i v) t (0, 0)) ∧ Touch g w (w.setCell ⟨g, i, none⟩ v) := by
  rw [setCell_eq_setRow w g i cs t (0, 0) v hg]
  exact ⟨setRow_heap w g _ _ t _ hg, touch_setRow w g _⟩
theorem results_two_box {fn : Func} {p q : Tmp} {ty : TypeId} (h : fn.results = #[.cell p ty, .tmp q]) (tmps : Array Value) (w : World) (g : Nat) (t : TypeId) (cs : Array Value) (fr : Nat × Nat) (d : TypeDesc)
    (hp : tmps.getD p undef = .pointer (some ⟨g, 0, none⟩)) (hg : w.heap[g]? = some (.cells cs t fr))
    (hu : P.underlying ty = some d) (hd : (match d with | .struct _ | .array _ _ => true | _ => false) = true) (hi : (P.info? ty).map (·.size) = some cs.size) :
    (results fn tmps).run P w = .ok (.tuple #[.agg cs, tmps.getD q undef]) w := by
  have hp' : tmps[p]?.getD undef = .pointer (some ⟨g, 0, none⟩) := by simpa using hp
  simp [results, h, hp', asAddr, run_loadVar_row w g t ty cs fr d hg hu hd hi]
end
theorem flat_set {β : Type} {k : Nat} : ∀ {css : List (List β)}, (∀ cs ∈ css, cs.length = k) → ∀ {j i : Nat} {cs : List β} (u : β), css[j]? = some cs → i < k → css.flatten.set (j * k + i) u = (css.set j (cs.set i u)).flatten
  | [], _, j, i, cs, u, h, _ => by simp at h
  | c :: r, hk, j, i, cs, u, h, hi => by
    have hc : c.length = k := hk c (List.mem_cons_self ..)
    cases j with
    | zero =>
      simp only [List.getElem?_cons_zero, Option.some.injEq] at h
      subst h
      rw [List.flatten_cons, List.set_cons_zero, List.flatten_cons, Nat.zero_mul, Nat.zero_add, List.set_append_left _ _ (by omega)]
    | succ j =>
      rw [List.flatten_cons, List.set_cons_succ, List.flatten_cons, List.set_append_right _ _ (by rw [Nat.add_mul]; omega), show (j + 1) * k + i - c.length = j * k + i by rw [Nat.add_mul]; omega,
        flat_set (fun cs hcs => hk cs (List.mem_cons_of_mem _ hcs)) u (by simpa using h) hi]
theorem OwnAt.store {α : Type} {R : Rd α} {k : Nat} {l : List α} {B : Nat} {e : TypeId} (hf : Flat R) {w : World} {g c n : Nat} (h : OwnAt R k w B e (.slice (some ⟨g, 0, none⟩) n c) l) {j i : Nat} {x x' : α} (hj : l[j]? = some x) (hi : i < k) (u : Value) (hR : ∀ cs, R w cs x → R w (cs.set i u) x') :
    OwnAt R k (w.setCell ⟨g, j * k + i, none⟩ u) B e (.slice (some ⟨g, 0, none⟩) n c) (l.set j x') ∧ Touch g w (w.setCell ⟨g, j * k + i, none⟩ u) := by
  obtain ⟨css, h1, h2, h3, h4⟩ := h
  have hjl := (List.getElem?_eq_some_iff.1 hj).1
  have hcs : css[j]? = some (css[j]'(by omega)) := List.getElem?_eq_getElem _
  have hck : (css[j]'(by omega)).length = k := h2 _ (List.getElem_mem _)
  rcases h3.2 with ⟨h5, _⟩ | ⟨g', cap, cur, hv, hB, hh, hle, hm, hz, ht⟩
  · cases h5
  · cases hv
    obtain ⟨t1, t2⟩ := touch_setCell (i := j * k + i) (v := u) hh
    refine ⟨⟨css.set j ((css[j]'(by omega)).set i u), by simp [h1], fun cs hcs' => ?_, ?_, fun q cs y hq hy => ?_⟩, t2⟩
    · rcases List.mem_or_eq_of_mem_set hcs' with h6 | h6
      · exact h2 cs h6
      · rw [h6, List.length_set]; exact hck
    · rw [List.length_set]
      refine ⟨?_, .inr ⟨g, c, _, rfl, hB, t1, hle, hm, by simpa using hz, ?_⟩⟩
      · rw [← flat_set h2 u hcs hi, List.length_set]; exact h3.1
      · rw [← flat_set h2 u hcs hi, ← ht, Array.toList_setIfInBounds, List.take_set]
    · by_cases hqj : j = q
      · subst hqj
        rw [List.getElem?_set, if_pos rfl, if_pos (by omega)] at hq hy
        cases hq; cases hy
        exact hf _ _ _ _ (hR _ (h4 j _ x hcs hj))
      · rw [List.getElem?_set, if_neg hqj] at hq hy
        exact hf _ _ _ _ (h4 q cs y hq hy)
end Go.Proofs.YtnnceaapodgfbaaGreatDoor
namespace Go.Proofs.YtnnceaapodgfbaaGreatDoor
open Go.RowKit
structure But (g : Nat) (w w' : World) : Prop where
  os : w'.os = w.os
  tape : w'.tape = w.tape
  output : w'.output = w.output
  size : w.heap.size ≤ w'.heap.size
  block : ∀ k, k < w.heap.size → k ≠ g → w'.heap[k]? = w.heap[k]?
theorem But.refl (g : Nat) (w : World) : But g w w := ⟨rfl, rfl, rfl, Nat.le_refl _, fun _ _ _ => rfl⟩
theorem But.trans {g : Nat} {a b c : World} (h : But g a b) (k : But g b c) : But g a c :=
  ⟨k.os.trans h.os, k.tape.trans h.tape, k.output.trans h.output, Nat.le_trans h.size k.size, fun q hq hn => (k.block q (Nat.lt_of_lt_of_le hq h.size) hn).trans (h.block q hq hn)⟩
theorem But.of {g : Nat} {w w' : World} (h : Below w.heap.size w w') : But g w w' := ⟨h.os, h.tape, h.output, h.size, fun k hk _ => h.block k hk⟩
theorem But.touch {g : Nat} {w w' : World} (h : Touch g w w') : But g w w' := ⟨h.os, h.tape, h.output, by rw [h.size]; exact Nat.le_refl _, fun k _ hn => h.other k hn⟩
theorem But.below {g B : Nat} {a w w' : World} (h : But g w w') (hb : Below B a w) (hB : B ≤ w.heap.size) (hg : B ≤ g) : Below B a w' :=
  hb.trans ⟨h.os, h.tape, h.output, h.size, fun k hk => h.block k (by omega) (by omega)⟩
theorem But.keep {g k : Nat} {w w' : World} {x : Obj} (h : But g w w') (hx : w.heap[k]? = some x) (hn : k ≠ g) : w'.heap[k]? = some x := by
  have hb : k < w.heap.size := by
    rcases Nat.lt_or_ge k w.heap.size with h1 | h1
    · exact h1
    · rw [Array.getElem?_eq_none h1] at hx; cases hx
  exact (h.block k hb hn).trans hx
theorem But.cell {g : Nat} {w w' : World} {p : Addr} (h : But g w w') (hp : p.block < w.heap.size) (hn : p.block ≠ g) : w'.cell? p = w.cell? p := by
  unfold World.cell?
  rw [h.block _ hp hn]
section
variable {α : Type} {R : Rd α} {k : Nat} {e : TypeId} {v : Value} {l : List α} {B g : Nat} {w w' : World}
theorem OwnAt.but (hf : Flat R) (h : OwnAt R k w B e v l) (hb : But g w w') (hne : ∀ q, v.ownBlock = some q → q ≠ g) : OwnAt R k w' B e v l := by
  obtain ⟨css, h1, h2, h3, h4⟩ := h
  refine ⟨css, h1, h2, ⟨h3.1, ?_⟩, fun j cs y hcs hy => hf _ _ _ _ (h4 j cs y hcs hy)⟩
  rcases h3.2 with h5 | ⟨q, cap, cur, rfl, hB, hh, hr⟩
  · exact .inl h5
  · exact .inr ⟨q, cap, cur, rfl, hB, hb.keep hh (hne q rfl), hr⟩
theorem OwnAt.butLow (hf : Flat R) (h : OwnAt R k w B e v l) (hb : But g w w') (hg : g < B) : OwnAt R k w' B e v l :=
  h.but hf hb fun q hq => by have := (h.at hq).1; omega
end
end Go.Proofs.YtnnceaapodgfbaaGreatDoor
namespace Go.Proofs.YtnnceaapodgfbaaGreatDoor
open Go.RowKit
open JP (JV Bs)
def mkB (l : Bs) : ByteArray := ⟨l.toArray⟩
theorem mkB_size (l : Bs) : (mkB l).size = l.length := by unfold mkB; show l.toArray.size = _; simp
theorem mkB_list (l : Bs) : (mkB l).data.toList = l := by unfold mkB; simp
theorem mkB_of (s : ByteArray) : mkB s.data.toList = s := by unfold mkB; cases s; simp
theorem mkB_inj {a b : Bs} : mkB a = mkB b ↔ a = b := ⟨fun h => by rw [← mkB_list a, ← mkB_list b, h], fun h => by rw [h]⟩
structure KeepT (T : List Nat) (w w' : World) : Prop where
  os : w'.os = w.os
  tape : w'.tape = w.tape
  output : w'.output = w.output
  size : w.heap.size ≤ w'.heap.size
  block : ∀ b, b < w.heap.size → b ∉ T → w'.heap[b]? = w.heap[b]?
theorem KeepT.refl (T : List Nat) (w : World) : KeepT T w w := ⟨rfl, rfl, rfl, Nat.le_refl _, fun _ _ _ => rfl⟩
theorem KeepT.of {T : List Nat} {w w' : World} (h : Below w.heap.size w w') : KeepT T w w' := ⟨h.os, h.tape, h.output, h.size, fun b hb _ => h.block b hb⟩
theorem KeepT.trans {T : List Nat} {a b c : World} (h : KeepT T a b) (k : KeepT T b c) : KeepT T a c := ⟨k.os.trans h.os, k.tape.trans h.tape, k.output.trans h.output, Nat.le_trans h.size k.size, fun q hq hn => (k.block q (Nat.lt_of_lt_of_le hq h.size) hn).trans (h.block q hq hn)⟩
theorem KeepT.mono {T T' : List Nat} {w w' : World} (h : KeepT T w w') (hs : ∀ b ∈ T, b ∈ T' ∨ w.heap.size ≤ b) : KeepT T' w w' := ⟨h.os, h.tape, h.output, h.size, fun b hb hn => h.block b hb fun hm => by
  rcases hs b hm with h1 | h1
  · exact hn h1
  · omega⟩
theorem KeepT.but {T : List Nat} {g : Nat} {w w' : World} (h : But g w w') (hg : g ∈ T) : KeepT T w w' := ⟨h.os, h.tape, h.output, h.size, fun b hb hn => h.block b hb fun e => hn (e ▸ hg)⟩
theorem KeepT.below {T : List Nat} {B : Nat} {a w w' : World} (h : KeepT T w w') (hb : Below B a w) (hB : B ≤ w.heap.size) (hT : ∀ b ∈ T, B ≤ b) : Below B a w' :=
  hb.trans ⟨h.os, h.tape, h.output, h.size, fun k hk => h.block k (by omega) fun hm => by have := hT k hm; omega⟩
theorem KeepT.cell {T : List Nat} {w w' : World} {p : Addr} {v : Value} (h : KeepT T w w') (hp : w.cell? p = some v) (hn : p.block ∉ T) : w'.cell? p = some v := by
  have hb := World.block_lt_of_cell? w p hp
  unfold World.cell? at hp ⊢
  rw [h.block _ hb hn]
  exact hp
def OffT {α : Type} (T : List Nat) (v : Value) (l : List α) : Prop := l ≠ [] → ∀ b, v.ownBlock = some b → b ∉ T
section
variable {α : Type} {R R' : Rd α} {k : Nat} {w w' : World} {v : Value} {l : List α} {T T' : List Nat}
theorem RowAt.keepT (h : RowAt R k w v l) (hk : KeepT T w w') (ho : OffT T v l) (hR : ∀ cs x, R w cs x → R' w' cs x) : RowAt R' k w' v l := by
  rcases h with h | ⟨a, c, h1, h2, h3, h4⟩
  · exact .inl h
  · refine .inr ⟨a, c, h1, h2, h3, fun j x hx => ?_⟩
    obtain ⟨cs, g1, g2, g3⟩ := h4 j x hx
    refine ⟨cs, g1, fun i u hu => hk.cell (g2 i u hu) ?_, hR _ _ g3⟩
    have := ho (fun e => by rw [e] at hx; simp at hx) a.block (by rw [h1]; rfl)
    have e : (a.add (j * k + i)).block = a.block := by unfold Addr.add; split <;> rfl
    rw [e]; exact this
theorem OffT.fresh (h : RowAt R k w v l) (hk : 0 < k) (ho : OffT T v l) (hs : ∀ b ∈ T', b ∈ T ∨ w.heap.size ≤ b) : OffT T' v l := fun hl b hb hm => by
  rcases hs b hm with h1 | h1
  · exact ho hl b hb h1
  · obtain ⟨b', o, c, rfl, _, _, hlt, _⟩ := h.form (List.length_pos_iff.2 hl) hk
    have : b' = b := by simpa [Value.ownBlock] using hb
    omega
end
def ObR (R : Rd JV) (T : List Nat) (w : World) (q : Nat) (l : List (Bs × JV)) : Prop :=
  q ∉ T ∧ JP.Srt l ∧ ∃ vn vv, w.cell? ⟨q, 0, none⟩ = some vn ∧ w.cell? ⟨q, 1, none⟩ = some vv ∧ RowAt RString 1 w vn (l.map fun x => mkB x.1) ∧ OffT T vn l ∧ RowAt R 1 w vv (l.map (·.2)) ∧ OffT T vv l
def JvAt : Nat → List Nat → World → Value → JV → Prop
  | 0, _, _, _, _ => False
  | _ + 1, _, _, v, .nul => v = .nilIface
  | _ + 1, _, _, v, .bool b => v = .iface 4 (.bool b)
  | _ + 1, _, _, v, .num k => v = .iface 2 (.int .i64 k) ∧ -9223372036854775808 ≤ k ∧ k ≤ 9223372036854775807
  | _ + 1, _, _, v, .str s => v = .iface 9 (.string (mkB s))
  | n + 1, T, w, v, .list l => ∃ u, v = .iface 188 u ∧ RowAt (fun w cs x => ∃ v, cs = [v] ∧ JvAt n T w v x) 1 w u l ∧ OffT T u l
  | n + 1, T, w, v, .obj l => ∃ q, v = .iface 190 (.pointer (some ⟨q, 0, none⟩)) ∧ ObR (fun w cs x => ∃ v, cs = [v] ∧ JvAt n T w v x) T w q l
def JvR (n : Nat) (T : List Nat) : Rd JV := fun w cs x => ∃ v, cs = [v] ∧ JvAt n T w v x
theorem ObR.keepT {R R' : Rd JV} {T : List Nat} {w w' : World} {q : Nat} {l : List (Bs × JV)} (h : ObR R T w q l) (hk : KeepT T w w') (hR : ∀ cs x, R w cs x → R' w' cs x) : ObR R' T w' q l := by
  obtain ⟨h1, h2, vn, vv, h3, h4, h5, h6, h7, h8⟩ := h
  refine ⟨h1, h2, vn, vv, hk.cell h3 h1, hk.cell h4 h1, h5.keepT hk (fun hl => h6 fun e => hl (by rw [e]; rfl)) (fun _ _ h => h), h6, h7.keepT hk (fun hl => h8 fun e => hl (by rw [e]; rfl)) hR, h8⟩
theorem JvAt.keepT {T : List Nat} {w w' : World} (hk : KeepT T w w') : ∀ {n : Nat} {v : Value} {x : JV}, JvAt n T w v x → JvAt n T w' v x
  | 0, _, _, h => by cases h
  | n + 1, v, .nul, h => h
  | n + 1, v, .bool b, h => h
  | n + 1, v, .num b, h => h
  | n + 1, v, .str b, h => h
  | n + 1, v, .list l, h => by
    obtain ⟨u, h1, h2, h3⟩ := h
    exact ⟨u, h1, h2.keepT hk h3 (fun cs x ⟨v, e, hv⟩ => ⟨v, e, hv.keepT hk⟩), h3⟩
  | n + 1, v, .obj l, h => by
    obtain ⟨q, h1, h2⟩ := h
    exact ⟨q, h1, h2.keepT hk (fun cs x ⟨v, e, hv⟩ => ⟨v, e, hv.keepT hk⟩)⟩
theorem RowAt.mapR {α : Type} {R R' : Rd α} {k : Nat} {w : World} {v : Value} {l : List α} (h : RowAt R k w v l) (hm : ∀ cs x, R w cs x → R' w cs x) : RowAt R' k w v l := by
  rcases h with h | ⟨a, c, h1, h2, h3, h4⟩
  · exact .inl h
  · exact .inr ⟨a, c, h1, h2, h3, fun j x hx => by
      obtain ⟨cs, g1, g2, g3⟩ := h4 j x hx
      exact ⟨cs, g1, g2, hm _ _ g3⟩⟩
theorem JvAt.fresh {T T' : List Nat} {w : World} (hs : ∀ b ∈ T', b ∈ T ∨ w.heap.size ≤ b) : ∀ {n : Nat} {v : Value} {x : JV}, JvAt n T w v x → JvAt n T' w v x
  | 0, _, _, h => by cases h
  | n + 1, v, .nul, h => h
  | n + 1, v, .bool b, h => h
  | n + 1, v, .num b, h => h
  | n + 1, v, .str b, h => h
  | n + 1, v, .list l, h => by
    obtain ⟨u, h1, h2, h3⟩ := h
    exact ⟨u, h1, h2.mapR (fun cs x ⟨v, e, hv⟩ => ⟨v, e, hv.fresh hs⟩), OffT.fresh h2 (by decide) h3 hs⟩
  | n + 1, v, .obj l, h => by
    obtain ⟨q, h1, h2, h3, vn, vv, h4, h5, h6, h7, h8, h9⟩ := h
    have e6 : OffT T vn (l.map fun x => mkB x.1) := fun hl => h7 fun e => hl (by rw [e]; rfl)
    have e8 : OffT T vv (l.map (·.2)) := fun hl => h9 fun e => hl (by rw [e]; rfl)
    refine ⟨q, h1, fun hm => ?_, h3, vn, vv, h4, h5, h6, fun hl => OffT.fresh h6 (by decide) e6 hs fun e => hl (List.map_eq_nil_iff.1 e), h8.mapR (fun cs x ⟨v, e, hv⟩ => ⟨v, e, hv.fresh hs⟩), fun hl => OffT.fresh h8 (by decide) e8 hs fun e => hl (List.map_eq_nil_iff.1 e)⟩
    rcases hs q hm with k | k
    · exact h2 k
    · have := World.block_lt_of_cell? w ⟨q, 0, none⟩ h4
      have : q < w.heap.size := this
      omega
theorem JvAt.up {T : List Nat} {w : World} : ∀ {n : Nat} {v : Value} {x : JV}, JvAt n T w v x → JvAt (n + 1) T w v x
  | 0, _, _, h => by cases h
  | n + 1, v, .nul, h => h
  | n + 1, v, .bool b, h => h
  | n + 1, v, .num b, h => h
  | n + 1, v, .str b, h => h
  | n + 1, v, .list l, h => by
    obtain ⟨u, h1, h2, h3⟩ := h
    exact ⟨u, h1, h2.mapR (fun cs x ⟨v, e, hv⟩ => ⟨v, e, hv.up⟩), h3⟩
  | n + 1, v, .obj l, h => by
    obtain ⟨q, h1, h2, h3, vn, vv, h4, h5, h6, h7, h8, h9⟩ := h
    exact ⟨q, h1, h2, h3, vn, vv, h4, h5, h6, h7, h8.mapR (fun cs x ⟨v, e, hv⟩ => ⟨v, e, hv.up⟩), h9⟩
theorem JvAt.ups {T : List Nat} {w : World} {n m : Nat} {v : Value} {x : JV} (h : JvAt n T w v x) (hm : n ≤ m) : JvAt m T w v x := by
  induction m with
  | zero => obtain rfl : n = 0 := by omega
            exact h
  | succ m ih =>
    rcases Nat.lt_or_ge m n with h1 | h1
    · obtain rfl : n = m + 1 := by omega
      exact h
    · exact (ih h1).up
theorem JvAt.below {T : List Nat} {w w' : World} {n : Nat} {v : Value} {x : JV} (h : JvAt n T w v x) (hb : Below w.heap.size w w') : JvAt n T w' v x := h.keepT (.of hb)
theorem one_jv (n : Nat) (T : List Nat) : OneR (JvR n T) := fun w cs x ⟨v, e, h⟩ u hu => by
  rw [e, List.mem_singleton] at hu
  subst hu
  cases n with
  | zero => cases h
  | succ n =>
    cases x with
    | nul => rw [show u = _ from h]; rfl
    | bool _ => rw [show u = _ from h]; rfl
    | num _ => rw [h.1]; rfl
    | str _ => rw [show u = _ from h]; rfl
    | list l => obtain ⟨_, h1, _⟩ := h; rw [h1]; rfl
    | obj l => obtain ⟨_, h1, _⟩ := h; rw [h1]; rfl
end Go.Proofs.YtnnceaapodgfbaaGreatDoor
namespace Go.Proofs.YtnnceaapodgfbaaGreatDoor
namespace Pag
open Go.RowKit
open JP (Bs)
theorem list_size (s : ByteArray) : s.data.toList.length = s.size := by rw [Array.length_toList]; rfl
theorem join_one (x : List UInt8) (sep : List UInt8) : Lib.join [x] sep = x := by simp [Lib.join, List.intercalate]
theorem join_more (x y : List UInt8) (r : List (List UInt8)) (sep : List UInt8) : Lib.join (x :: y :: r) sep = x ++ (sep ++ Lib.join (y :: r) sep) := by simp [Lib.join, List.intercalate]
theorem u8_eq {c d : UInt8} (h : c.toNat = d.toNat) : c = d := UInt8.toNat_inj.1 h
theorem dec_some : ∀ (ds : Bs) (acc : Nat), (∀ c ∈ ds, JP.digit c = true) → ∃ n, Lib.decFrom acc ds = some n
  | [], acc, _ => ⟨acc, rfl⟩
  | c :: r, acc, h => by
    have hc := h c (List.mem_cons_self ..)
    unfold Lib.decFrom
    unfold JP.digit at hc
    simp only [Bool.and_eq_true, decide_eq_true_eq] at hc
    have h1 : 48 ≤ c.toNat := UInt8.le_iff_toNat_le.1 hc.1
    have h2 : c.toNat ≤ 57 := UInt8.le_iff_toNat_le.1 hc.2
    have : Lib.digitVal c = some (c.toNat - 48) := by unfold Lib.digitVal; rw [if_pos ⟨h1, h2⟩]
    rw [this]
    exact dec_some r _ fun x hx => h x (List.mem_cons_of_mem _ hx)
theorem parse_dec : ∀ (ds : Bs) (acc n : Nat), (acc + 1) * 10 ^ ds.length ≤ 1000000000000000000 → Lib.decFrom acc ds = some n → Lib.parseUint10 acc ds = .ok n
  | [], acc, n, _, h => by simp only [Lib.decFrom, Option.some.injEq] at h; subst h; rfl
  | c :: r, acc, n, hb, h => by
    unfold Lib.decFrom at h
    unfold Lib.parseUint10
    cases hd : Lib.digitVal c with
    | none => rw [hd] at h; cases h
    | some d =>
      rw [hd] at h
      unfold Lib.digitVal at hd
      split at hd
      · rename_i hr
        simp only [Option.some.injEq] at hd
        subst hd
        have hp : 1 ≤ 10 ^ r.length := Nat.one_le_pow _ _ (by decide)
        rw [List.length_cons, Nat.pow_succ, Nat.mul_comm (10 ^ r.length) 10, ← Nat.mul_assoc] at hb
        have h1 : (acc + 1) * 10 ≤ 1000000000000000000 := Nat.le_trans (Nat.le_mul_of_pos_right _ hp) hb
        rw [if_pos hr, if_neg (by omega), if_neg (by omega)]
        refine parse_dec r _ n (Nat.le_trans (Nat.mul_le_mul_right _ ?_) hb) h
        omega
      · cases hd
theorem parse_mag {ds : Bs} (h : ∀ c ∈ ds, JP.digit c = true) (h0 : ds ≠ []) (hl : ds.length ≤ 18) : Lib.parseUintB 64 ds = .ok (JP.decV ds) := by
  obtain ⟨n, hn⟩ := dec_some ds 0 h
  rw [Lib.parseUintB_64]
  unfold Lib.parseMag JP.decV
  rw [if_neg h0, hn]
  refine parse_dec ds 0 n ?_ hn
  have : (10 : Nat) ^ ds.length ≤ 10 ^ 18 := Nat.pow_le_pow_right (by decide) hl
  omega
theorem atoi_itoa {n : Nat} (h : n < 100000000000000000) : Lib.atoiAll (Lib.itoa (n : Int)) = .ok (n : Int) := by
  have h2 : Lib.itoa (n : Int) = Lib.decDigits n := by
    unfold Lib.itoa
    rw [if_neg (by omega)]
    rfl
  have hd := JP.dec_digits n
  have hl := JP.dec_length (u := n) (by omega)
  have hv := JP.dec_value n
  obtain ⟨c, t, hc, _⟩ := JP.dec_head n
  rw [h2, hc]
  rw [hc] at hd hl hv
  have hdc := hd c (List.mem_cons_self ..)
  have n43 : c.toNat ≠ 43 := fun e => by have : c = 43 := u8_eq e; subst this; revert hdc; decide
  have n45 : c.toNat ≠ 45 := fun e => by have : c = 45 := u8_eq e; subst this; revert hdc; decide
  have hm := parse_mag hd (by simp) hl
  rw [Lib.parseUintB_64] at hm
  rw [Lib.atoiAll_plain _ _ n43 n45, hm]
  unfold JP.decV
  rw [hv]
  unfold Lib.signless
  dsimp only [Option.getD]
  rw [if_neg (by omega)]
theorem join_flat (c : UInt8) : ∀ (p : Bs) (l : List Bs), Lib.join (p :: l) [c] = p ++ l.flatMap fun q => c :: q
  | p, [] => by rw [join_one]; simp
  | p, q :: r => by rw [join_more, join_flat c q r]; simp
theorem split_join (c : UInt8) {l : List Bs} (hn : l ≠ []) (h : ∀ q ∈ l, c ∉ q) : splitL c (Lib.join l [c]) = l := by
  cases l with
  | nil => exact absurd rfl hn
  | cons p r => rw [join_flat, splitL_back c p r h]
theorem isName_free {a : Bs} (h : NameP.isName a = true) : (44 : UInt8) ∉ a ∧ (46 : UInt8) ∉ a ∧ (47 : UInt8) ∉ a ∧ a ≠ [] := by
  unfold NameP.isName at h
  rw [NameP.made_iff] at h
  obtain ⟨hn, _, _, h3⟩ := h
  refine ⟨fun hm => ?_, fun hm => ?_, fun hm => ?_, hn⟩
  · have := h3 _ hm; revert this; decide
  · have := h3 _ hm; revert this; decide
  · have := h3 _ hm; revert this; decide
theorem itoa_dec (n : Int) (h : 0 ≤ n) : Lib.itoa n = Lib.decDigits n.toNat := by
  obtain ⟨k, rfl⟩ : ∃ k : Nat, n = (k : Int) := ⟨n.toNat, by omega⟩
  unfold Lib.itoa
  rw [if_neg (by omega)]
theorem digit_free {l : Bs} (h : ∀ c ∈ l, JP.digit c = true) : (44 : UInt8) ∉ l ∧ (46 : UInt8) ∉ l ∧ (47 : UInt8) ∉ l := by
  refine ⟨fun hm => ?_, fun hm => ?_, fun hm => ?_⟩
  · have := h _ hm; revert this; decide
  · have := h _ hm; revert this; decide
  · have := h _ hm; revert this; decide
theorem itoa_free {n : Int} (h : 0 ≤ n) : (44 : UInt8) ∉ Lib.itoa n ∧ (46 : UInt8) ∉ Lib.itoa n ∧ (47 : UInt8) ∉ Lib.itoa n := by
  rw [itoa_dec n h]; exact digit_free (JP.dec_digits _)
theorem dec_length13 {n : Int} (h0 : 0 ≤ n) (h : n ≤ 1099511627776) : (Lib.itoa n).length ≤ 13 := by
  rw [itoa_dec n h0, Lib.decDigits_length]
  exact JP.nDigits_le 13 _ (by decide) (by show n.toNat < 10000000000000; omega)
end Pag
end Go.Proofs.YtnnceaapodgfbaaGreatDoor
