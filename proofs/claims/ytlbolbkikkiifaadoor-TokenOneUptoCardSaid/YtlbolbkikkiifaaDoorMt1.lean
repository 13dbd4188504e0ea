/- Texts of ours joined: Kit, TabOK, ErrOK, JsonTab, Strs, Open, Tabs, Data, Row, MaxOK, EnvLow, NamePlain, HexPlain, ReplPlain, SplitPlain, JsonPlain, JsonLaws, FieldLaws, DataGrants, Mix. -/
import Derived.WalkKit
import Derived.Deep.AppendLies
import Derived.Laws.BytesArg
import Derived.Lib.LaidTab
import Derived.Test.YtlbolbkikkiifaaDoorShelf
import Derived.Stop.LaidErr
import Derived.Deep.DeepHandedRow
import Derived.Laws.AppendOwn
import Derived.Laws.AppendOwnNone
import Derived.Deep.Strs
import Derived.Lib.Hide
import Derived.Test.YtlbolbkikkiifaaDoorRows
import Derived.Test.YtlbolbkikkiifaaDoorChecked
import Derived.KernelRfl
import Derived.ArgAppend
import Derived.Maps.AppendAt
import Derived.Deep.Upon
import Derived.Laws.OwnMore
import Derived.Lib.Replace
import Derived.Lib.CountLaws
import Derived.Lib.SplitLaws
import Derived.Lib.Split
import Derived.Lib.Join
import Derived.Lib.ItoaNum
import Derived.Lib.Atoi
import Derived.Lib.ParseIntBCases
import Derived.Lib.AtoiAllCases
import Derived.Lib.AtoiErrMem
import Derived.StillTail
import Derived.StillTactics
import Derived.Deep.RegionHeld3
set_option linter.unusedVariables false
set_option linter.unusedSimpArgs false
/- Small general lemmas (any program): bytes as cells, a row of the call's own as a string. -/
namespace Go.Proofs.YtlbolbkikkiifaaDoor
open Go.RowKit

/-- a list of bytes as cells -/
def byteCells (l : List UInt8) : List Value := l.map fun b => Value.int .u8 (b.toNat : Int)
theorem byteCells_length (l : List UInt8) : (byteCells l).length = l.length := by simp [byteCells]
theorem byteCells_append (l m : List UInt8) : byteCells (l ++ m) = byteCells l ++ byteCells m := by simp [byteCells]

/-- 'string(b)', b a row of the call's own that holds the bytes l (nil let in) -/
theorem run_convert_own {P : Program} (w : World) (src dst e : TypeId) (hs : P.underlying src = some (.slice e)) (he : P.underlying e = some (.int .u8)) (hd : P.underlying dst = some .string)
    {base : Nat} {e' : TypeId} {v : Value} {n : Nat} {l : List UInt8} (h : w.ownsRow base e' 1 v n (byteCells l)) :
    (convert src dst v).run P w = .ok (.string ⟨l.toArray⟩) w := by
  have hn : n = l.length := by have := h.1; simp [byteCells_length] at this; omega
  subst hn
  rcases Nat.eq_zero_or_pos l.length with h0 | h0
  · have hl : l = [] := List.eq_nil_of_length_eq_zero h0
    subst hl
    rcases h.2 with ⟨rfl, _⟩ | ⟨g, cap, cur, rfl, _⟩
    · rw [run_convert_bytes_nil w src e hs he _ _ dst hd]; rfl
    · rw [show (([] : List UInt8).length) = (([] : List UInt8).length) from rfl]
      exact run_convert_bytes_back w src dst e _ cap [] hs he hd (fun j hj => absurd hj (by simp))
  · obtain ⟨g, cap, hv, _, hlt⟩ := h.form h0
    subst hv
    refine run_convert_bytes_back w src dst e _ cap l hs he hd (fun j hj => ?_)
    exact h.cells (g := g) rfl j _ (by simp [byteCells, hj])
/-- 'c & 15' on a byte -/
theorem bits_and15 (c : Nat) (h : c < 256) : bits .and .u8 (c : Int) 15 = ((c % 16 : Nat) : Int) := by
  have := u8_and_nat c 15 h (by omega)
  rw [show ((15 : Nat) : Int) = 15 from rfl] at this
  rw [this, show (15 : Nat) = 2 ^ 4 - 1 from rfl, Nat.and_two_pow_sub_one_eq_mod]
theorem take_snoc (s : ByteArray) (k : Nat) (h : k < s.size) : s.data.toList.take (k + 1) = s.data.toList.take k ++ [s[k]] := by
  rw [List.take_succ_eq_append_getElem (by simpa using h)]; rfl
/-- 'a << 4 | b' on two half bytes -/
theorem bits_or16 (a b : Nat) (ha : a < 16) (hb : b < 16) : bits .or .u8 ((a : Int) * 16) (b : Int) = ((a * 16 + b : Nat) : Int) := by
  have h := u8_or_nat (a * 16) b (by omega) (by omega)
  rw [show ((a * 16 : Nat) : Int) = (a : Int) * 16 by omega] at h
  rw [h]
  congr 1
  rw [show a * 16 = 2 ^ 4 * a by omega, ← Nat.two_pow_add_eq_or_of_lt (by omega)]
theorem drop_two (s : ByteArray) (j : Nat) (h : j + 1 < s.size) : s.data.toList.drop j = s[j] :: s[j + 1] :: s.data.toList.drop (j + 2) := by
  rw [List.drop_eq_getElem_cons (by simp; omega), List.drop_eq_getElem_cons (by simp; omega)]; rfl
/-- a call of a function that has a body enters it -/
theorem run_callFunc_body {P : Program} {f : FuncId} {fn : Func} (hf : P.funcs[f]? = some fn) (hname : (fn.name == "runtime.NumGoroutine") = false) (hb : fn.body.isNone = false) (args : Array Value) (w : World) :
    (callFunc f args).run P w = .ok (.enter f args) w := by
  have h1 : fn.name ≠ "runtime.NumGoroutine" := by simpa using hname
  have h2 : ¬ fn.body = none := fun e => by rw [e] at hb; cases hb
  simp [callFunc, hf, h1, h2]
theorem ba_eq {s : ByteArray} {l : List UInt8} (h : s.data.toList = l) : s = ⟨l.toArray⟩ := by subst h; simp
theorem ba_mk (s : ByteArray) : (⟨s.data.toList.toArray⟩ : ByteArray) = s := by simp
theorem size_mk (l : List UInt8) : (ByteArray.mk l.toArray).size = l.length := by simp [ByteArray.size]
/-- a composite literal whose cells are known under a name -/
theorem wpList_build_as {P : Program} {ops : Array Oper} {rest : List Oper} {o : Oper} {a : Act} {w : World} {Q : Exit → Act → World → Prop} (hg : o.guard = none) (t : TypeId) (parts : Array (Nat × Operand)) (ho : o.op = .build t parts)
    (cells : Array Value) (hf : P.built t (parts.map fun (i, x) => (i, a.eval x)).toList = some cells) (h : wpList P ops Q rest (a.put o.dst (.agg cells)) w) : wpList P ops Q (o :: rest) a w :=
  wpList_build hg t parts ho (by rw [hf]; rfl) (by rw [hf]; exact h)
theorem below_setRow {B : Nat} {a w : World} (h : Below B a w) {g : Nat} (hg : B ≤ g) (cs : Array Value) : Below B a (w.setRow g cs) :=
  h.trans ⟨rfl, rfl, rfl, by simp, fun k hk => setRow_other w g k cs (by omega)⟩
/-- a new block, and the ones before it -/
theorem heap_alloc_at {w : World} {o : Obj} {n : Nat} (h : n = w.heap.size) : (w.alloc o).heap[n]? = some o := by subst h; exact heap_alloc_new w o
theorem heap_alloc_old {w : World} {o x : Obj} {n : Nat} (h : w.heap[n]? = some x) : (w.alloc o).heap[n]? = some x := by
  have hn : n < w.heap.size := by
    rcases Nat.lt_or_ge n w.heap.size with h1 | h1
    · exact h1
    · rw [Array.getElem?_eq_none h1] at h; cases h
  exact (Below.heap_alloc w o n hn).trans h
theorem cell_block {w : World} {g : Nat} {cs : Array Value} {t : TypeId} {fr : Nat × Nat} (h : w.heap[g]? = some (.cells cs t fr)) (i : Nat) : w.cell? ⟨g, i, none⟩ = cs[i]? := by simp [World.cell?, h]
theorem free_block {w : World} {g : Nat} {cs : Array Value} {t : TypeId} (h : w.heap[g]? = some (.cells cs t (0, 0))) (i : Nat) : w.frozen? ⟨g, i, none⟩ = false := by simp [World.frozen?, h]
end Go.Proofs.YtlbolbkikkiifaaDoor
/- The table of powers of ten that strconv reads. -/
namespace Go.Proofs.YtlbolbkikkiifaaDoor
open Go.RowKit

theorem var_keep {P : Program} {w w' : World} {n : String} {k : IntKind} {zs : List Int} (h : Lib.TabIs P w n k zs) (hb : Below w.heap.size w w') : Lib.TabIs P w' n k zs := by
  unfold Lib.TabIs World.var? at h ⊢
  cases hg : P.globalNamed n with
  | none => rw [hg] at h; cases h
  | some g =>
    rw [hg] at h
    simp only [Option.bind_some] at h ⊢
    have hlt : g < w.heap.size := by
      rcases Nat.lt_or_ge g w.heap.size with h1 | h1
      · exact h1
      · rw [Array.getElem?_eq_none h1] at h; cases h
    rw [hb.block g hlt]
    exact h
/-- the table that strconv reads -/
def TabOK (w : World) : Prop := Lib.TabIs Tryd.prog w "internal/strconv.uint64pow10" .u64 Lib.pow10Tab
theorem TabOK.below {w w' : World} (h : TabOK w) (hb : Below w.heap.size w w') : TabOK w' := var_keep h hb
end Go.Proofs.YtlbolbkikkiifaaDoor
/- What strconv reads when a text is no number: two variables' values. -/
namespace Go.Proofs.YtlbolbkikkiifaaDoor
open Go.RowKit

def ErrOK (w : World) : Prop := ∃ tp p tp' p', w.var? Tryd.prog "strconv.ErrSyntax" = some #[.iface tp p] ∧ w.var? Tryd.prog "strconv.ErrRange" = some #[.iface tp' p']
theorem var_below {P : Program} {w w' : World} {n : String} {cs : Array Value} (h : w.var? P n = some cs) (hb : Below w.heap.size w w') : w'.var? P n = some cs := by
  unfold World.var? at h ⊢
  cases hg : P.globalNamed n with
  | none => rw [hg] at h; cases h
  | some g =>
    rw [hg] at h
    simp only [Option.bind_some] at h ⊢
    have hlt : g < w.heap.size := by
      rcases Nat.lt_or_ge g w.heap.size with h1 | h1
      · exact h1
      · rw [Array.getElem?_eq_none h1] at h; cases h
    rw [hb.block g hlt]
    exact h
theorem ErrOK.below {w w' : World} (h : ErrOK w) (hb : Below w.heap.size w w') : ErrOK w' := by
  obtain ⟨tp, p, tp', p', h1, h2⟩ := h
  exact ⟨tp, p, tp', p', var_below h1 hb, var_below h2 hb⟩
end Go.Proofs.YtlbolbkikkiifaaDoor
/- The table that strconv reads stands third on the lists of the rows about documents. -/
namespace Go.Proofs.YtlbolbkikkiifaaDoor
open Go.RowKit Go.ChangeShapes Go.WideShapes Go.ChangeAt

theorem laid_tail {P : Program} {W : World} {x : String × DataW Unit} {r : List (String × DataW Unit)} (h : laidMet P (x :: r) W) : laidMet P r W := by
  obtain ⟨ps, ⟨g, t, cs, fuel, p, q, _, _, _, _, hq, rfl⟩, hnd, hall⟩ := h
  exact ⟨q, hq, (List.nodup_append.1 hnd).2.1, fun b off hb => hall b off (List.mem_append_right _ hb)⟩
noncomputable def tabG : Nat := (Tryd.prog.globalNamed "internal/strconv.uint64pow10").getD 0
noncomputable def tabT : TypeId := ((Tryd.prog.globals[tabG]?).map (·.type)).getD 0
noncomputable def tabE : TypeId := match Tryd.prog.underlying tabT with | some (.array _ e) => e | _ => 0
noncomputable def tabN : Nat := match Tryd.prog.underlying tabT with | some (.array n _) => n | _ => 0
theorem gTab1 : Tryd.prog.globalNamed "internal/strconv.uint64pow10" = some tabG := by kernel_rfl
theorem gTab2 : (Tryd.prog.globals[tabG]?).map (·.type) = some tabT := by kernel_rfl
theorem gTab3 : Tryd.prog.underlying tabT = some (.array tabN tabE) := by kernel_rfl
theorem gTab4 : Tryd.prog.underlying tabE = some (.int .u64) := by kernel_rfl
theorem gTab5 : Tryd.prog.cellsOf tabE = 1 := by kernel_rfl
theorem gTab6 : Tryd.prog.cellsOf tabT = tabN := by kernel_rfl
theorem tab_of {W : World} {x1 x2 : String × DataW Unit} {r : List (String × DataW Unit)} {d : DataW Unit} (hd : d = Lib.tabData .u64 Lib.pow10Tab) (h : laidMet Tryd.prog (x1 :: x2 :: ("internal/strconv.uint64pow10", d) :: r) W) : TabOK W := by
  subst hd
  exact Lib.tabIs_of_head gTab1 gTab2 gTab3 gTab4 gTab5 gTab6 (laid_tail (laid_tail h))
end Go.Proofs.YtlbolbkikkiifaaDoor
/- Rows of strings: as an argument, in memory of the call's own, appended to. Any program. -/
namespace Go.Proofs.YtlbolbkikkiifaaDoor
open Go.RowKit

def strs (l : List ByteArray) : List Value := l.map Value.string
theorem strs_length (l : List ByteArray) : (strs l).length = l.length := by simp [strs]
theorem strs_append (l m : List ByteArray) : strs (l ++ m) = strs l ++ strs m := by simp [strs]
theorem strs_get {l : List ByteArray} {j : Nat} {x : ByteArray} (h : l[j]? = some x) : (strs l)[j]? = some (.string x) := by simp [strs, h]

/-- a slice of strings: nil, or one whose cells hold these texts -/
def StrAt (w : World) (v : Value) (l : List ByteArray) : Prop :=
  (v = .slice none 0 0 ∧ l = []) ∨ ∃ a c, v = .slice (some a) l.length c ∧ l.length ≤ c ∧ c ≤ maxLen ∧ ∀ j x, l[j]? = some x → w.cell? (a.add j) = some (.string x)

section
variable {w w' : World} {v : Value} {l : List ByteArray}

theorem StrAt.nil (w : World) : StrAt w (.slice none 0 0) [] := .inl ⟨rfl, rfl⟩
theorem StrAt.len (h : StrAt w v l) : ∃ ao c, v = .slice ao l.length c ∧ l.length ≤ c ∧ c ≤ maxLen := by
  rcases h with ⟨rfl, rfl⟩ | ⟨a, c, rfl, h1, h2, _⟩
  · exact ⟨_, _, rfl, by simp, by simp⟩
  · exact ⟨_, _, rfl, h1, h2⟩
theorem spot_none {a : Addr} {x : Value} (h : w.cell? a = some x) : a = ⟨a.block, a.off, none⟩ := by
  obtain ⟨b, o, s⟩ := a
  cases s with
  | none => rfl
  | some s =>
    unfold World.cell? at h
    simp only at h
    split at h
    · simp at h
    · cases h
theorem add_plain' (b o j : Nat) : (⟨b, o, none⟩ : Addr).add j = ⟨b, o + j, none⟩ := by unfold Addr.add; split <;> simp_all
theorem StrAt.form (h : StrAt w v l) (hl : 0 < l.length) :
    ∃ b o c, v = .slice (some ⟨b, o, none⟩) l.length c ∧ l.length ≤ c ∧ c ≤ maxLen ∧ b < w.heap.size ∧ ∀ j x, l[j]? = some x → w.cell? ⟨b, o + j, none⟩ = some (.string x) := by
  rcases h with ⟨_, rfl⟩ | ⟨a, c, rfl, h1, h2, h3⟩
  · simp at hl
  · have h0 := h3 0 l[0] (by simp [hl])
    rw [show a.add 0 = a from by simp [Addr.add]] at h0
    have ha := spot_none h0
    refine ⟨a.block, a.off, c, by rw [← ha], h1, h2, World.block_lt_of_cell? w _ h0, fun j x hx => ?_⟩
    have h4 := h3 j x hx
    rw [ha, add_plain'] at h4
    exact h4
theorem StrAt.keep (h : StrAt w v l) (hk : ∀ p x, w.cell? p = some x → w'.cell? p = some x) : StrAt w' v l := by
  rcases h with ⟨rfl, rfl⟩ | ⟨a, c, rfl, h1, h2, h3⟩
  · exact .inl ⟨rfl, rfl⟩
  · exact .inr ⟨a, c, rfl, h1, h2, fun j x hx => hk _ _ (h3 j x hx)⟩
theorem StrAt.below (h : StrAt w v l) (hb : Below w.heap.size w w') : StrAt w' v l :=
  h.keep fun p x hp => by rw [← hp]; exact hb.cell (World.block_lt_of_cell? w _ hp)
theorem StrAt.drew (h : StrAt w v l) : StrAt w.drew v l := h
theorem StrAt.cut (h : StrAt w v l) {b o c : Nat} (hv : v = .slice (some ⟨b, o, none⟩) l.length c) {i j : Nat} (hi : i ≤ j) (hj : j ≤ l.length) : StrAt w (.slice (some ⟨b, o + i, none⟩) (j - i) (c - i)) ((l.take j).drop i) := by
  rcases h with ⟨rfl, rfl⟩ | ⟨a, c', h0, h1, h2, h3⟩
  · cases hv
  · rw [h0] at hv
    obtain ⟨rfl, rfl⟩ : a = ⟨b, o, none⟩ ∧ c' = c := by injection hv with e1 e2 e3; exact ⟨by injection e1, e3⟩
    have hlen : ((l.take j).drop i).length = j - i := by simp; omega
    refine .inr ⟨_, _, by rw [hlen], by rw [hlen]; omega, by omega, fun k x hx => ?_⟩
    have hk : k < j - i := by have := (List.getElem?_eq_some_iff.1 hx).1; rwa [hlen] at this
    have := h3 (i + k) x (by rw [List.getElem?_drop, List.getElem?_take_of_lt (by omega)] at hx; exact hx)
    rw [add_plain'] at this ⊢
    rw [← this]
    congr 2
    omega

/-- a row of the call's own reads so -/
theorem StrAt.of_own {B n : Nat} {e : TypeId} (h : w.ownsRow B e 1 v n (strs l)) (hn : l.length = n) : StrAt w v l := by
  subst hn
  rcases Nat.eq_zero_or_pos l.length with h0 | h0
  · have : l = [] := List.eq_nil_of_length_eq_zero h0
    subst this
    rcases h.2 with ⟨rfl, _⟩ | ⟨g, cap, cur, rfl, _, _, _, h4, _⟩
    · exact .inl ⟨rfl, rfl⟩
    · exact .inr ⟨_, cap, rfl, by simp, h4, fun j x hx => by simp at hx⟩
  · obtain ⟨g, cap, rfl, h2, _⟩ := h.form h0
    rcases h.2 with ⟨hv, _⟩ | ⟨g', cap', cur, hv, _, _, h3, h4, _⟩
    · cases hv
    · injection hv with e1 e2 e3
      subst e3
      refine .inr ⟨_, cap, rfl, h3, h4, fun j x hx => ?_⟩
      exact h.cells (g := g) rfl j _ (strs_get hx)

/-- append of a row of strings behind a row of the call's own -/
theorem wpList_append_strs {P : Program} {m : List ByteArray} (w : World) {ops : Array Oper} {rest : List Oper} {o : Oper} {a : Act} {Q : Exit → Act → World → Prop} (hgd : o.guard = none) (s x : Operand) (t : TypeId)
    (ho : o.op = .call { callee := .builtin .append, args := #[s, x], argTypes := #[t, t] })
    (base : Nat) (e : TypeId) (i : TypeInfo) (ht : P.underlying t = some (.slice e)) (hi : P.info? e = some i) (hz : i.zero = some (.string ByteArray.empty))
    (hsize : i.size = 1) (hby : i.bytes = 16) (v : Value) (n : Nat) (hs : a.eval s = v) (hown : w.ownsRow base e 1 v n (strs l)) (xv : Value) (hx : a.eval x = xv) (hrow : StrAt w xv m)
    (hlen : n + m.length ≤ 1073741824) (hbase : base ≤ w.heap.size)
    (h : ∀ v' w', w'.ownsRow base e 1 v' (n + m.length) (strs (l ++ m)) → w.grownBy w' v.ownBlock → wpList P ops Q rest (a.put o.dst v') w') : wpList P ops Q (o :: rest) a w := by
  rcases hrow with ⟨rfl, rfl⟩ | ⟨ad, c, rfl, h1, h2, h3⟩
  · exact wpList_append_own_none hgd s x t ho base e i 1 ht hi v n _ hs hown hx (h v w (by simpa using hown) (World.grownBy.refl w _))
  · refine wpList_append_own w hgd s x t ho base e i _ 1 16 ht hi hz hsize hby rfl (by omega) v n _ hs hown ad m.length c (strs m) hx (by simp [strs]) (fun j u hu => ?_) (by simp [strs]; intros; subst_vars; rfl) (by unfold maxLen; omega) (by omega) hbase
      (fun v' w' h2 h3 _ => h v' w' (by rw [strs_append]; exact h2) h3)
    simp only [strs, List.getElem?_map] at hu
    cases hm : m[j]? with
    | none => rw [hm] at hu; cases hu
    | some y =>
      rw [hm] at hu
      simp only [Option.map_some, Option.some.injEq] at hu
      subst hu
      exact h3 j y hm
end
end Go.Proofs.YtlbolbkikkiifaaDoor
/- A parameter that is a slice of texts, opened: what its cells hold, and its share of the bound. -/
namespace Go.Proofs.YtlbolbkikkiifaaDoor
open Go.RowKit Go.ChangeShapes Go.WideShapes

/-- what a row of texts takes of the bound -/
def total (l : List ByteArray) : Nat := (l.map fun s => s.size + 1).sum
theorem total_mem {l : List ByteArray} {x : ByteArray} (h : x ∈ l) : x.size + 1 ≤ total l := by
  induction l with
  | nil => cases h
  | cons y r ih =>
    simp only [total, List.map_cons, List.sum_cons]
    rcases List.mem_cons.1 h with rfl | h
    · omega
    · have := ih h
      simp only [total] at this
      omega
theorem total_length (l : List ByteArray) : l.length ≤ total l := by
  induction l with
  | nil => simp
  | cons y r ih =>
    simp only [total, List.map_cons, List.sum_cons, List.length_cons] at *
    omega
theorem bulk_strs {H : Type} (l : List ByteArray) : Rows.uptoBulkAll (l.map fun s => (DataW.lit (.string s.data.toList) : DataW H)) = total l := by
  induction l with
  | nil => rfl
  | cons y r ih =>
    simp only [List.map_cons, Rows.uptoBulkAll, Rows.uptoBulk, ih, total, List.sum_cons]
    simp
theorem open_strAt {H : Type} {enc : TypeId × Value → H} {P : Program} {w : World} {base : Nat} {spare : Nat → Bool} {held : Bool} {t e : TypeId} {v : Value} {d : DataW H} {ps : List MemPlace}
    (ht : P.underlying t = some (.slice e)) (he : P.underlying e = some .string) (hc : P.cellsOf e = 1) (hv : v.cells = #[v]) (h : DataW.Trod enc P w base spare held t v d ps) :
    ∃ l, StrAt w v l ∧ total l + 1 ≤ Rows.uptoBulk d := by
  obtain ⟨fuel, hf⟩ := h
  rw [hv] at hf
  rcases Deep.open_strs ht he hc hf with ⟨hcs, hx⟩ | ⟨a, len, cap, m, Sx, hcs, _, hl, hm, hmm, hx, hcell⟩
  · simp only [List.cons.injEq, and_true] at hcs
    obtain ⟨rfl, rfl⟩ := Prod.mk.inj hx
    exact ⟨[], .inl ⟨hcs, rfl⟩, by simp [total, Rows.uptoBulk]⟩
  · simp only [List.cons.injEq, and_true] at hcs
    obtain ⟨rfl, rfl⟩ := Prod.mk.inj hx
    have hlm : len ≤ m := by rw [hmm]; split <;> omega
    refine ⟨(List.range len).map Sx, .inr ⟨a, cap, by rw [hcs]; simp, by simpa using hl, hm, fun j x hj => ?_⟩, ?_⟩
    · have hj' : j < len := by have := (List.getElem?_eq_some_iff.1 hj).1; simpa using this
      rw [List.getElem?_map, List.getElem?_range hj'] at hj
      simp only [Option.map_some, Option.some.injEq] at hj
      subst hj
      exact (hcell j (by omega)).1
    · have : ((List.range len).map fun i => (DataW.lit (.string (Sx i).data.toList) : DataW H)) = ((List.range len).map Sx).map fun s => (DataW.lit (.string s.data.toList) : DataW H) := by rw [List.map_map]; rfl
      rw [this]
      simp only [Rows.uptoBulk, bulk_strs]
      omega
end Go.Proofs.YtlbolbkikkiifaaDoor
/- Closed facts on the program's table of types. -/
namespace Go.Proofs.YtlbolbkikkiifaaDoor
theorem Tryd.infoU8 : (Tryd.prog.info? 5).map (fun i => (i.zero, i.size, i.bytes)) = some (some (.int .u8 0), 1, 1) := by kernel_rfl
theorem Tryd.infoStr : (Tryd.prog.info? 9).map (fun i => (i.zero, i.size, i.bytes)) = some (some (.string ByteArray.empty), 1, 16) := by kernel_rfl
theorem Tryd.infoInt : (Tryd.prog.info? 3).map (fun i => (i.zero, i.size, i.bytes)) = some (some (.int .i64 0), 1, 8) := by kernel_rfl
end Go.Proofs.YtlbolbkikkiifaaDoor
/- Parameters of whatever type, opened: what their cells hold, and their share of the bound. Any program. -/
namespace Go.Proofs.YtlbolbkikkiifaaDoor
open Go.RowKit Go.ChangeShapes Go.WideShapes

/-- how some cells read -/
abbrev Rd (α : Type) := World → List Value → α → Prop
/-- what is in memory stays there -/
abbrev Keeps (w w' : World) : Prop := ∀ p v, w.cell? p = some v → w'.cell? p = some v
def Stays {α : Type} (R : Rd α) : Prop := ∀ w w' cs a, Keeps w w' → R w cs a → R w' cs a
theorem keeps_below {w w' : World} (h : Below w.heap.size w w') : Keeps w w' := fun _ _ hp => (h.cell (World.block_lt_of_cell? w _ hp)).trans hp
theorem keeps_refl (w : World) : Keeps w w := fun _ _ h => h
theorem keeps_trans {a b c : World} (h : Keeps a b) (k : Keeps b c) : Keeps a c := fun p v hp => k p v (h p v hp)

def RString : Rd ByteArray := fun _ cs s => cs = [.string s]
def RInt (k : IntKind) : Rd Int := fun _ cs n => cs = [.int k n] ∧ (Lit.int k n).wf = true
def RBool : Rd Bool := fun _ cs b => cs = [.bool b]
def RStrs : Rd (List ByteArray) := fun w cs l => ∃ v, cs = [v] ∧ StrAt w v l

/-- a slice: nil, or one whose elements (of k cells) read so -/
def RowAt {α : Type} (R : Rd α) (k : Nat) (w : World) (v : Value) (l : List α) : Prop :=
  (v = .slice none 0 0 ∧ l = []) ∨ ∃ a c, v = .slice (some a) l.length c ∧ l.length ≤ c ∧ c ≤ maxLen ∧
    ∀ j x, l[j]? = some x → ∃ cs, cs.length = k ∧ (∀ i u, cs[i]? = some u → w.cell? (a.add (j * k + i)) = some u) ∧ R w cs x
def RRow {α : Type} (R : Rd α) (k : Nat) : Rd (List α) := fun w cs l => ∃ v, cs = [v] ∧ RowAt R k w v l

theorem stays_string : Stays RString := fun _ _ _ _ _ h => h
theorem stays_int (k : IntKind) : Stays (RInt k) := fun _ _ _ _ _ h => h
theorem stays_bool : Stays RBool := fun _ _ _ _ _ h => h
theorem stays_strs : Stays RStrs := fun _ _ _ _ hk ⟨v, h1, h2⟩ => ⟨v, h1, h2.keep hk⟩
section
variable {α : Type} {R : Rd α} {k : Nat} {w w' : World} {v : Value} {l : List α}
theorem RowAt.keep (hs : Stays R) (h : RowAt R k w v l) (hk : Keeps w w') : RowAt R k w' v l := by
  rcases h with h | ⟨a, c, h1, h2, h3, h4⟩
  · exact .inl h
  · exact .inr ⟨a, c, h1, h2, h3, fun j x hx => by
      obtain ⟨cs, g1, g2, g3⟩ := h4 j x hx
      exact ⟨cs, g1, fun i u hu => hk _ _ (g2 i u hu), hs _ _ _ _ hk g3⟩⟩
theorem RowAt.below (hs : Stays R) (h : RowAt R k w v l) (hb : Below w.heap.size w w') : RowAt R k w' v l := h.keep hs (keeps_below hb)
theorem RowAt.nil (w : World) : RowAt R k w (.slice none 0 0) [] := .inl ⟨rfl, rfl⟩
theorem RowAt.len (h : RowAt R k w v l) : ∃ ao c, v = .slice ao l.length c ∧ l.length ≤ c ∧ c ≤ maxLen := by
  rcases h with ⟨rfl, rfl⟩ | ⟨a, c, rfl, h1, h2, _⟩
  · exact ⟨_, _, rfl, by simp, by simp⟩
  · exact ⟨_, _, rfl, h1, h2⟩
theorem stays_row (hs : Stays R) : Stays (RRow R k) := fun _ _ _ _ hk ⟨v, h1, h2⟩ => ⟨v, h1, h2.keep hs hk⟩
theorem RowAt.form (h : RowAt R k w v l) (hl : 0 < l.length) (hk : 0 < k) :
    ∃ b o c, v = .slice (some ⟨b, o, none⟩) l.length c ∧ l.length ≤ c ∧ c ≤ maxLen ∧ b < w.heap.size ∧
      ∀ j x, l[j]? = some x → ∃ cs, cs.length = k ∧ (∀ i u, cs[i]? = some u → w.cell? ⟨b, o + j * k + i, none⟩ = some u) ∧ R w cs x := by
  rcases h with ⟨_, rfl⟩ | ⟨a, c, rfl, h1, h2, h3⟩
  · simp at hl
  · obtain ⟨cs, g1, g2, _⟩ := h3 0 l[0] (by simp [hl])
    have h0 := g2 0 cs[0] (by simp)
    rw [show a.add (0 * k + 0) = a from by simp [Addr.add]] at h0
    have ha := spot_none h0
    refine ⟨a.block, a.off, c, by rw [← ha], h1, h2, World.block_lt_of_cell? w _ h0, fun j x hx => ?_⟩
    obtain ⟨cs, g1, g2, g3⟩ := h3 j x hx
    refine ⟨cs, g1, fun i u hu => ?_, g3⟩
    have h4 := g2 i u hu
    rw [ha, add_plain', ← Nat.add_assoc] at h4
    exact h4
theorem RowAt.cut (h : RowAt R k w v l) {b o c : Nat} (hv : v = .slice (some ⟨b, o, none⟩) l.length c) {i j : Nat} (hi : i ≤ j) (hj : j ≤ l.length) :
    RowAt R k w (.slice (some ⟨b, o + i * k, none⟩) (j - i) (c - i)) ((l.take j).drop i) := by
  rcases h with ⟨rfl, rfl⟩ | ⟨a, c', h0, h1, h2, h3⟩
  · cases hv
  · rw [h0] at hv
    obtain ⟨rfl, rfl⟩ : a = ⟨b, o, none⟩ ∧ c' = c := by injection hv with e1 e2 e3; exact ⟨by injection e1, e3⟩
    have hlen : ((l.take j).drop i).length = j - i := by simp; omega
    refine .inr ⟨_, _, by rw [hlen], by rw [hlen]; omega, by omega, fun m x hx => ?_⟩
    have hm : m < j - i := by have := (List.getElem?_eq_some_iff.1 hx).1; rwa [hlen] at this
    obtain ⟨cs, g1, g2, g3⟩ := h3 (i + m) x (by rw [List.getElem?_drop, List.getElem?_take_of_lt (by omega)] at hx; exact hx)
    refine ⟨cs, g1, fun q u hu => ?_, g3⟩
    have := g2 q u hu
    rw [add_plain'] at this ⊢
    rw [← this]
    congr 2
    rw [Nat.add_mul]
    omega
end
theorem RowAt.strs {w : World} {v : Value} {l : List ByteArray} (h : RowAt RString 1 w v l) : StrAt w v l := by
  rcases h with ⟨rfl, rfl⟩ | ⟨a, c, rfl, h1, h2, h3⟩
  · exact .inl ⟨rfl, rfl⟩
  · refine .inr ⟨a, c, rfl, h1, h2, fun j x hx => ?_⟩
    obtain ⟨cs, _, g2, rfl⟩ := h3 j x hx
    simpa using g2 0 _ rfl
theorem StrAt.row {w : World} {v : Value} {l : List ByteArray} (h : StrAt w v l) : RowAt RString 1 w v l := by
  rcases h with ⟨rfl, rfl⟩ | ⟨a, c, rfl, h1, h2, h3⟩
  · exact .inl ⟨rfl, rfl⟩
  · refine .inr ⟨a, c, rfl, h1, h2, fun j x hx => ⟨[.string x], rfl, fun i u hu => ?_, rfl⟩⟩
    match i, hu with
    | 0, hu => simp only [List.getElem?_cons_zero, Option.some.injEq] at hu; subst hu; simpa using h3 j x hx

theorem sum_ge_length {α : Type} (μ : α → Nat) (h : ∀ x, 1 ≤ μ x) (l : List α) : l.length ≤ (l.map μ).sum := by
  induction l with
  | nil => simp
  | cons x r ih => have := h x; simp only [List.length_cons, List.map_cons, List.sum_cons]; omega
/-- what a type's cells read as -/
def Opens (P : Program) (t : TypeId) {α : Type} (R : Rd α) (μ : α → Nat) : Prop :=
  ∀ (H : Type) (enc : TypeId × Value → H) (w : World) (base : Nat) (spare : Nat → Bool) (held : Bool) (fuel : Nat) (cs : List Value) (x : DataW H × List MemPlace),
    DataW.trod enc P w base spare held fuel t cs = some x → ∃ a, R w cs a ∧ μ a ≤ Rows.uptoBulk x.1

section
variable {P : Program} {t e : TypeId}
theorem opens_string (ht : P.underlying t = some .string) : Opens P t RString (fun s => s.size + 1) := fun _ _ _ _ _ _ _ _ _ h => by
  obtain ⟨s, rfl, rfl, _⟩ := DataW.trod_string ht h
  exact ⟨s, rfl, by simp [Rows.uptoBulk]⟩
theorem opens_int {k : IntKind} (ht : P.underlying t = some (.int k)) : Opens P t (RInt k) (fun _ => 1) := fun _ _ _ _ _ _ _ _ _ h => by
  obtain ⟨n, rfl, rfl, hw⟩ := DataW.trod_int ht h
  exact ⟨n, ⟨rfl, hw⟩, by simp [Rows.uptoBulk]⟩
theorem opens_bool (ht : P.underlying t = some .bool) : Opens P t RBool (fun _ => 1) := fun _ _ _ _ _ _ _ _ _ h => by
  obtain ⟨b, rfl, rfl⟩ := DataW.trod_bool ht h
  exact ⟨b, rfl, by simp [Rows.uptoBulk]⟩
theorem uptoBulkAll_append {H : Type} (l m : List (DataW H)) : Rows.uptoBulkAll (l ++ m) = Rows.uptoBulkAll l + Rows.uptoBulkAll m := by
  induction l with
  | nil => simp [Rows.uptoBulkAll]
  | cons d r ih => simp only [List.cons_append, Rows.uptoBulkAll, ih]; omega
theorem list_of_each {α : Type} {H : Type} (Q : Nat → α → Prop) (μ : α → Nat) (D : Nat → DataW H) : ∀ n : Nat, (∀ i, i < n → ∃ a, Q i a ∧ μ a ≤ Rows.uptoBulk (D i)) →
    ∃ l : List α, l.length = n ∧ (∀ i x, l[i]? = some x → Q i x) ∧ (l.map μ).sum ≤ Rows.uptoBulkAll ((List.range n).map D)
  | 0, _ => ⟨[], rfl, fun i x h => by simp at h, by simp⟩
  | n + 1, h => by
    obtain ⟨l, h1, h2, h3⟩ := list_of_each Q μ D n fun i hi => h i (by omega)
    obtain ⟨a, ha, hm⟩ := h n (by omega)
    refine ⟨l ++ [a], by simp [h1], fun i x hx => ?_, ?_⟩
    · by_cases hi : i < n
      · rw [List.getElem?_append_left (by omega)] at hx
        exact h2 i x hx
      · have : i = n := by have := (List.getElem?_eq_some_iff.1 hx).1; simp [h1] at this; omega
        subst this
        rw [List.getElem?_append_right (by omega), h1] at hx
        simp at hx
        subst hx
        exact ha
    · rw [List.range_succ, List.map_append (l₁ := List.range n), uptoBulkAll_append, List.map_append, List.sum_append]
      simp only [List.map_cons, List.map_nil, List.sum_cons, List.sum_nil, Rows.uptoBulkAll]
      omega
theorem opens_row {α : Type} {R : Rd α} {μ : α → Nat} {k : Nat} (ht : P.underlying t = some (.slice e)) (hC : P.cellsOf e = k) (h : Opens P e R μ) : Opens P t (RRow R k) (fun l => (l.map μ).sum + 1) := fun H enc w base spare held fuel cs x hx => by
  rcases Deep.open_slice ht hx with ⟨rfl, rfl⟩ | ⟨a, len, cap, m, n, D, Pl, rfl, _, hl, hm, hmm, rfl, hel⟩
  · exact ⟨[], ⟨_, rfl, .inl ⟨rfl, rfl⟩⟩, by simp [Rows.uptoBulk]⟩
  · have hlm : len ≤ m := by rw [hmm]; split <;> omega
    obtain ⟨l, h1, h2, h3⟩ := list_of_each (fun i y => ∃ cs, cs.length = k ∧ (∀ j u, cs[j]? = some u → w.cell? (a.add (i * k + j)) = some u) ∧ R w cs y) μ D len fun i hi => by
      obtain ⟨cs', hc, ht'⟩ := hel i (by omega)
      rw [hC] at hc
      obtain ⟨_, hcl, hat⟩ := World.cells?_some hc
      obtain ⟨y, hy, hb⟩ := h _ _ _ _ _ _ _ _ _ ht'
      refine ⟨y, ⟨cs', hcl, fun j u hu => ?_, hy⟩, hb⟩
      have hjk : j < k := by have := (List.getElem?_eq_some_iff.1 hu).1; omega
      rw [← Deep.add_add, hat j hjk]
      exact hu
    subst h1
    refine ⟨l, ⟨_, rfl, .inr ⟨a, cap, rfl, hl, hm, h2⟩⟩, ?_⟩
    simp only [Rows.uptoBulk]
    omega
theorem opens_strs (ht : P.underlying t = some (.slice e)) (he : P.underlying e = some .string) (hC : P.cellsOf e = 1) : Opens P t RStrs (fun l => total l + 1) := fun H enc w base spare held fuel cs x hx => by
  obtain ⟨l, ⟨v, rfl, h1⟩, h2⟩ := opens_row ht hC (opens_string he) H enc w base spare held fuel cs x hx
  exact ⟨l, ⟨v, rfl, h1.strs⟩, h2⟩
/-- a field's cells -/
theorem Opens.at {α : Type} {R : Rd α} {μ : α → Nat} (h : Opens P t R μ) {H : Type} {enc : TypeId × Value → H} {w : World} {base : Nat} {spare : Nat → Bool} {held : Bool} {fuel k o : Nat} {cs ds : List Value} {x : DataW H × List MemPlace}
    (hx : DataW.trod enc P w base spare held fuel t ((cs.drop o).take (P.cellsOf t)) = some x) (hk : P.cellsOf t = k) (hd : (cs.drop o).take k = ds) : ∃ a, R w ds a ∧ μ a ≤ Rows.uptoBulk x.1 := by
  rw [hk, hd] at hx
  exact h _ _ _ _ _ _ _ _ _ hx
end
end Go.Proofs.YtlbolbkikkiifaaDoor
/- Slices of things of some cells each: that the call made itself, appended to, cloned. Any program. -/
namespace Go.Proofs.YtlbolbkikkiifaaDoor
open Go.RowKit

theorem own_below' {w w' : World} {B n k : Nat} {e : TypeId} {v : Value} {xs : List Value} (h : w.ownsRow B e k v n xs) (hb : Below w.heap.size w w') : w'.ownsRow B e k v n xs := by
  refine ⟨h.1, ?_⟩
  rcases h.2 with h0 | ⟨g, cap, cur, hv, hB, hh, hr⟩
  · exact .inl h0
  · have hg : g < w.heap.size := by
      rcases Nat.lt_or_ge g w.heap.size with h1 | h1
      · exact h1
      · rw [Array.getElem?_eq_none h1] at hh; cases hh
    exact .inr ⟨g, cap, cur, hv, hB, (hb.block g hg).trans hh, hr⟩

/-- equal pieces, one behind the other -/
theorem flat_get {β : Type} {k : Nat} : ∀ {css : List (List β)}, (∀ cs ∈ css, cs.length = k) → ∀ {m : Nat} {u : β}, css.flatten[m]? = some u → ∃ j i cs, m = j * k + i ∧ css[j]? = some cs ∧ cs[i]? = some u
  | [], _, m, u, h => by simp at h
  | c :: r, hk, m, u, h => by
    have hc : c.length = k := hk c (List.mem_cons_self ..)
    rw [List.flatten_cons] at h
    by_cases hm : m < c.length
    · rw [List.getElem?_append_left hm] at h
      exact ⟨0, m, c, by omega, rfl, h⟩
    · rw [List.getElem?_append_right (by omega)] at h
      obtain ⟨j, i, cs, h1, h2, h3⟩ := flat_get (fun cs hcs => hk cs (List.mem_cons_of_mem _ hcs)) h
      exact ⟨j + 1, i, cs, by rw [Nat.add_mul]; omega, by simpa using h2, h3⟩
theorem get_flat {β : Type} {k : Nat} : ∀ {css : List (List β)}, (∀ cs ∈ css, cs.length = k) → ∀ {j i : Nat} {cs : List β} {u : β}, css[j]? = some cs → cs[i]? = some u → css.flatten[j * k + i]? = some u
  | [], _, j, i, cs, u, h, _ => by simp at h
  | c :: r, hk, j, i, cs, u, h, hi => by
    have hc : c.length = k := hk c (List.mem_cons_self ..)
    rw [List.flatten_cons]
    cases j with
    | zero =>
      simp only [List.getElem?_cons_zero, Option.some.injEq] at h
      subst h
      have := (List.getElem?_eq_some_iff.1 hi).1
      rw [Nat.zero_mul, Nat.zero_add, List.getElem?_append_left this]
      exact hi
    | succ j =>
      have h' : r[j]? = some cs := by simpa using h
      rw [Nat.add_mul, Nat.one_mul, List.getElem?_append_right (by omega), show j * k + k + i - c.length = j * k + i by omega]
      exact get_flat (fun cs hcs => hk cs (List.mem_cons_of_mem _ hcs)) h' hi
theorem flat_len {β : Type} {k : Nat} : ∀ {css : List (List β)}, (∀ cs ∈ css, cs.length = k) → css.flatten.length = css.length * k
  | [], _ => by simp
  | c :: r, hk => by
    rw [List.flatten_cons, List.length_append, flat_len fun cs hcs => hk cs (List.mem_cons_of_mem _ hcs), hk c (List.mem_cons_self ..), List.length_cons, Nat.add_mul]
    omega
theorem pick_each {β : Type} (Q : Nat → β → Prop) : ∀ n : Nat, (∀ i, i < n → ∃ y, Q i y) → ∃ ys : List β, ys.length = n ∧ ∀ i y, ys[i]? = some y → Q i y
  | 0, _ => ⟨[], rfl, fun i y h => by simp at h⟩
  | n + 1, h => by
    obtain ⟨ys, h1, h2⟩ := pick_each Q n fun i hi => h i (by omega)
    obtain ⟨y, hy⟩ := h n (by omega)
    refine ⟨ys ++ [y], by simp [h1], fun i z hz => ?_⟩
    by_cases hi : i < n
    · rw [List.getElem?_append_left (by omega)] at hz
      exact h2 i z hz
    · have : i = n := by have := (List.getElem?_eq_some_iff.1 hz).1; simp [h1] at this; omega
      subst this
      rw [List.getElem?_append_right (by omega), h1] at hz
      simp at hz
      subst hz
      exact hy

/-- all cells of one cell each -/
def OneR {α : Type} (R : Rd α) : Prop := ∀ w cs x, R w cs x → ∀ u ∈ cs, u.oneCell' = true

section
variable {α : Type} {R : Rd α} {k : Nat} {w w' : World} {v : Value} {l m : List α} {B : Nat} {e : TypeId}

/-- the cells of a slice that is not nil -/
theorem RowAt.cells (h : RowAt R k w v l) {a : Addr} {n c : Nat} (hv : v = .slice (some a) n c) :
    n = l.length ∧ ∃ css : List (List Value), css.length = l.length ∧ (∀ cs ∈ css, cs.length = k) ∧ (∀ (j : Nat) (u : Value), css.flatten[j]? = some u → w.cell? (a.add j) = some u) ∧ ∀ (j : Nat) (cs : List Value) (x : α), css[j]? = some cs → l[j]? = some x → R w cs x := by
  rcases h with ⟨rfl, rfl⟩ | ⟨a', c', rfl, _, _, h4⟩
  · cases hv
  · cases hv
    refine ⟨rfl, ?_⟩
    obtain ⟨css, h1, h2⟩ := pick_each (fun j cs => ∃ x, l[j]? = some x ∧ cs.length = k ∧ (∀ i u, cs[i]? = some u → w.cell? (a.add (j * k + i)) = some u) ∧ R w cs x) l.length (fun j hj => by
      obtain ⟨cs, g1, g2, g3⟩ := h4 j l[j] (by simp [hj])
      exact ⟨cs, l[j], by simp [hj], g1, g2, g3⟩)
    have hk : ∀ cs ∈ css, cs.length = k := fun cs hcs => by
      obtain ⟨j, hj, rfl⟩ := List.getElem_of_mem hcs
      obtain ⟨x, _, g, _⟩ := h2 j _ (List.getElem?_eq_getElem hj)
      exact g
    refine ⟨css, h1, hk, fun j u hu => ?_, fun j cs x hcs hx => ?_⟩
    · obtain ⟨q, i, cs, rfl, hq, hi⟩ := flat_get hk hu
      obtain ⟨x, _, _, g, _⟩ := h2 q cs hq
      exact g i u hi
    · obtain ⟨y, hy, _, _, g⟩ := h2 j cs hcs
      rw [hx] at hy
      cases hy
      exact g

/-- a slice of the call's own: nil or a row in a block from B on -/
def OwnAt (R : Rd α) (k : Nat) (w : World) (B : Nat) (e : TypeId) (v : Value) (l : List α) : Prop :=
  ∃ css : List (List Value), css.length = l.length ∧ (∀ cs ∈ css, cs.length = k) ∧ w.ownsRow B e k v l.length css.flatten ∧ ∀ (j : Nat) (cs : List Value) (x : α), css[j]? = some cs → l[j]? = some x → R w cs x
theorem OwnAt.nil (w : World) : OwnAt R k w B e (.slice none 0 0) [] := ⟨[], rfl, fun _ h => (by cases h), World.ownsRow_nil _ _ _ _, fun j cs x h => (by simp at h)⟩

theorem OwnAt.form (h : OwnAt R k w B e v l) : (v = .slice none 0 0 ∧ l = []) ∨ ∃ g c, v = .slice (some ⟨g, 0, none⟩) l.length c ∧ B ≤ g ∧ g < w.heap.size ∧ l.length ≤ c ∧ c ≤ maxLen := by
  obtain ⟨css, _, _, h3, _⟩ := h
  rcases h3.2 with ⟨h4, h5⟩ | ⟨g, cap, cur, h4, h5, h6, h7, h8, _⟩
  · exact .inl ⟨h4, List.eq_nil_of_length_eq_zero h5⟩
  · refine .inr ⟨g, cap, h4, h5, ?_, h7, h8⟩
    rcases Nat.lt_or_ge g w.heap.size with h1 | h1
    · exact h1
    · rw [Array.getElem?_eq_none h1] at h6; cases h6
/-- where it lies -/
theorem OwnAt.at (h : OwnAt R k w B e v l) {g : Nat} (hg : v.ownBlock = some g) : B ≤ g ∧ g < w.heap.size ∧ ∃ cur, w.heap[g]? = some (.cells cur e (0, 0)) := by
  obtain ⟨css, _, _, h3, _⟩ := h
  rcases h3.2 with ⟨rfl, _⟩ | ⟨g', cap, cur, rfl, h5, h6, _⟩
  · cases hg
  · obtain rfl : g' = g := by simpa [Value.ownBlock] using hg
    refine ⟨h5, ?_, cur, h6⟩
    rcases Nat.lt_or_ge g' w.heap.size with h1 | h1
    · exact h1
    · rw [Array.getElem?_eq_none h1] at h6; cases h6
theorem OwnAt.other {β : Type} {R' : Rd β} {k' : Nat} {B' : Nat} {e' : TypeId} {v' : Value} {l' : List β} (h : OwnAt R k w B e v l) (h' : OwnAt R' k' w B' e' v' l') (hne : e ≠ e') {g : Nat} (hg : v.ownBlock = some g) : v'.ownBlock ≠ some g := fun hg' => by
  obtain ⟨_, _, cur, h1⟩ := h.at hg
  obtain ⟨_, _, cur', h2⟩ := h'.at hg'
  rw [h1] at h2
  cases h2
  exact hne rfl
theorem OwnAt.row (h : OwnAt R k w B e v l) : RowAt R k w v l := by
  obtain ⟨css, h1, h2, h3, h4⟩ := h
  rcases h3.2 with ⟨h5, h6⟩ | ⟨g, cap, cur, h5, _, _, h7, h8, _, hc⟩
  · exact .inl ⟨h5, List.eq_nil_of_length_eq_zero h6⟩
  · refine .inr ⟨_, cap, h5, h7, h8, fun j x hx => ?_⟩
    have hj : j < css.length := by rw [h1]; exact (List.getElem?_eq_some_iff.1 hx).1
    have hcs : css[j]? = some css[j] := List.getElem?_eq_getElem hj
    exact ⟨css[j], h2 _ (List.getElem_mem hj), fun i u hu => h3.cells (by rw [h5]; rfl) (j * k + i) u (get_flat h2 hcs hu), h4 j _ x hcs hx⟩

theorem OwnAt.keepRow (hs : Stays R) (h : OwnAt R k w B e v l) (hk : Keeps w w') (ho : ∀ xs, w.ownsRow B e k v l.length xs → w'.ownsRow B e k v l.length xs) : OwnAt R k w' B e v l := by
  obtain ⟨css, h1, h2, h3, h4⟩ := h
  exact ⟨css, h1, h2, ho _ h3, fun j cs x hcs hx => hs _ _ _ _ hk (h4 j cs x hcs hx)⟩
theorem OwnAt.below (hs : Stays R) (h : OwnAt R k w B e v l) (hb : Below w.heap.size w w') : OwnAt R k w' B e v l := h.keepRow hs (keeps_below hb) fun _ ho => own_below' ho hb



theorem OwnAt.mono {B' : Nat} (h : OwnAt R k w B e v l) (hB : B' ≤ B) : OwnAt R k w B' e v l := by
  obtain ⟨css, h1, h2, h3, h4⟩ := h
  exact ⟨css, h1, h2, h3.mono hB, h4⟩
theorem OwnAt.alloc (hs : Stays R) (h : OwnAt R k w B e v l) (o : Obj) : OwnAt R k (w.alloc o) B e v l := h.below hs ((Below.refl _ _).alloc (Nat.le_refl _) o)
/-- one thing in a block of its own -/
theorem RowAt.one {b : Nat} {cs : Array Value} {fr : Nat × Nat} (hb : w.heap[b]? = some (.cells cs e fr)) (hk : cs.size = k) {x : α} (h : R w cs.toList x) : RowAt R k w (.slice (some ⟨b, 0, none⟩) 1 1) [x] := by
  refine .inr ⟨_, 1, rfl, Nat.le_refl _, by unfold maxLen; decide, fun j y hy => ?_⟩
  have hj : j < 1 := (List.getElem?_eq_some_iff.1 hy).1
  obtain rfl : j = 0 := by omega
  simp only [List.getElem?_cons_zero, Option.some.injEq] at hy
  subst hy
  refine ⟨cs.toList, by simpa using hk, fun i u hu => ?_, h⟩
  rw [Nat.zero_mul, Nat.zero_add, add_plain', Nat.zero_add]
  have hi : i < cs.size := by have := (List.getElem?_eq_some_iff.1 hu).1; simpa using this
  have : w.cell? ⟨b, i, none⟩ = cs[i]? := by unfold World.cell?; simp [hb]
  rw [this]
  simpa using hu
end

theorem own_setLow {w : World} {B n k : Nat} {e : TypeId} {v : Value} {xs : List Value} (h : w.ownsRow B e k v n xs) {p : Addr} (hp : p.block < B) (x : Value) : (w.setCell p x).ownsRow B e k v n xs := by
  refine ⟨h.1, ?_⟩
  rcases h.2 with h0 | ⟨g, cap, cur, hv, hB, hh, hr⟩
  · exact .inl h0
  · exact .inr ⟨g, cap, cur, hv, hB, (Below.heap_setCell w p x g (by omega)).trans hh, hr⟩
/-- how a thing reads does not hang on memory -/
def Flat {α : Type} (R : Rd α) : Prop := ∀ w w' cs x, R w cs x → R w' cs x
theorem Flat.stays {α : Type} {R : Rd α} (h : Flat R) : Stays R := fun _ _ _ _ _ hR => h _ _ _ _ hR

section
variable {P : Program} {α : Type} {R : Rd α} {k : Nat} {l m : List α} {B : Nat} {e : TypeId}
theorem OwnAt.setLow (hf : Flat R) {w : World} {v : Value} (h : OwnAt R k w B e v l) {p : Addr} (hp : p.block < B) (x : Value) : OwnAt R k (w.setCell p x) B e v l := by
  obtain ⟨css, h1, h2, h3, h4⟩ := h
  exact ⟨css, h1, h2, own_setLow h3 hp x, fun j cs y hcs hy => hf _ _ _ _ (h4 j cs y hcs hy)⟩
theorem OwnAt.grown (hf : Flat R) {w w' : World} {v : Value} (h : OwnAt R k w B e v l) {r : Option Nat} (hg : w.grownBy w' r) (hne : ∀ q, v.ownBlock = some q → some q ≠ r) : OwnAt R k w' B e v l := by
  obtain ⟨css, h1, h2, h3, h4⟩ := h
  refine ⟨css, h1, h2, ⟨h3.1, ?_⟩, fun j cs y hcs hy => hf _ _ _ _ (h4 j cs y hcs hy)⟩
  rcases h3.2 with h5 | ⟨q, cap, cur, rfl, hB, hh, hr⟩
  · exact .inl h5
  · have hq : q < w.heap.size := by
      rcases Nat.lt_or_ge q w.heap.size with h1 | h1
      · exact h1
      · rw [Array.getElem?_eq_none h1] at hh; cases hh
    exact .inr ⟨q, cap, cur, rfl, hB, (hg.block q hq (hne q rfl)).trans hh, hr⟩
theorem nil_of_len {β : Type} {l : List β} (h : l.length = 0) : l = [] := List.eq_nil_of_length_eq_zero h

theorem run_append_ownAt (w : World) (t ty : TypeId) (i : TypeInfo) (z : Value) (bytes : Nat) (ht : P.underlying t = some (.slice e)) (hi : P.info? e = some i) (hz : i.zero = some z) (hsize : i.size = k) (hby : i.bytes = bytes)
    (hzs : z.cells.size = k) (hsz : 0 < k) (hf : Flat R) (h1 : OneR R) (v : Value) (hv : OwnAt R k w B e v l) (x : Value) (hx : RowAt R k w x m) (hlen : l.length + m.length ≤ maxLen)
    (hbytes : (l.length + m.length) * bytes ≤ 140737488355328) (hbase : B ≤ w.heap.size) :
    ∃ v' w', (Builtin.append_ #[t, t] ty #[v, x]).run P w = .ok v' w' ∧ OwnAt R k w' B e v' (l ++ m) ∧ w.grownBy w' v.ownBlock ∧ (∀ g, v.ownBlock = some g → B ≤ g) ∧ (v'.ownBlock = v.ownBlock ∨ v'.ownBlock = some w.heap.size) := by
  obtain ⟨css, c1, c2, c3, c4⟩ := hv
  rcases hx with ⟨rfl, rfl⟩ | ⟨a, c, rfl, hc1, hc2, hc3⟩
  · exact ⟨v, w, run_append_owned_none (P := P) w B t ty e i k ht hi v _ _ c3, ⟨css, by simpa using c1, c2, by simpa using c3, fun j cs y hcs hy => c4 j cs y hcs (by simpa using hy)⟩, World.grownBy.refl w _, fun g hg => (c3.lt g hg).1, .inl rfl⟩
  · obtain ⟨_, ds, d1, d2, d3, d4⟩ := RowAt.cells (R := R) (k := k) (w := w) (l := m) (.inr ⟨a, c, rfl, hc1, hc2, hc3⟩) rfl
    have d6 : ∀ u ∈ ds.flatten, u.oneCell' = true := fun u hu => by
      obtain ⟨cs, hcs, hu'⟩ := List.mem_flatten.1 hu
      obtain ⟨j, hj, rfl⟩ := List.getElem_of_mem hcs
      exact h1 w _ m[j] (d4 j _ _ (List.getElem?_eq_getElem hj) (List.getElem?_eq_getElem (by omega))) u hu'
    obtain ⟨v', w', hrun, r1, r2, _, r4⟩ := run_append_own_at (P := P) w B t ty e i z k bytes ht hi hz hsize hby hzs hsz v l.length css.flatten c3 a m.length c ds.flatten (by rw [flat_len d2, d1]) d3 d6 hlen hbytes hbase
    refine ⟨v', w', hrun, ⟨css ++ ds, by simp [c1, d1], fun cs hcs => (List.mem_append.1 hcs).elim (c2 cs) (d2 cs), by rw [List.flatten_append, List.length_append]; exact r1, fun j cs y hcs hy => ?_⟩, r2, fun g hg => (c3.lt g hg).1, r4⟩
    by_cases hj : j < l.length
    · rw [List.getElem?_append_left (by omega)] at hcs hy
      exact hf _ _ _ _ (c4 j cs y hcs hy)
    · rw [List.getElem?_append_right (by omega)] at hcs hy
      rw [c1] at hcs
      exact hf _ _ _ _ (d4 _ cs y hcs hy)

theorem wpList_append_ownAt (w : World) {ops : Array Oper} {rest : List Oper} {o : Oper} {a : Act} {Q : Exit → Act → World → Prop} (hg : o.guard = none) (s x : Operand) (t : TypeId)
    (ho : o.op = .call { callee := .builtin .append, args := #[s, x], argTypes := #[t, t] })
    (i : TypeInfo) (z : Value) (bytes : Nat) (ht : P.underlying t = some (.slice e)) (hi : P.info? e = some i) (hz : i.zero = some z) (hsize : i.size = k) (hby : i.bytes = bytes) (hzs : z.cells.size = k) (hsz : 0 < k) (hf : Flat R) (h1 : OneR R)
    (v : Value) (hs : a.eval s = v) (hv : OwnAt R k w B e v l) (xv : Value) (hxv : a.eval x = xv) (hx : RowAt R k w xv m) (hlen : l.length + m.length ≤ maxLen)
    (hbytes : (l.length + m.length) * bytes ≤ 140737488355328) (hbase : B ≤ w.heap.size)
    (h : ∀ v' w', OwnAt R k w' B e v' (l ++ m) → w.grownBy w' v.ownBlock → (∀ g, v.ownBlock = some g → B ≤ g) → (v'.ownBlock = v.ownBlock ∨ v'.ownBlock = some w.heap.size) → wpList P ops Q rest (a.put o.dst v') w') : wpList P ops Q (o :: rest) a w := by
  refine wpList_plain hg fun K hK' => ?_
  obtain ⟨v', w', hrun, r1, r2, r3, r4⟩ := run_append_ownAt w t o.type i z bytes ht hi hz hsize hby hzs hsz hf h1 v hv xv hx hlen hbytes hbase
  unfold Oper.wp
  simp [execOp, ho, resolve, invoke, builtin, hs, hxv, hrun, Result.andThen]
  exact hK' _ _ (h v' w' r1 r2 r3 r4)
theorem below_of_grown {B : Nat} {W w w' : World} (h : Below B W w) (hB : B ≤ w.heap.size) {r : Option Nat} (hg : w.grownBy w' r) (hr : ∀ g, r = some g → B ≤ g) : Below B W w' := h.grown hg hB hr
end
theorem own_empty {α : Type} {R : Rd α} (w : World) (k : Nat) (e : TypeId) {B : Nat} (hB : B ≤ w.heap.size) : OwnAt R k (w.alloc (.cells #[] e)) B e (.slice (some ⟨w.heap.size, 0, none⟩) 0 0) [] :=
  ⟨[], rfl, fun _ h => (by cases h), ⟨by simp, .inr ⟨w.heap.size, 0, #[], rfl, hB, heap_alloc_new w _, Nat.le_refl _, by simp, by simp, by simp⟩⟩, fun j cs x h => (by simp at h)⟩
theorem flat_string : Flat RString := fun _ _ _ _ h => h
theorem one_string : OneR RString := fun _ _ _ h u hu => by rw [h] at hu; simp at hu; subst hu; rfl
end Go.Proofs.YtlbolbkikkiifaaDoor
/- What the library's string functions read: one variable's cell, of whatever value. -/
namespace Go.Proofs.YtlbolbkikkiifaaDoor
open Go.RowKit

/-- what the library's string functions read -/
def MaxOK (m : Int) (w : World) : Prop := w.cell? ⟨Tryd.laysM143_ren.g 1, 0, none⟩ = some (.int .i64 m)
theorem MaxOK.below {m : Int} {w w' : World} (h : MaxOK m w) (hb : Below w.heap.size w w') : MaxOK m w' := by
  have h' : w.cell? ⟨Tryd.laysM143_ren.g 1, 0, none⟩ = some (.int .i64 m) := h
  exact (hb.cell (p := ⟨Tryd.laysM143_ren.g 1, 0, none⟩) (World.block_lt_of_cell? w _ h')).trans h'
theorem MaxOK.drewN {m : Int} {w : World} (h : MaxOK m w) (k : Nat) : MaxOK m (w.drewN k) := h
theorem max_of {w : World} (h : w.ShapedOpen Tryd.prog) : ∃ m, MaxOK m w := Tryd.laysM143.s1_3 w h
end Go.Proofs.YtlbolbkikkiifaaDoor
/- What the library reads, out of what is laid: the table, two sentinels, a cell. -/
namespace Go.Proofs.YtlbolbkikkiifaaDoor
open Go.RowKit Go.ChangeShapes Go.WideShapes Go.ChangeAt

/-- what the library reads -/
def Env (w : World) : Prop := TabOK w ∧ ErrOK w ∧ ∃ m, MaxOK m w
theorem Env.below {w w' : World} (h : Env w) (hb : Below w.heap.size w w') : Env w' := ⟨h.1.below hb, h.2.1.below hb, by obtain ⟨m, hm⟩ := h.2.2; exact ⟨m, hm.below hb⟩⟩
theorem star_err : "*" ++ "errors.errorString" = "*errors.errorString" := by decide
theorem row_err (u : TypeId) (h : Tryd.prog.typeName? 3 u = some "*errors.errorString") : u = 188 :=
  typeName_ptr_named (nm := "errors.errorString") (by rw [star_err]; kernel_rfl) (by kernel_rfl) (by decide) u (by rw [star_err]; exact h)
noncomputable def errR : Nat := (Tryd.prog.globalNamed "strconv.ErrRange").getD 0
noncomputable def errS : Nat := (Tryd.prog.globalNamed "strconv.ErrSyntax").getD 0
theorem errR1 : Tryd.prog.globalNamed "strconv.ErrRange" = some errR := by kernel_rfl
theorem errS1 : Tryd.prog.globalNamed "strconv.ErrSyntax" = some errS := by kernel_rfl
theorem errR2 : (Tryd.prog.globals[errR]?).map (·.type) = some 93 := by kernel_rfl
theorem errS2 : (Tryd.prog.globals[errS]?).map (·.type) = some 93 := by kernel_rfl
theorem errCells : Tryd.prog.cellsOf 190 = 1 := by kernel_rfl
theorem errCells2 : Tryd.prog.cellsOf 9 = 1 := by kernel_rfl
theorem err_of {W : World} {x1 x2 x3 x4 : String × DataW Unit} {t1 t2 : List UInt8} {d1 d2 : DataW Unit} {r : List (String × DataW Unit)} (h1 : d1 = .iface "*errors.errorString" (.ptr (.agg [.lit (.string t1)]))) (h2 : d2 = .iface "*errors.errorString" (.ptr (.agg [.lit (.string t2)]))) (h : laidMet Tryd.prog (x1 :: x2 :: x3 :: x4 :: ("strconv.ErrRange", d1) :: ("strconv.ErrSyntax", d2) :: r) W) : ErrOK W := by
  subst h1; subst h2
  have h4 := h.tail.tail.tail.tail
  obtain ⟨a0, s0, hv0, _⟩ := laid_sentinel h4 errR1 errR2 Tryd.underlying93 row_err Tryd.underlying188 Tryd.underlying190 rfl rfl Tryd.underlying9 errCells errCells2
  obtain ⟨a1, s1, hv1, _⟩ := laid_sentinel h4.tail errS1 errS2 Tryd.underlying93 row_err Tryd.underlying188 Tryd.underlying190 rfl rfl Tryd.underlying9 errCells errCells2
  exact ⟨_, _, _, _, hv1, hv0⟩
theorem env_of {W : World} {x1 x2 x4 : String × DataW Unit} {t1 t2 : List UInt8} {d d1 d2 : DataW Unit} {r : List (String × DataW Unit)} (hd : d = Lib.tabData .u64 Lib.pow10Tab) (h1 : d1 = .iface "*errors.errorString" (.ptr (.agg [.lit (.string t1)]))) (h2 : d2 = .iface "*errors.errorString" (.ptr (.agg [.lit (.string t2)]))) (h : laidMet Tryd.prog (x1 :: x2 :: ("internal/strconv.uint64pow10", d) :: x4 :: ("strconv.ErrRange", d1) :: ("strconv.ErrSyntax", d2) :: r) W) (hs : W.ShapedOpen Tryd.prog) : Env W :=
  ⟨tab_of hd h, err_of h1 h2 h, max_of hs⟩
end Go.Proofs.YtlbolbkikkiifaaDoor
/- Names as lists of bytes: plain definitions and laws, no program in sight. -/
namespace Go.Proofs.YtlbolbkikkiifaaDoor.NameP
def edge (c : Nat) : Bool := decide (97 ≤ c ∧ c ≤ 122) || decide (65 ≤ c ∧ c ≤ 90) || decide (48 ≤ c ∧ c ≤ 57)
def low (c : Nat) : Bool := edge c && (decide (c < 65) || decide (90 < c))
def dash (c : Nat) : Bool := c == 45
def wordIn (c : Nat) : Bool := c == 45 || c == 95 || c == 46
def made (e v : Nat → Bool) (l : List UInt8) : Bool :=
  match l with
  | [] => false
  | x :: r => e x.toNat && e ((x :: r).getLast (by simp)).toNat && (x :: r).all fun c => e c.toNat || v c.toNat
def isName (l : List UInt8) : Bool := made low dash l
def isWord (l : List UInt8) : Bool := made edge wordIn l
def judge (n most : Nat) (is : Bool) : Int := if most < n then 2 else if is then 0 else 6
def check (l : List UInt8) : Int := judge l.length 63 (isName l)
def checkVal (l : List UInt8) : Int := judge l.length 63 (l.isEmpty || isWord l)

theorem low_edge {c : Nat} (h : low c = true) : edge c = true := by
  unfold low at h; simp at h; exact h.1
theorem made_iff {e v : Nat → Bool} {l : List UInt8} : made e v l = true ↔ ∃ (h : l ≠ []), e (l.head h).toNat = true ∧ e (l.getLast h).toNat = true ∧ ∀ c ∈ l, e c.toNat = true ∨ v c.toNat = true := by
  cases l with
  | nil => simp [made]
  | cons x r => simp [made, and_assoc]
theorem isName_word {l : List UInt8} (h : isName l = true) : isWord l = true := by
  unfold isName at h; unfold isWord
  rw [made_iff] at h ⊢
  obtain ⟨hn, h1, h2, h3⟩ := h
  refine ⟨hn, low_edge h1, low_edge h2, fun c hc => ?_⟩
  rcases h3 c hc with h | h
  · exact .inl (low_edge h)
  · right; unfold dash at h; unfold wordIn; simp at h; simp [h]
theorem check_ok {l : List UInt8} : check l = 0 ↔ l.length ≤ 63 ∧ isName l = true := by
  unfold check judge
  split
  · constructor
    · intro h; simp at h
    · intro h; omega
  · split
    · simp [*]; omega
    · simp [*]
theorem checkVal_ok {l : List UInt8} (h : check l = 0) : checkVal l = 0 := by
  rw [check_ok] at h
  unfold checkVal judge
  rw [if_neg (by omega), if_pos (by simp [isName_word h.2])]
/-- two names and a dash between them -/
theorem join_name {a b : List UInt8} (ha : isName a = true) (hb : isName b = true) : isName (a ++ 45 :: b) = true := by
  unfold isName at *
  rw [made_iff] at *
  obtain ⟨na, a1, a2, a3⟩ := ha
  obtain ⟨nb, b1, b2, b3⟩ := hb
  refine ⟨by simp, ?_, ?_, fun c hc => ?_⟩
  · rw [List.head_append_of_ne_nil na]; exact a1
  · have : (a ++ 45 :: b).getLast (by simp) = b.getLast nb := by
      rw [List.getLast_append_of_ne_nil (by simp) (by simp), List.getLast_cons nb]
    rw [this]; exact b2
  · simp only [List.mem_append, List.mem_cons] at hc
    rcases hc with h | rfl | h
    · exact a3 c h
    · right; rfl
    · exact b3 c h
theorem join_check {a b : List UInt8} (ha : check a = 0) (hb : check b = 0) (h : a.length + b.length < 63) : check (a ++ 45 :: b) = 0 := by
  rw [check_ok] at *
  exact ⟨by simp; omega, join_name ha.2 hb.2⟩
theorem join_long {a b : List UInt8} (h : ¬ a.length + b.length < 63) : check (a ++ 45 :: b) = 2 := by
  unfold check judge
  rw [if_pos (by simp; omega)]
end Go.Proofs.YtlbolbkikkiifaaDoor.NameP
/- Hex and back on lists of bytes: plain laws, no program in sight. -/
namespace Go.Proofs.YtlbolbkikkiifaaDoor.HexP
/-- a half byte's sign -/
def dig (n : Nat) : UInt8 := if n < 10 then UInt8.ofNat (48 + n) else UInt8.ofNat (87 + n)
def hexl : List UInt8 → List UInt8
  | [] => []
  | c :: r => dig (c.toNat / 16) :: dig (c.toNat % 16) :: hexl r
def val (c : Nat) : Nat := if 48 ≤ c ∧ c ≤ 57 then c - 48 else c - 87
def isDig (c : Nat) : Bool := decide (48 ≤ c ∧ c ≤ 57) || decide (97 ≤ c ∧ c ≤ 102)
def unhexl : List UInt8 → Option (List UInt8)
  | [] => some []
  | [_] => none
  | a :: b :: r => if isDig a.toNat && isDig b.toNat then (unhexl r).map (UInt8.ofNat (val a.toNat * 16 + val b.toNat) :: ·) else none

theorem dig_toNat (n : Nat) (h : n < 16) : (dig n).toNat = if n < 10 then 48 + n else 87 + n := by
  unfold dig; split <;> simp <;> omega
theorem isDig_dig (n : Nat) (h : n < 16) : isDig (dig n).toNat = true := by
  rw [dig_toNat n h]; unfold isDig; split <;> simp <;> omega
theorem val_dig (n : Nat) (h : n < 16) : val (dig n).toNat = n := by
  rw [dig_toNat n h]; unfold val; split <;> split <;> omega
theorem unhex_hex (l : List UInt8) : unhexl (hexl l) = some l := by
  induction l with
  | nil => rfl
  | cons c r ih =>
    have hc := c.toNat_lt
    have h1 : c.toNat / 16 < 16 := by omega
    have h2 : c.toNat % 16 < 16 := by omega
    simp only [hexl, unhexl, isDig_dig _ h1, isDig_dig _ h2, val_dig _ h1, val_dig _ h2, Bool.and_self, if_true, ih, Option.map_some]
    rw [show c.toNat / 16 * 16 + c.toNat % 16 = c.toNat by omega]
    simp
theorem val_lt (c : Nat) (h : isDig c = true) : val c < 16 := by
  unfold isDig at h; unfold val; simp at h; split <;> omega
theorem dig_val (c : UInt8) (h : isDig c.toNat = true) : dig (val c.toNat) = c := by
  unfold isDig at h; simp at h
  apply UInt8.toNat_inj.1
  rw [dig_toNat _ (val_lt _ (by unfold isDig; simpa using h))]
  unfold val
  split <;> split <;> omega
theorem hex_unhex : ∀ (t b : List UInt8), unhexl t = some b → hexl b = t
  | [], b, h => by simp [unhexl] at h; subst h; rfl
  | [_], b, h => by simp [unhexl] at h
  | x :: y :: r, b, h => by
    unfold unhexl at h
    split at h
    · rename_i hd
      rw [Bool.and_eq_true] at hd
      obtain ⟨l, hl, rfl⟩ := Option.map_eq_some_iff.1 h
      have ih := hex_unhex r l hl
      have v1 := val_lt _ hd.1
      have v2 := val_lt _ hd.2
      have e : (UInt8.ofNat (val x.toNat * 16 + val y.toNat)).toNat = val x.toNat * 16 + val y.toNat := by simp; omega
      simp only [hexl, e, ih]
      rw [show (val x.toNat * 16 + val y.toNat) / 16 = val x.toNat by omega, show (val x.toNat * 16 + val y.toNat) % 16 = val y.toNat by omega, dig_val _ hd.1, dig_val _ hd.2]
    · cases h
theorem hexl_length (l : List UInt8) : (hexl l).length = 2 * l.length := by
  induction l with
  | nil => rfl
  | cons c r ih => simp [hexl, ih]; omega
theorem hexl_append (l m : List UInt8) : hexl (l ++ m) = hexl l ++ hexl m := by
  induction l with
  | nil => rfl
  | cons c r ih => simp [hexl, ih]
/-- two digits and what follows -/
theorem unhexl_two (x y : UInt8) (r : List UInt8) (hx : isDig x.toNat = true) (hy : isDig y.toNat = true) (b : List UInt8) :
    (unhexl (x :: y :: r)).map (b ++ ·) = (unhexl r).map ((b ++ [UInt8.ofNat (val x.toNat * 16 + val y.toNat)]) ++ ·) := by
  simp only [unhexl, hx, hy, Bool.and_self, if_true, Option.map_map]
  congr 1
  funext z
  simp
theorem unhexl_bad (x y : UInt8) (r : List UInt8) (h : (isDig x.toNat && isDig y.toNat) = false) : unhexl (x :: y :: r) = none := by
  simp [unhexl, h]
theorem unhexl_odd : ∀ (l : List UInt8), l.length % 2 = 1 → unhexl l = none
  | [], h => by simp at h
  | [_], _ => rfl
  | x :: y :: r, h => by
    have := unhexl_odd r (by simp at h; omega)
    unfold unhexl
    rw [this]
    split <;> rfl
end Go.Proofs.YtlbolbkikkiifaaDoor.HexP
/- strings.ReplaceAll as a scan: three rules. Any program. -/
namespace Go.Proofs.YtlbolbkikkiifaaDoor
open Go Go.Lib

theorem replaceAll_eq {old new : List UInt8} (hne : old ≠ new) (s : List UInt8) : replaceAll s old new = replaceK old new (count s old) s := by
  unfold replaceAll replace
  rw [if_neg (by simpa using hne)]
  unfold replaceNum
  rw [if_pos (.inl (by decide))]
theorem replaceAll_nil {old new : List UInt8} (h0 : old ≠ []) (hne : old ≠ new) : replaceAll [] old new = [] := by
  rw [replaceAll_eq hne]
  have h1 : index [] old = -1 := by
    unfold index
    rw [if_neg (by simpa using h0)]
  rw [count_miss h1]
  rfl
theorem replaceAll_hit {old new : List UInt8} (h0 : old ≠ []) (hne : old ≠ new) (t : List UInt8) : replaceAll (old ++ t) old new = new ++ replaceAll t old new := by
  rw [replaceAll_eq hne, replaceAll_eq hne]
  have h1 : index (old ++ t) old = (0 : Nat) := by
    obtain ⟨c, r, rfl⟩ : ∃ c r, old = c :: r := by cases old with | nil => exact absurd rfl h0 | cons c r => exact ⟨c, r, rfl⟩
    rw [List.cons_append, index, if_pos (by rw [List.isPrefixOf_iff_prefix, ← List.cons_append]; exact List.prefix_append _ _)]
    rfl
  rw [count_hit h0 h1, Nat.add_comm, replaceK_hit _ _ _ _ _ h1]
  simp
theorem replaceAll_miss {old new : List UInt8} (h0 : old ≠ []) (hne : old ≠ new) {x : UInt8} {s : List UInt8} (h : old.isPrefixOf (x :: s) = false) : replaceAll (x :: s) old new = x :: replaceAll s old new := by
  rw [replaceAll_eq hne, replaceAll_eq hne]
  have h1 : index (x :: s) old = if index s old == -1 then -1 else index s old + 1 := by
    rw [index, if_neg (by rw [h]; simp)]
  rcases index_spec s old with ⟨h2, _⟩ | ⟨i, h2, _, _⟩
  · rw [h2, if_pos (by decide)] at h1
    rw [count_miss h1, count_miss h2]
    rfl
  · rw [h2, if_neg (by rw [beq_iff_eq]; omega)] at h1
    have h3 : index (x :: s) old = ((i + 1 : Nat) : Int) := by rw [h1]; omega
    rw [count_hit h0 h3, count_hit h0 h2, show i + 1 + old.length = (i + old.length) + 1 by omega, List.drop_succ_cons, Nat.add_comm, replaceK_hit _ _ _ _ _ h3, replaceK_hit _ _ _ _ _ h2, show i + 1 + old.length = (i + old.length) + 1 by omega]
    simp
/-- one byte: each for itself -/
theorem replaceAll_one {c : UInt8} {new : List UInt8} (hne : [c] ≠ new) : ∀ s : List UInt8, replaceAll s [c] new = s.flatMap fun b => if b = c then new else [b]
  | [] => replaceAll_nil (by simp) hne
  | x :: s => by
    rw [List.flatMap_cons, ← replaceAll_one hne s]
    by_cases h : x = c
    · subst h
      rw [if_pos rfl]
      exact replaceAll_hit (old := [x]) (by simp) hne s
    · rw [if_neg h]
      exact replaceAll_miss (by simp) hne (by simp [List.isPrefixOf, Ne.symm h])
/-- two bytes: a scan -/
def rep2 (a b : UInt8) (new : List UInt8) : List UInt8 → List UInt8
  | [] => []
  | [x] => [x]
  | x :: y :: r => if x = a ∧ y = b then new ++ rep2 a b new r else x :: rep2 a b new (y :: r)
theorem replaceAll_two {a b : UInt8} {new : List UInt8} (hne : [a, b] ≠ new) : ∀ s : List UInt8, replaceAll s [a, b] new = rep2 a b new s
  | [] => replaceAll_nil (by simp) hne
  | [x] => by
    rw [replaceAll_miss (by simp) hne (by simp [List.isPrefixOf]), replaceAll_nil (by simp) hne]
    rfl
  | x :: y :: r => by
    rw [rep2]
    by_cases h : x = a ∧ y = b
    · obtain ⟨rfl, rfl⟩ := h
      rw [if_pos ⟨rfl, rfl⟩, ← replaceAll_two hne r]
      exact replaceAll_hit (old := [x, y]) (by simp) hne r
    · rw [if_neg h, ← replaceAll_two hne (y :: r)]
      refine replaceAll_miss (by simp) hne ?_
      rw [← Bool.not_eq_true, List.isPrefixOf_iff_prefix]
      rintro ⟨t, ht⟩
      simp only [List.cons_append, List.nil_append, List.cons.injEq] at ht
      exact h ⟨ht.1.symm, ht.2.1.symm⟩
end Go.Proofs.YtlbolbkikkiifaaDoor
/- strings.Split at one byte as a scan. Any program. -/
namespace Go.Proofs.YtlbolbkikkiifaaDoor
open Go Go.Lib

def splitL (c : UInt8) : List UInt8 → List (List UInt8)
  | [] => [[]]
  | x :: r => if x = c then [] :: splitL c r else match splitL c r with
    | h :: t => (x :: h) :: t
    | [] => [[x]]
theorem splitK_scan (c : UInt8) : ∀ s : List UInt8, splitK [c] 0 (count s [c]) s = splitL c s
  | [] => by
    have h1 : index ([] : List UInt8) [c] = -1 := by unfold index; rfl
    rw [count_miss h1]; rfl
  | x :: r => by
    have ih := splitK_scan c r
    rw [splitL]
    by_cases h : x = c
    · subst h
      rw [if_pos rfl, ← ih, count_cons_eq, Nat.add_comm]
      have h1 : index (x :: r) [x] = 0 := by unfold index; simp
      rw [splitK, h1]
      simp
    · rw [if_neg h, count_cons_ne x c r h, ← ih]
      have h1 : index (x :: r) [c] = if index r [c] == -1 then -1 else index r [c] + 1 := by
        rw [index, if_neg (by simp [List.isPrefixOf, Ne.symm h])]
      rcases index_spec r [c] with ⟨h2, _⟩ | ⟨i, h2, _, _⟩
      · rw [count_miss h2]; rfl
      · rw [h2, if_neg (by rw [beq_iff_eq]; omega)] at h1
        rw [count_hit (by simp) h2, Nat.add_comm, splitK, splitK, h1, h2, if_neg (by rw [beq_iff_eq]; omega), if_neg (by rw [beq_iff_eq]; omega)]
        have e1 : ((i : Int) + 1).toNat = i + 1 := by omega
        have e2 : ((i : Int)).toNat = i := by omega
        rw [e1, e2]
        simp
theorem splitL_ne (c : UInt8) (s : List UInt8) : splitL c s ≠ [] := by
  cases s with
  | nil => simp [splitL]
  | cons x r =>
    rw [splitL]
    split
    · simp
    · split <;> simp
/-- what was split is joined again -/
theorem splitL_join (c : UInt8) : ∀ s : List UInt8, (splitL c s).flatMap (fun p => c :: p) = c :: s
  | [] => rfl
  | x :: r => by
    have ih := splitL_join c r
    rw [splitL]
    by_cases h : x = c
    · rw [if_pos h, List.flatMap_cons, ih, h]; rfl
    · rw [if_neg h]
      cases hs : splitL c r with
      | nil => exact absurd hs (splitL_ne c r)
      | cons a t =>
        rw [hs, List.flatMap_cons] at ih
        simp only [List.cons_append, List.cons.injEq, true_and] at ih
        simp only [List.flatMap_cons, List.cons_append, ih]
theorem splitL_no (c : UInt8) : ∀ (s : List UInt8), ∀ p ∈ splitL c s, c ∉ p
  | [], p, hp => by
    obtain rfl : p = [] := by simpa [splitL] using hp
    simp
  | x :: r, p, hp => by
    have ih := splitL_no c r
    rw [splitL] at hp
    by_cases h : x = c
    · rw [if_pos h] at hp
      rcases List.mem_cons.1 hp with rfl | hp
      · simp
      · exact ih p hp
    · rw [if_neg h] at hp
      cases hs : splitL c r with
      | nil => exact absurd hs (splitL_ne c r)
      | cons a t =>
        rw [hs] at hp ih
        rcases List.mem_cons.1 hp with rfl | hp
        · intro hm
          rcases List.mem_cons.1 hm with e | hm
          · exact h e.symm
          · exact ih a (List.mem_cons_self ..) hm
        · exact ih p (List.mem_cons_of_mem _ hp)
theorem splitL_one (c : UInt8) : ∀ p : List UInt8, c ∉ p → splitL c p = [p]
  | [], _ => rfl
  | x :: r, h => by
    rw [splitL, if_neg (fun e => h (by rw [e]; exact List.mem_cons_self ..)), splitL_one c r fun hm => h (List.mem_cons_of_mem _ hm)]
theorem splitL_cut (c : UInt8) (s : List UInt8) : ∀ p : List UInt8, c ∉ p → splitL c (p ++ c :: s) = p :: splitL c s
  | [], _ => by rw [List.nil_append, splitL, if_pos rfl]
  | x :: r, h => by
    rw [List.cons_append, splitL, if_neg (fun e => h (by rw [e]; exact List.mem_cons_self ..)), splitL_cut c s r fun hm => h (List.mem_cons_of_mem _ hm)]
/-- what was joined is split again -/
theorem splitL_back (c : UInt8) : ∀ (p : List UInt8) (l : List (List UInt8)), (∀ q ∈ p :: l, c ∉ q) → splitL c (p ++ l.flatMap fun q => c :: q) = p :: l
  | p, [], h => by rw [List.flatMap_nil, List.append_nil, splitL_one c p (h p (List.mem_cons_self ..))]
  | p, q :: l, h => by
    rw [List.flatMap_cons, List.cons_append, splitL_cut c _ p (h p (List.mem_cons_self ..)), splitL_back c q l fun x hx => h x (List.mem_cons_of_mem _ hx)]
end Go.Proofs.YtlbolbkikkiifaaDoor
/- json: documents as values, read and told: what the code computes. -/
namespace Go.Proofs.YtlbolbkikkiifaaDoor
open Go
namespace JP
abbrev Bs := List UInt8
inductive JV where
  | nul
  | bool (b : Bool)
  | num (n : Int)
  | str (s : Bs)
  | list (l : List JV)
  | obj (l : List (Bs × JV))
theorem JV.both {P : JV → Prop} {PL : List JV → Prop} {PF : List (Bs × JV) → Prop}
    (h0 : P .nul) (h1 : ∀ b, P (.bool b)) (h2 : ∀ n, P (.num n)) (h3 : ∀ s, P (.str s)) (h4 : ∀ l, PL l → P (.list l)) (h5 : ∀ l, PF l → P (.obj l))
    (h6 : PL []) (h7 : ∀ v r, P v → PL r → PL (v :: r)) (h8 : PF []) (h9 : ∀ n v r, P v → PF r → PF ((n, v) :: r)) : (∀ v, P v) ∧ (∀ l, PL l) ∧ ∀ l, PF l := by
  have a : ∀ v, P v := fun v => JV.rec (motive_1 := P) (motive_2 := PL) (motive_3 := PF) (motive_4 := fun x => P x.2) h0 h1 h2 h3 h4 h5 h6 (fun v r a b => h7 v r a b) h8 (fun x r a b => h9 x.1 x.2 r a b) (fun _ _ h => h) v
  refine ⟨a, fun l => ?_, fun l => ?_⟩
  · induction l with
    | nil => exact h6
    | cons v r ih => exact h7 v r (a v) ih
  · induction l with
    | nil => exact h8
    | cons x r ih => exact h9 x.1 x.2 r (a x.2) ih

/-! a value as a document -/
def escB (c : UInt8) : Bs := if c = 34 ∨ c = 92 then [92, c] else if c = 10 then [92, 110] else if c = 9 then [92, 116] else [c]
def quote (s : Bs) : Bs := 34 :: (s.flatMap escB ++ [34])
mutual
def text : JV → Bs
  | .nul => [110, 117, 108, 108]
  | .bool b => if b = true then [116, 114, 117, 101] else [102, 97, 108, 115, 101]
  | .num n => Lib.itoa n
  | .str s => quote s
  | .list l => 91 :: (Lib.join (textL l) [44] ++ [93])
  | .obj l => 123 :: (Lib.join (textF l) [44] ++ [125])
termination_by structural x => x
def textL : List JV → List Bs
  | [] => []
  | v :: r => text v :: textL r
termination_by structural x => x
def textF : List (Bs × JV) → List Bs
  | [] => []
  | (n, v) :: r => (quote n ++ 58 :: text v) :: textF r
termination_by structural x => x
end
mutual
def size : JV → Nat
  | .list l => 1 + sizeL l
  | .obj l => 1 + sizeF l
  | .nul => 1
  | .bool _ => 1
  | .num _ => 1
  | .str _ => 1
termination_by structural x => x
def sizeL : List JV → Nat
  | [] => 0
  | v :: r => size v + sizeL r
termination_by structural x => x
def sizeF : List (Bs × JV) → Nat
  | [] => 0
  | (_, v) :: r => size v + sizeF r
termination_by structural x => x
end
mutual
def deep : JV → Nat
  | .list l => deepL l + 1
  | .obj l => deepF l + 1
  | .nul => 0
  | .bool _ => 0
  | .num _ => 0
  | .str _ => 0
termination_by structural x => x
def deepL : List JV → Nat
  | [] => 0
  | v :: r => max (deep v) (deepL r)
termination_by structural x => x
def deepF : List (Bs × JV) → Nat
  | [] => 0
  | (_, v) :: r => max (deep v) (deepF r)
termination_by structural x => x
end
def kind : JV → Int
  | .nul => 1
  | .bool _ => 2
  | .num _ => 3
  | .str _ => 4
  | .list _ => 5
  | .obj _ => 6
/-- a byte that may stand in a text -/
def stand (c : UInt8) : Bool := (decide (32 ≤ c) && decide (c ≤ 126)) || c == 10 || c == 9

/-! fields, rising by their names -/
def put (n : Bs) (v : JV) : List (Bs × JV) → List (Bs × JV)
  | [] => [(n, v)]
  | (m, x) :: r => if m < n then (m, x) :: put n v r else if m = n then (n, v) :: r else (n, v) :: (m, x) :: r
def get (n : Bs) : List (Bs × JV) → Option JV
  | [] => none
  | (m, x) :: r => if m = n then some x else get n r
def cut (n : Bs) (l : List (Bs × JV)) : List (Bs × JV) := l.filter fun x => x.1 != n
def Srt (l : List (Bs × JV)) : Prop := l.Pairwise fun a b => a.1 < b.1

/-- a value that stands in a document -/
def numOK (n : Int) : Prop := -1000000000000000000 < n ∧ n < 1000000000000000000
mutual
def wf : JV → Prop
  | .nul => True
  | .bool _ => True
  | .num n => numOK n
  | .str s => s.all stand = true
  | .list l => wfL l
  | .obj l => Srt l ∧ wfF l
termination_by structural x => x
def wfL : List JV → Prop
  | [] => True
  | v :: r => wf v ∧ wfL r
termination_by structural x => x
def wfF : List (Bs × JV) → Prop
  | [] => True
  | (n, v) :: r => n.all stand = true ∧ wf v ∧ wfF r
termination_by structural x => x
end

/-! the reader -/
inductive Fr where
  | lst (d : List JV)
  | ob (d : List (Bs × JV)) (n : Bs)
inductive R where
  | bad (e : Int)
  | whole (v : JV) (r : Bs) (m : Nat) (st : List Fr)
  | more (r : Bs) (m : Nat) (st : List Fr)
def blank (c : UInt8) : Bool := c == 32 || c == 9 || c == 10
def skip (r : Bs) : Bs := r.dropWhile blank
def digit (c : UInt8) : Bool := decide (48 ≤ c) && decide (c ≤ 57)
def escV (c : UInt8) : Option UInt8 := if c = 34 ∨ c = 92 then some c else if c = 110 then some 10 else if c = 116 then some 9 else none
def textP : Bs → Option (Bs × Bs)
  | [] => none
  | 34 :: r => some ([], r)
  | 92 :: [] => none
  | 92 :: d :: r => match escV d with
    | none => none
    | some c => (textP r).map fun x => (c :: x.1, x.2)
  | c :: r => if c < 32 ∨ 126 < c then none else (textP r).map fun x => (c :: x.1, x.2)
def sgn (r : Bs) : Bs := match r with
  | 45 :: t => t
  | _ => r
def negB (r : Bs) : Bool := match r with
  | 45 :: _ => true
  | _ => false
def digs (r : Bs) : Bs := (sgn r).takeWhile digit
def decV (ds : Bs) : Nat := (Lib.decFrom 0 ds).getD 0
def numV (r : Bs) : Int := if negB r = true then -(decV (digs r) : Int) else (decV (digs r) : Int)
def numR (r : Bs) : Bs := (sgn r).dropWhile digit
/-- what is wrong with a number: 0: nothing -/
def numE (r : Bs) : Int := match digs r with
  | [] => 3
  | c :: t => if c = 48 ∧ (t ≠ [] ∨ negB r = true) then 3 else if 18 < (c :: t).length then 2 else 0
def wordP (v : JV) (p : Bs) (r : Bs) (m : Nat) (st : List Fr) : R := if p.isPrefixOf r = true then .whole v (r.drop p.length) m st else .bad 3
def plainP (c : UInt8) (r : Bs) (m : Nat) (st : List Fr) : R :=
  if c = 34 then match textP r.tail with
    | none => .bad 3
    | some x => .whole (.str x.1) x.2 m st
  else if c = 116 then wordP (.bool true) [116, 114, 117, 101] r m st
  else if c = 102 then wordP (.bool false) [102, 97, 108, 115, 101] r m st
  else if c = 110 then wordP .nul [110, 117, 108, 108] r m st
  else if numE r = 0 then .whole (.num (numV r)) (numR r) m st else .bad (numE r)
def fieldN (r : Bs) (m : Nat) (d : List (Bs × JV)) (st : List Fr) (n t : Bs) : R :=
  if (get n d).isSome = true then .bad 5 else match skip t with
    | [] => .bad 3
    | c :: t' => if c = 58 then .more t' m (.ob d n :: st) else .bad 3
def fieldP (r : Bs) (m : Nat) (d : List (Bs × JV)) (st : List Fr) : R := match skip r with
  | [] => .bad 3
  | c :: t => if c = 34 then match textP t with
      | none => .bad 3
      | some x => fieldN r m d st x.1 x.2
    else .bad 3
def starts (c : UInt8) : Bool := c == 91 || c == 123 || c == 34 || c == 45 || c == 116 || c == 102 || c == 110 || digit c
def beginC (c : UInt8) (t : Bs) (m : Nat) (st : List Fr) : R :=
  if starts c = false then .bad 3
  else if 200 < m + 1 then .bad 2
  else if (c = 91 ∨ c = 123) ∧ st.length = 10 then .bad 4
  else if c = 91 then if (skip t).head? = some 93 then .whole (.list []) (skip t).tail (m + 1) st else .more (skip t) (m + 1) (.lst [] :: st)
  else if c = 123 then if (skip t).head? = some 125 then .whole (.obj []) (skip t).tail (m + 1) st else fieldP (skip t) (m + 1) [] st
  else plainP c (c :: t) (m + 1) st
def beginP (r : Bs) (m : Nat) (st : List Fr) : R := match skip r with
  | [] => .bad 3
  | c :: t => beginC c t m st
def goesP (v : JV) (r : Bs) (m : Nat) (f : Fr) (st : List Fr) : R := match f with
  | .lst d => match skip r with
    | [] => .bad 3
    | c :: t => if c = 93 then .whole (.list (d ++ [v])) t m st else if c = 44 then .more t m (.lst (d ++ [v]) :: st) else .bad 3
  | .ob d n => match skip r with
    | [] => .bad 3
    | c :: t => if c = 125 then .whole (.obj (put n v d)) t m st else if c = 44 then fieldP t m (put n v d) st else .bad 3
def mu : R → Nat
  | .bad _ => 0
  | .more r _ _ => 2 * r.length + 1
  | .whole _ r _ _ => 2 * r.length + 2

theorem skip_le (r : Bs) : (skip r).length ≤ r.length := (List.dropWhile_sublist _).length_le
theorem skip_cons {r t : Bs} {c : UInt8} (h : skip r = c :: t) : t.length + 1 ≤ r.length := by have := skip_le r; rw [h] at this; simpa using this
theorem textP_len : ∀ (r : Bs) (x : Bs × Bs), textP r = some x → x.2.length + 1 ≤ r.length := by
  intro r
  induction r using textP.induct with
  | case1 => intro x h; simp [textP] at h
  | case2 r => intro x h; simp only [textP, Option.some.injEq] at h; subst h; simp
  | case3 => intro x h; simp [textP] at h
  | case4 d r hd => intro x h; simp [textP, hd] at h
  | case5 d r c hd ih =>
    intro x h
    simp only [textP, hd] at h
    obtain ⟨y, hy, rfl⟩ := Option.map_eq_some_iff.1 h
    have := ih y hy
    simp only [List.length_cons]
    omega
  | case6 c r h1 h2 h3 h4 => intro x h; rw [textP] at h <;> simp_all
  | case7 c r h1 h2 h3 h4 ih =>
    intro x h
    rw [textP] at h
    · rw [if_neg h4] at h
      obtain ⟨y, hy, rfl⟩ := Option.map_eq_some_iff.1 h
      have := ih y hy
      simp only [List.length_cons]
      omega
    all_goals simp_all
theorem field_mu (r : Bs) (m : Nat) (d : List (Bs × JV)) (st : List Fr) : mu (fieldP r m d st) < 2 * r.length + 1 := by
  unfold fieldP
  split
  · simp [mu]
  · rename_i c t h
    have h1 := skip_cons h
    split
    · split
      · simp [mu]
      · rename_i x hx
        have h2 := textP_len _ _ hx
        unfold fieldN
        split
        · simp [mu]
        · split
          · simp [mu]
          · rename_i c' t' h'
            have h3 := skip_cons h'
            split
            · simp only [mu]; omega
            · simp [mu]
    · simp [mu]
theorem sgn_le (r : Bs) : (sgn r).length ≤ r.length := by unfold sgn; split <;> simp
theorem numR_lt {r : Bs} (h : numE r = 0) : (numR r).length + 1 ≤ r.length := by
  have h1 := sgn_le r
  have h2 : (digs r).length + (numR r).length = (sgn r).length := by
    unfold digs numR
    rw [← List.length_append, List.takeWhile_append_dropWhile]
  unfold numE at h
  split at h
  · cases h
  · rename_i c t hd
    rw [hd] at h2
    simp at h2
    omega
theorem word_mu {v : JV} {p r : Bs} {m : Nat} {st : List Fr} (hp : 0 < p.length) : mu (wordP v p r m st) < 2 * r.length + 1 := by
  unfold wordP
  split
  · rename_i h
    have := (List.isPrefixOf_iff_prefix.1 h).length_le
    simp only [mu, List.length_drop]
    omega
  · simp [mu]
theorem plain_mu (c : UInt8) (t : Bs) (m : Nat) (st : List Fr) : mu (plainP c (c :: t) m st) < 2 * (t.length + 1) + 1 := by
  unfold plainP
  split
  · split
    · simp [mu]
    · rename_i x hx
      have := textP_len _ _ hx
      simp only [mu, List.tail_cons] at this ⊢
      omega
  · split
    · exact word_mu (r := c :: t) (by decide)
    · split
      · exact word_mu (r := c :: t) (by decide)
      · split
        · exact word_mu (r := c :: t) (by decide)
        · split
          · rename_i h
            have := numR_lt h
            simp only [mu, List.length_cons] at this ⊢
            omega
          · simp [mu]
theorem begin_mu (r : Bs) (m : Nat) (st : List Fr) : mu (beginP r m st) < mu (.more r m st) := by
  unfold beginP
  split
  · simp [mu]
  · rename_i c t h
    have h1 := skip_cons h
    have h2 := skip_le t
    have h3 := List.length_tail (l := skip t)
    unfold beginC
    split
    · simp [mu]
    · split
      · simp [mu]
      · split
        · simp [mu]
        · split
          · split <;> (simp only [mu]; omega)
          · split
            · split
              · simp only [mu]; omega
              · have := field_mu (skip t) (m + 1) [] st
                show _ < 2 * r.length + 1
                omega
            · have := plain_mu c t (m + 1) st
              show _ < 2 * r.length + 1
              omega
theorem goes_mu (v : JV) (r : Bs) (m : Nat) (f : Fr) (st : List Fr) : mu (goesP v r m f st) < mu (.whole v r m (f :: st)) := by
  unfold goesP
  split
  · split
    · simp [mu]
    · rename_i c t h
      have h1 := skip_cons h
      split
      · simp only [mu]; omega
      · split
        · simp only [mu]; omega
        · simp [mu]
  · split
    · simp [mu]
    · rename_i c t h
      have h1 := skip_cons h
      split
      · simp only [mu]; omega
      · split
        · refine Nat.lt_of_lt_of_le (field_mu t m _ st) ?_
          show _ ≤ 2 * r.length + 2
          omega
        · simp [mu]
/-- what comes of it -/
def fin (x : R) : JV × Int := match x with
  | .bad e => (.nul, e)
  | .more r m st => fin (beginP r m st)
  | .whole v r _ [] => if skip r = [] then (v, 0) else (.nul, 3)
  | .whole v r m (f :: st) => fin (goesP v r m f st)
termination_by mu x
decreasing_by
  · exact begin_mu _ _ _
  · exact goes_mu _ _ _ _ _
def readL (s : Bs) : JV × Int := if 2000 < s.length then (.nul, 2) else fin (.more s 0 [])
theorem fin_bad (e : Int) : fin (.bad e) = (.nul, e) := by rw [fin]
theorem fin_more (r : Bs) (m : Nat) (st : List Fr) : fin (.more r m st) = fin (beginP r m st) := by rw [fin]
theorem fin_end (v : JV) (r : Bs) (m : Nat) : fin (.whole v r m []) = if skip r = [] then (v, 0) else (.nul, 3) := by rw [fin]
theorem fin_whole (v : JV) (r : Bs) (m : Nat) (f : Fr) (st : List Fr) : fin (.whole v r m (f :: st)) = fin (goesP v r m f st) := by rw [fin]
end JP
end Go.Proofs.YtlbolbkikkiifaaDoor
/- json: what is told of a value is read as that value. -/
namespace Go.Proofs.YtlbolbkikkiifaaDoor
open Go
namespace JP
theorem joinB_nil (sep : Bs) : Lib.join [] sep = [] := rfl
theorem joinB_one (x sep : Bs) : Lib.join [x] sep = x := by simp [Lib.join, List.intercalate]
theorem joinB_more (x y : Bs) (r : List Bs) (sep : Bs) : Lib.join (x :: y :: r) sep = x ++ (sep ++ Lib.join (y :: r) sep) := by simp [Lib.join, List.intercalate]
theorem skip_of {c : UInt8} (t : Bs) (h : blank c = false) : skip (c :: t) = c :: t := by
  unfold skip
  rw [List.dropWhile_cons_of_neg (by simp [h])]
theorem skip_nil : skip [] = [] := rfl
theorem skip_blank {c : UInt8} (t : Bs) (h : blank c = true) : skip (c :: t) = skip t := by
  unfold skip
  rw [List.dropWhile_cons_of_pos h]

/-! numbers -/
theorem digit_of {k : Nat} (h : k < 10) : digit (UInt8.ofNat (48 + k)) = true := by
  have : ∀ i : Fin 10, digit (UInt8.ofNat (48 + i.val)) = true := by decide
  exact this ⟨k, h⟩
theorem digit_val {k : Nat} (h : k < 10) : Lib.digitVal (UInt8.ofNat (48 + k)) = some k := by
  have : ∀ i : Fin 10, Lib.digitVal (UInt8.ofNat (48 + i.val)) = some i.val := by decide
  exact this ⟨k, h⟩
theorem digit_nought {k : Nat} (h : k < 10) (h0 : k ≠ 0) : UInt8.ofNat (48 + k) ≠ 48 := by
  have : ∀ i : Fin 10, i.val ≠ 0 → UInt8.ofNat (48 + i.val) ≠ 48 := by decide
  exact this ⟨k, h⟩ h0
theorem dec_digits (u : Nat) : ∀ c ∈ Lib.decDigits u, digit c = true := by
  induction u using Nat.strongRecOn with
  | _ u ih =>
    intro c hc
    by_cases h : u < 10
    · rw [Lib.decDigits, dif_pos h, List.mem_singleton] at hc
      rw [hc]; exact digit_of h
    · rw [Lib.decDigits, dif_neg h, List.mem_append, List.mem_singleton] at hc
      rcases hc with hc | rfl
      · exact ih _ (by omega) c hc
      · exact digit_of (by omega)
theorem dec_head (u : Nat) : ∃ c t, Lib.decDigits u = c :: t ∧ (c = 48 → u = 0 ∧ t = []) := by
  induction u using Nat.strongRecOn with
  | _ u ih =>
    by_cases h : u < 10
    · refine ⟨_, [], by rw [Lib.decDigits, dif_pos h], fun h0 => ⟨?_, rfl⟩⟩
      by_cases hu : u = 0
      · exact hu
      · exact absurd h0 (digit_nought h hu)
    · obtain ⟨c, t, hd, hc⟩ := ih (u / 10) (by omega)
      exact ⟨c, t ++ [UInt8.ofNat (48 + u % 10)], by rw [Lib.decDigits, dif_neg h, hd]; rfl, fun h0 => by have := (hc h0).1; omega⟩
theorem decFrom_append (acc : Nat) (l : Bs) (b : UInt8) : Lib.decFrom acc (l ++ [b]) = (Lib.decFrom acc l).bind fun m => (Lib.digitVal b).map fun d => m * 10 + d := by
  induction l generalizing acc with
  | nil =>
    simp only [List.nil_append, Lib.decFrom, Option.bind_some]
    cases Lib.digitVal b <;> rfl
  | cons c r ih =>
    simp only [List.cons_append, Lib.decFrom]
    cases Lib.digitVal c with
    | none => rfl
    | some d => exact ih _
theorem dec_value (u : Nat) : Lib.decFrom 0 (Lib.decDigits u) = some u := by
  induction u using Nat.strongRecOn with
  | _ u ih =>
    by_cases h : u < 10
    · rw [Lib.decDigits, dif_pos h]
      unfold Lib.decFrom
      rw [digit_val h]
      show Lib.decFrom (0 * 10 + u) [] = some u
      rw [Nat.zero_mul, Nat.zero_add]
      rfl
    · rw [Lib.decDigits, dif_neg h, decFrom_append, ih _ (by omega), digit_val (by omega)]
      simp
      omega
theorem nDigits_le : ∀ (k u : Nat), 0 < k → u < 10 ^ k → Lib.nDigits u ≤ k
  | 0, _, h, _ => by omega
  | k + 1, u, _, h => by
    by_cases hu : u < 10
    · rw [Lib.nDigits_small hu]; omega
    · rw [Lib.nDigits_big hu]
      have hk : 0 < k := by
        rcases Nat.eq_zero_or_pos k with rfl | hk
        · simp at h; omega
        · exact hk
      have := nDigits_le k (u / 10) hk (by rw [Nat.pow_succ] at h; omega)
      omega
theorem dec_length {u : Nat} (h : u < 1000000000000000000) : (Lib.decDigits u).length ≤ 18 := by
  rw [Lib.decDigits_length]
  exact nDigits_le 18 u (by decide) (by simpa using h)
/-- no digit ahead -/
def NoDigit (r : Bs) : Prop := ∀ c t, r = c :: t → digit c = false
theorem span_digits {ds rest : Bs} (h : ∀ c ∈ ds, digit c = true) (hr : NoDigit rest) : (ds ++ rest).takeWhile digit = ds ∧ (ds ++ rest).dropWhile digit = rest := by
  rw [List.takeWhile_append_of_pos h, List.dropWhile_append_of_pos h]
  cases rest with
  | nil => simp
  | cons c t =>
    have := hr c t rfl
    rw [List.takeWhile_cons_of_neg (by simp [this]), List.dropWhile_cons_of_neg (by simp [this])]
    simp
theorem digit_ne45 {c : UInt8} (h : digit c = true) : c ≠ 45 := fun e => by rw [e] at h; revert h; decide
theorem sgn_of {c : UInt8} (t : Bs) (h : c ≠ 45) : sgn (c :: t) = c :: t ∧ negB (c :: t) = false := by
  constructor
  · unfold sgn; split
    · rename_i he; cases he; exact absurd rfl h
    · rfl
  · unfold negB; split
    · rename_i he; cases he; exact absurd rfl h
    · rfl
theorem num_reads {n : Int} {rest : Bs} (h : numOK n) (hr : NoDigit rest) : numE (Lib.itoa n ++ rest) = 0 ∧ numV (Lib.itoa n ++ rest) = n ∧ numR (Lib.itoa n ++ rest) = rest := by
  obtain ⟨h1, h2⟩ := h
  by_cases hn : n < 0
  · obtain ⟨c, t, hd, hc⟩ := dec_head n.natAbs
    have hl := dec_length (u := n.natAbs) (by omega)
    have hs := span_digits (dec_digits n.natAbs) hr
    have e0 : Lib.itoa n ++ rest = 45 :: (Lib.decDigits n.natAbs ++ rest) := by unfold Lib.itoa; rw [if_pos hn]; rfl
    have e1 : sgn (Lib.itoa n ++ rest) = Lib.decDigits n.natAbs ++ rest := by rw [e0]; rfl
    have e2 : negB (Lib.itoa n ++ rest) = true := by rw [e0]; rfl
    have e3 : digs (Lib.itoa n ++ rest) = Lib.decDigits n.natAbs := by unfold digs; rw [e1, hs.1]
    refine ⟨?_, ?_, ?_⟩
    · unfold numE
      rw [e3, hd]
      rw [hd] at hl
      have : c ≠ 48 := fun h0 => by have := (hc h0).1; omega
      simp only [this, false_and, if_false]
      rw [if_neg (by omega)]
    · unfold numV decV
      rw [e2, e3, dec_value]
      simp
      omega
    · unfold numR; rw [e1, hs.2]
  · obtain ⟨c, t, hd, hc⟩ := dec_head n.toNat
    have hl := dec_length (u := n.toNat) (by omega)
    have hs := span_digits (dec_digits n.toNat) hr
    have hdc := dec_digits n.toNat c (by rw [hd]; exact List.mem_cons_self ..)
    have e0 : Lib.itoa n ++ rest = c :: (t ++ rest) := by unfold Lib.itoa; rw [if_neg hn, hd]; rfl
    have e1 : sgn (Lib.itoa n ++ rest) = Lib.decDigits n.toNat ++ rest := by rw [e0, (sgn_of _ (digit_ne45 hdc)).1, hd]; rfl
    have e2 : negB (Lib.itoa n ++ rest) = false := by rw [e0, (sgn_of _ (digit_ne45 hdc)).2]
    have e3 : digs (Lib.itoa n ++ rest) = Lib.decDigits n.toNat := by unfold digs; rw [e1, hs.1]
    refine ⟨?_, ?_, ?_⟩
    · unfold numE
      rw [e3, hd]
      rw [hd] at hl
      dsimp only
      rw [if_neg, if_neg (by omega)]
      rintro ⟨h0, h9⟩
      rw [e2] at h9
      rcases h9 with h9 | h9
      · exact h9 (hc h0).2
      · cases h9
    · unfold numV decV
      rw [e2, e3, dec_value]
      simp
      omega
    · unfold numR; rw [e1, hs.2]

/-! texts -/
theorem textP_other {c : UInt8} (r : Bs) (h1 : c ≠ 34) (h2 : c ≠ 92) : textP (c :: r) = if c < 32 ∨ 126 < c then none else (textP r).map fun x => (c :: x.1, x.2) := by
  rw [textP]
  · intro h; exact h1 h
  · intro h; exact absurd h h2
  · intro d r' h; exact absurd h h2
theorem stand_cases {c : UInt8} (h : stand c = true) : c = 10 ∨ c = 9 ∨ (¬ (c < 32 ∨ 126 < c)) := by
  unfold stand at h
  simp only [Bool.or_eq_true, Bool.and_eq_true, decide_eq_true_eq, beq_iff_eq] at h
  rcases h with (h | h) | h
  · refine .inr (.inr fun h9 => ?_)
    rcases h9 with h9 | h9
    · exact absurd h9 (UInt8.not_lt.2 h.1)
    · exact absurd h9 (UInt8.not_lt.2 h.2)
  · exact .inl h
  · exact .inr (.inl h)
theorem quote_reads : ∀ (s rest : Bs), s.all stand = true → textP (s.flatMap escB ++ 34 :: rest) = some (s, rest)
  | [], rest, _ => rfl
  | c :: s, rest, h => by
    rw [List.all_cons, Bool.and_eq_true] at h
    have ih := quote_reads s rest h.2
    rw [List.flatMap_cons, List.append_assoc]
    by_cases h1 : c = 34 ∨ c = 92
    · have : escB c = [92, c] := by unfold escB; rw [if_pos h1]
      rw [this]
      show textP (92 :: c :: (s.flatMap escB ++ 34 :: rest)) = _
      rw [textP]
      have : escV c = some c := by unfold escV; rw [if_pos h1]
      rw [this]
      simp only [ih, Option.map_some]
    · by_cases h2 : c = 10
      · subst h2
        show textP (92 :: 110 :: (s.flatMap escB ++ 34 :: rest)) = _
        rw [textP]
        show (textP _).map _ = _
        rw [ih]; rfl
      · by_cases h3 : c = 9
        · subst h3
          show textP (92 :: 116 :: (s.flatMap escB ++ 34 :: rest)) = _
          rw [textP]
          show (textP _).map _ = _
          rw [ih]; rfl
        · have : escB c = [c] := by unfold escB; rw [if_neg h1, if_neg h2, if_neg h3]
          rw [this]
          show textP (c :: (s.flatMap escB ++ 34 :: rest)) = _
          have h4 : ¬ (c < 32 ∨ 126 < c) := by
            rcases stand_cases h.1 with h5 | h5 | h5
            · exact absurd h5 h2
            · exact absurd h5 h3
            · exact h5
          rw [textP_other _ (fun h => h1 (.inl h)) (fun h => h1 (.inr h)), if_neg h4, ih]
          rfl

/-! values -/
def EndOK (v : JV) (rest : Bs) : Prop := match v with
  | .num _ => NoDigit rest
  | _ => True
theorem endOK_of {c : UInt8} (v : JV) (t : Bs) (h : digit c = false) : EndOK v (c :: t) := by
  unfold EndOK
  split
  · intro c' t' h'; cases h'; exact h
  · trivial
theorem digit_starts {c : UInt8} (h : digit c = true) : starts c = true ∧ blank c = false ∧ c ≠ 93 ∧ c ≠ 91 ∧ c ≠ 123 ∧ c ≠ 34 ∧ c ≠ 116 ∧ c ≠ 102 ∧ c ≠ 110 := by
  have : ∀ c : UInt8, digit c = true → starts c = true ∧ blank c = false ∧ c ≠ 93 ∧ c ≠ 91 ∧ c ≠ 123 ∧ c ≠ 34 ∧ c ≠ 116 ∧ c ≠ 102 ∧ c ≠ 110 := by
    intro c h
    refine ⟨by simp [starts, h], ?_, ?_, ?_, ?_, ?_, ?_, ?_, ?_⟩
    · unfold digit at h
      simp only [Bool.and_eq_true, decide_eq_true_eq] at h
      unfold blank
      simp only [Bool.or_eq_false_iff, beq_eq_false_iff_ne]
      refine ⟨⟨?_, ?_⟩, ?_⟩ <;> (intro e; subst e; revert h; decide)
    all_goals (intro e; subst e; revert h; decide)
  exact this c h
theorem num_head (n : Int) : ∃ c t, Lib.itoa n = c :: t ∧ (c = 45 ∨ digit c = true) := by
  unfold Lib.itoa
  split
  · exact ⟨45, _, rfl, .inl rfl⟩
  · obtain ⟨c, t, hd, _⟩ := dec_head n.toNat
    exact ⟨c, t, hd, .inr (dec_digits n.toNat c (by rw [hd]; exact List.mem_cons_self ..))⟩
theorem text_head (v : JV) : ∃ c t, text v = c :: t ∧ starts c = true ∧ blank c = false ∧ c ≠ 93 := by
  cases v with
  | nul => exact ⟨110, _, rfl, by decide, by decide, by decide⟩
  | bool b => cases b with
    | true => exact ⟨116, _, rfl, by decide, by decide, by decide⟩
    | false => exact ⟨102, _, rfl, by decide, by decide, by decide⟩
  | num n =>
    obtain ⟨c, t, h, hc⟩ := num_head n
    refine ⟨c, t, h, ?_⟩
    rcases hc with rfl | hc
    · exact ⟨by decide, by decide, by decide⟩
    · have := digit_starts hc; exact ⟨this.1, this.2.1, this.2.2.1⟩
  | str s => exact ⟨34, _, rfl, by decide, by decide, by decide⟩
  | list l => exact ⟨91, _, by rw [text], by decide, by decide, by decide⟩
  | obj l => exact ⟨123, _, by rw [text], by decide, by decide, by decide⟩
theorem size_pos (v : JV) : 1 ≤ size v := by cases v <;> simp [size]
theorem begin_at {c : UInt8} (t : Bs) (m : Nat) (st : List Fr) (h : blank c = false) : beginP (c :: t) m st = beginC c t m st := by
  unfold beginP
  rw [skip_of t h]
theorem begin_plain {c : UInt8} {t : Bs} {m : Nat} {st : List Fr} (h : starts c = true) (hm : m + 1 ≤ 200) (h1 : c ≠ 91) (h2 : c ≠ 123) : beginC c t m st = plainP c (c :: t) (m + 1) st := by
  unfold beginC
  rw [if_neg (by simp [h]), if_neg (by omega), if_neg (by simp [h1, h2]), if_neg h1, if_neg h2]
theorem word_reads (v : JV) (p rest : Bs) (m : Nat) (st : List Fr) : wordP v p (p ++ rest) m st = .whole v rest m st := by
  unfold wordP
  rw [if_pos (List.isPrefixOf_iff_prefix.2 (List.prefix_append _ _)), List.drop_left]
theorem put_end {n : Bs} {v : JV} : ∀ {d : List (Bs × JV)}, (∀ x ∈ d, x.1 < n) → put n v d = d ++ [(n, v)]
  | [], _ => rfl
  | (m, x) :: r, h => by
    have := h (m, x) (List.mem_cons_self ..)
    unfold put
    rw [if_pos this, put_end fun y hy => h y (List.mem_cons_of_mem _ hy)]
    rfl
theorem bs_irrefl (n : Bs) : ¬ n < n := List.lt_irrefl n
theorem get_none {n : Bs} : ∀ {d : List (Bs × JV)}, (∀ x ∈ d, x.1 ≠ n) → get n d = none
  | [], _ => rfl
  | (m, x) :: r, h => by
    unfold get
    rw [if_neg (h (m, x) (List.mem_cons_self ..)), get_none fun y hy => h y (List.mem_cons_of_mem _ hy)]
theorem reads : (∀ v, wf v → ∀ (rest : Bs) (m : Nat) (st : List Fr), m + size v ≤ 200 → deep v + st.length ≤ 10 → EndOK v rest → fin (.more (text v ++ rest) m st) = fin (.whole v rest (m + size v) st)) ∧
    (∀ l, wfL l → l ≠ [] → ∀ (d : List JV) (rest : Bs) (m : Nat) (st : List Fr), m + sizeL l ≤ 200 → deepL l + st.length + 1 ≤ 10 → fin (.more (Lib.join (textL l) [44] ++ 93 :: rest) m (.lst d :: st)) = fin (.whole (.list (d ++ l)) rest (m + sizeL l) st)) ∧
    (∀ l, wfF l → l ≠ [] → ∀ (d : List (Bs × JV)) (rest : Bs) (m : Nat) (st : List Fr), Srt (d ++ l) → m + sizeF l ≤ 200 → deepF l + st.length + 1 ≤ 10 → fin (fieldP (Lib.join (textF l) [44] ++ 125 :: rest) m d st) = fin (.whole (.obj (d ++ l)) rest (m + sizeF l) st)) := by
  refine JV.both ?_ ?_ ?_ ?_ ?_ ?_ ?_ ?_ ?_ ?_
  · intro _ rest m st hm _ _
    rw [fin_more]
    show fin (beginP (110 :: ([117, 108, 108] ++ rest)) m st) = _
    simp only [size] at hm ⊢
    rw [begin_at _ _ _ (by decide), begin_plain (by decide) hm (by decide) (by decide)]
    show fin (wordP .nul [110, 117, 108, 108] ([110, 117, 108, 108] ++ rest) (m + 1) st) = _
    rw [word_reads]
  · intro b _ rest m st hm _ _
    rw [fin_more]
    simp only [size] at hm ⊢
    cases b with
    | true =>
      show fin (beginP (116 :: ([114, 117, 101] ++ rest)) m st) = _
      rw [begin_at _ _ _ (by decide), begin_plain (by decide) hm (by decide) (by decide)]
      show fin (wordP (.bool true) [116, 114, 117, 101] ([116, 114, 117, 101] ++ rest) (m + 1) st) = _
      rw [word_reads]
    | false =>
      show fin (beginP (102 :: ([97, 108, 115, 101] ++ rest)) m st) = _
      rw [begin_at _ _ _ (by decide), begin_plain (by decide) hm (by decide) (by decide)]
      show fin (wordP (.bool false) [102, 97, 108, 115, 101] ([102, 97, 108, 115, 101] ++ rest) (m + 1) st) = _
      rw [word_reads]
  · intro n hn rest m st hm _ he
    simp only [size] at hm ⊢
    rw [fin_more]
    show fin (beginP (Lib.itoa n ++ rest) m st) = _
    obtain ⟨e1, e2, e3⟩ := num_reads (by simpa only [wf] using hn) he
    obtain ⟨c, t, hc, hd⟩ := num_head n
    have hb : starts c = true ∧ blank c = false ∧ c ≠ 91 ∧ c ≠ 123 ∧ c ≠ 34 ∧ c ≠ 116 ∧ c ≠ 102 ∧ c ≠ 110 := by
      rcases hd with rfl | hd
      · decide
      · have := digit_starts hd
        exact ⟨this.1, this.2.1, this.2.2.2.1, this.2.2.2.2.1, this.2.2.2.2.2.1, this.2.2.2.2.2.2.1, this.2.2.2.2.2.2.2.1, this.2.2.2.2.2.2.2.2⟩
    obtain ⟨b1, b2, b3, b4, b5, b6, b7, b8⟩ := hb
    rw [hc] at e1 e2 e3 ⊢
    rw [show c :: t ++ rest = c :: (t ++ rest) from rfl] at e1 e2 e3 ⊢
    rw [begin_at _ _ _ b2, begin_plain b1 hm b3 b4]
    unfold plainP
    rw [if_neg b5, if_neg b6, if_neg b7, if_neg b8, if_pos e1, e2, e3]
  · intro s hs rest m st hm _ _
    simp only [size] at hm ⊢
    rw [fin_more]
    have : text (.str s) ++ rest = 34 :: (s.flatMap escB ++ 34 :: rest) := by rw [text]; unfold quote; simp
    rw [this, begin_at _ _ _ (by decide), begin_plain (by decide) hm (by decide) (by decide)]
    unfold plainP
    rw [if_pos rfl, List.tail_cons, quote_reads s rest (by simpa only [wf] using hs)]
  · intro l ih hw rest m st hm hd _
    simp only [wf] at hw
    simp only [size] at hm ⊢
    simp only [deep] at hd
    rw [fin_more]
    have e0 : text (.list l) ++ rest = 91 :: (Lib.join (textL l) [44] ++ 93 :: rest) := by rw [text]; simp
    rw [e0, begin_at _ _ _ (by decide)]
    unfold beginC
    rw [if_neg (by decide), if_neg (by omega), if_neg (by rintro ⟨_, h⟩; omega), if_pos rfl]
    cases l with
    | nil =>
      have e1 : skip (Lib.join (textL []) [44] ++ 93 :: rest) = 93 :: rest := skip_of _ (by decide)
      rw [e1, List.head?_cons, if_pos rfl]
      rfl
    | cons v r =>
      have hh : ∃ c t, Lib.join (textL (v :: r)) [44] ++ 93 :: rest = c :: t ∧ blank c = false ∧ c ≠ 93 := by
        obtain ⟨c, t, h1, _, h2, h3⟩ := text_head v
        rw [textL]
        cases hr : textL r with
        | nil => rw [joinB_one, h1]; exact ⟨c, _, rfl, h2, h3⟩
        | cons y q => rw [joinB_more, h1]; exact ⟨c, _, rfl, h2, h3⟩
      obtain ⟨c, t, h1, h2, h3⟩ := hh
      have := ih hw (by simp) [] rest (m + 1) st (by omega) (by omega)
      rw [h1] at this ⊢
      rw [skip_of _ h2, if_neg (by simpa using h3), this, Nat.add_assoc]
      rfl
  · intro l ih hw rest m st hm hd _
    simp only [wf] at hw
    simp only [size] at hm ⊢
    simp only [deep] at hd
    rw [fin_more]
    have e0 : text (.obj l) ++ rest = 123 :: (Lib.join (textF l) [44] ++ 125 :: rest) := by rw [text]; simp
    rw [e0, begin_at _ _ _ (by decide)]
    unfold beginC
    rw [if_neg (by decide), if_neg (by omega), if_neg (by rintro ⟨_, h⟩; omega), if_neg (by decide), if_pos rfl]
    cases l with
    | nil =>
      have e1 : skip (Lib.join (textF []) [44] ++ 125 :: rest) = 125 :: rest := skip_of _ (by decide)
      rw [e1, List.head?_cons, if_pos rfl]
      rfl
    | cons x r =>
      obtain ⟨n, v⟩ := x
      have hh : ∃ t, Lib.join (textF ((n, v) :: r)) [44] ++ 125 :: rest = 34 :: t := by
        rw [textF]
        cases hr : textF r with
        | nil => rw [joinB_one]; exact ⟨_, rfl⟩
        | cons y q => rw [joinB_more]; exact ⟨_, rfl⟩
      obtain ⟨t, h1⟩ := hh
      have := ih hw.2 (by simp) [] rest (m + 1) st (by simpa using hw.1) (by omega) (by omega)
      rw [h1] at this ⊢
      rw [skip_of _ (by decide), if_neg (by simp), this, Nat.add_assoc]
      rfl
  · intro _ h; exact absurd rfl h
  · intro v r ihv ihr hw _ d rest m st hm hd
    rw [wfL] at hw
    rw [sizeL] at hm ⊢
    rw [deepL] at hd
    cases r with
    | nil =>
      rw [textL, textL, joinB_one]
      rw [ihv hw.1 (93 :: rest) m (.lst d :: st) (by omega) (by simp only [List.length_cons]; omega) (endOK_of _ _ (by decide)), fin_whole]
      unfold goesP
      dsimp only
      rw [skip_of _ (by decide)]
      dsimp only
      rw [if_pos rfl, sizeL]
      rfl
    | cons x q =>
      have e0 : Lib.join (textL (v :: x :: q)) [44] ++ 93 :: rest = text v ++ (44 :: (Lib.join (textL (x :: q)) [44] ++ 93 :: rest)) := by
        rw [textL, textL, joinB_more]; simp
      rw [e0, ihv hw.1 _ m (.lst d :: st) (by omega) (by simp only [List.length_cons]; omega) (endOK_of _ _ (by decide)), fin_whole]
      unfold goesP
      dsimp only
      rw [skip_of _ (by decide)]
      dsimp only
      rw [if_neg (by decide), if_pos rfl]
      rw [ihr hw.2 (by simp) (d ++ [v]) rest (m + size v) st (by omega) (by omega), Nat.add_assoc]
      simp
  · intro _ h; exact absurd rfl h
  · intro n v r ihv ihr hw _ d rest m st hs hm hd
    rw [wfF] at hw
    rw [sizeF] at hm ⊢
    rw [deepF] at hd
    have hlt : ∀ x ∈ d, x.1 < n := fun x hx => (List.pairwise_append.1 hs).2.2 x hx (n, v) (List.mem_cons_self ..)
    have hg : get n d = none := get_none fun x hx e => bs_irrefl n (by have := hlt x hx; rwa [e] at this)
    have step : ∀ tail : Bs, (∃ c t, tail = c :: t ∧ digit c = false) → fin (fieldP (quote n ++ 58 :: (text v ++ tail)) m d st) = fin (.whole v tail (m + size v) (.ob d n :: st)) := by
      rintro tail ⟨c, t, rfl, hc⟩
      have e1 : quote n ++ 58 :: (text v ++ c :: t) = 34 :: (n.flatMap escB ++ 34 :: 58 :: (text v ++ c :: t)) := by unfold quote; simp
      rw [e1]
      unfold fieldP
      rw [skip_of _ (by decide)]
      dsimp only
      rw [if_pos rfl, quote_reads n _ hw.1]
      dsimp only
      unfold fieldN
      rw [hg, if_neg (by simp), skip_of _ (by decide)]
      dsimp only
      rw [if_pos rfl]
      exact ihv hw.2.1 _ m _ (by omega) (by simp only [List.length_cons]; omega) (endOK_of _ _ hc)
    cases r with
    | nil =>
      have e0 : Lib.join (textF [(n, v)]) [44] ++ 125 :: rest = quote n ++ 58 :: (text v ++ 125 :: rest) := by
        rw [textF, textF, joinB_one]; simp
      rw [e0, step _ ⟨125, rest, rfl, by decide⟩, fin_whole]
      unfold goesP
      dsimp only
      rw [skip_of _ (by decide)]
      dsimp only
      rw [if_pos rfl, put_end hlt, sizeF]
      rfl
    | cons x q =>
      obtain ⟨k, u⟩ := x
      have e0 : Lib.join (textF ((n, v) :: (k, u) :: q)) [44] ++ 125 :: rest = quote n ++ 58 :: (text v ++ (44 :: (Lib.join (textF ((k, u) :: q)) [44] ++ 125 :: rest))) := by
        rw [textF, textF, joinB_more]; simp
      rw [e0, step _ ⟨44, _, rfl, by decide⟩, fin_whole]
      unfold goesP
      dsimp only
      rw [skip_of _ (by decide)]
      dsimp only
      rw [if_neg (by decide), if_pos rfl, put_end hlt]
      rw [ihr hw.2.2 (by simp) (d ++ [(n, v)]) rest (m + size v) st (by simpa using hs) (by omega) (by omega), Nat.add_assoc]
      simp
/-- what is told is read -/
theorem read_text {v : JV} (h : wf v) (hs : size v ≤ 200) (hd : deep v ≤ 10) (hl : (text v).length ≤ 2000) : readL (text v) = (v, 0) := by
  unfold readL
  rw [if_neg (by omega)]
  have := reads.1 v h [] 0 [] (by omega) (by simpa using hd) (by
    unfold EndOK
    split
    · intro c t he; cases he
    · trivial)
  rw [List.append_nil] at this
  rw [this, fin_end, skip_nil, if_pos rfl]
end JP
end Go.Proofs.YtlbolbkikkiifaaDoor
/- Texts whose parts stand between one byte: joined, split, numbers in them. Plain. -/
namespace Go.Proofs.YtlbolbkikkiifaaDoor
open Go.RowKit
open JP (Bs)

def mkB (l : Bs) : ByteArray := ⟨l.toArray⟩
theorem mkB_size (l : Bs) : (mkB l).size = l.length := by unfold mkB; show l.toArray.size = _; simp
theorem mkB_list (l : Bs) : (mkB l).data.toList = l := by unfold mkB; simp
theorem mkB_of (s : ByteArray) : mkB s.data.toList = s := by unfold mkB; cases s; simp
theorem list_size (s : ByteArray) : s.data.toList.length = s.size := by rw [Array.length_toList]; rfl
theorem mkB_eq (a b : Bs) : ((mkB a).toList == (mkB b).toList) = decide (a = b) := by
  rw [ByteArray.toList_eq, ByteArray.toList_eq, mkB_list, mkB_list, Bool.eq_iff_iff, beq_iff_eq, decide_eq_true_iff]
theorem join_one (x : List UInt8) (sep : List UInt8) : Lib.join [x] sep = x := by simp [Lib.join, List.intercalate]
theorem join_more (x y : List UInt8) (r : List (List UInt8)) (sep : List UInt8) : Lib.join (x :: y :: r) sep = x ++ (sep ++ Lib.join (y :: r) sep) := by simp [Lib.join, List.intercalate]
theorem u8_eq {c d : UInt8} (h : c.toNat = d.toNat) : c = d := UInt8.toNat_inj.1 h
theorem dec_some : ∀ (ds : Bs) (acc : Nat), (∀ c ∈ ds, JP.digit c = true) → ∃ n, Lib.decFrom acc ds = some n
  | [], acc, _ => ⟨acc, rfl⟩
  | c :: r, acc, h => by
    have hc := h c (List.mem_cons_self ..)
    unfold Lib.decFrom
    unfold JP.digit at hc
    simp only [Bool.and_eq_true, decide_eq_true_eq] at hc
    have h1 : 48 ≤ c.toNat := UInt8.le_iff_toNat_le.1 hc.1
    have h2 : c.toNat ≤ 57 := UInt8.le_iff_toNat_le.1 hc.2
    have : Lib.digitVal c = some (c.toNat - 48) := by unfold Lib.digitVal; rw [if_pos ⟨h1, h2⟩]
    rw [this]
    exact dec_some r _ fun x hx => h x (List.mem_cons_of_mem _ hx)
theorem parse_dec : ∀ (ds : Bs) (acc n : Nat), (acc + 1) * 10 ^ ds.length ≤ 1000000000000000000 → Lib.decFrom acc ds = some n → Lib.parseUint10 acc ds = .ok n
  | [], acc, n, _, h => by simp only [Lib.decFrom, Option.some.injEq] at h; subst h; rfl
  | c :: r, acc, n, hb, h => by
    unfold Lib.decFrom at h
    unfold Lib.parseUint10
    cases hd : Lib.digitVal c with
    | none => rw [hd] at h; cases h
    | some d =>
      rw [hd] at h
      unfold Lib.digitVal at hd
      split at hd
      · rename_i hr
        simp only [Option.some.injEq] at hd
        subst hd
        have hp : 1 ≤ 10 ^ r.length := Nat.one_le_pow _ _ (by decide)
        rw [List.length_cons, Nat.pow_succ, Nat.mul_comm (10 ^ r.length) 10, ← Nat.mul_assoc] at hb
        have h1 : (acc + 1) * 10 ≤ 1000000000000000000 := Nat.le_trans (Nat.le_mul_of_pos_right _ hp) hb
        rw [if_pos hr, if_neg (by omega), if_neg (by omega)]
        refine parse_dec r _ n (Nat.le_trans (Nat.mul_le_mul_right _ ?_) hb) h
        omega
      · cases hd
theorem parse_mag {ds : Bs} (h : ∀ c ∈ ds, JP.digit c = true) (h0 : ds ≠ []) (hl : ds.length ≤ 18) : Lib.parseUintB 64 ds = .ok (JP.decV ds) := by
  obtain ⟨n, hn⟩ := dec_some ds 0 h
  rw [Lib.parseUintB_64]
  unfold Lib.parseMag JP.decV
  rw [if_neg h0, hn]
  refine parse_dec ds 0 n ?_ hn
  have : (10 : Nat) ^ ds.length ≤ 10 ^ 18 := Nat.pow_le_pow_right (by decide) hl
  omega
theorem atoi_itoa {n : Nat} (h : n < 100000000000000000) : Lib.atoiAll (Lib.itoa (n : Int)) = .ok (n : Int) := by
  have h2 : Lib.itoa (n : Int) = Lib.decDigits n := by
    unfold Lib.itoa
    rw [if_neg (by omega)]
    rfl
  have hd := JP.dec_digits n
  have hl := JP.dec_length (u := n) (by omega)
  have hv := JP.dec_value n
  obtain ⟨c, t, hc, _⟩ := JP.dec_head n
  rw [h2, hc]
  rw [hc] at hd hl hv
  have hdc := hd c (List.mem_cons_self ..)
  have n43 : c.toNat ≠ 43 := fun e => by have : c = 43 := u8_eq e; subst this; revert hdc; decide
  have n45 : c.toNat ≠ 45 := fun e => by have : c = 45 := u8_eq e; subst this; revert hdc; decide
  have hm := parse_mag hd (by simp) hl
  rw [Lib.parseUintB_64] at hm
  rw [Lib.atoiAll_plain _ _ n43 n45, hm]
  unfold JP.decV
  rw [hv]
  unfold Lib.signless
  dsimp only [Option.getD]
  rw [if_neg (by omega)]
theorem join_flat (c : UInt8) : ∀ (p : Bs) (l : List Bs), Lib.join (p :: l) [c] = p ++ l.flatMap fun q => c :: q
  | p, [] => by rw [join_one]; simp
  | p, q :: r => by rw [join_more, join_flat c q r]; simp
theorem split_join (c : UInt8) {l : List Bs} (hn : l ≠ []) (h : ∀ q ∈ l, c ∉ q) : splitL c (Lib.join l [c]) = l := by
  cases l with
  | nil => exact absurd rfl hn
  | cons p r => rw [join_flat, splitL_back c p r h]
theorem join_split (c : UInt8) (s : Bs) : Lib.join (splitL c s) [c] = s := by
  have h := splitL_join c s
  cases hs : splitL c s with
  | nil => exact absurd hs (splitL_ne c s)
  | cons p r =>
    rw [hs, List.flatMap_cons] at h
    rw [join_flat]
    simpa using h
theorem isName_free {a : Bs} (h : NameP.isName a = true) : (44 : UInt8) ∉ a ∧ (46 : UInt8) ∉ a ∧ (47 : UInt8) ∉ a ∧ a ≠ [] := by
  unfold NameP.isName at h
  rw [NameP.made_iff] at h
  obtain ⟨hn, _, _, h3⟩ := h
  refine ⟨fun hm => ?_, fun hm => ?_, fun hm => ?_, hn⟩
  · have := h3 _ hm; revert this; decide
  · have := h3 _ hm; revert this; decide
  · have := h3 _ hm; revert this; decide
theorem itoa_dec (n : Int) (h : 0 ≤ n) : Lib.itoa n = Lib.decDigits n.toNat := by
  obtain ⟨k, rfl⟩ : ∃ k : Nat, n = (k : Int) := ⟨n.toNat, by omega⟩
  unfold Lib.itoa
  rw [if_neg (by omega)]
theorem digit_free {l : Bs} (h : ∀ c ∈ l, JP.digit c = true) : (44 : UInt8) ∉ l ∧ (46 : UInt8) ∉ l ∧ (47 : UInt8) ∉ l := by
  refine ⟨fun hm => ?_, fun hm => ?_, fun hm => ?_⟩
  · have := h _ hm; revert this; decide
  · have := h _ hm; revert this; decide
  · have := h _ hm; revert this; decide
theorem itoa_free {n : Int} (h : 0 ≤ n) : (44 : UInt8) ∉ Lib.itoa n ∧ (46 : UInt8) ∉ Lib.itoa n ∧ (47 : UInt8) ∉ Lib.itoa n := by
  rw [itoa_dec n h]; exact digit_free (JP.dec_digits _)
theorem hexl_dig : ∀ (l : Bs), ∀ c ∈ HexP.hexl l, HexP.isDig c.toNat = true
  | [], c, h => by cases h
  | x :: r, c, h => by
    have hx := x.toNat_lt
    simp only [HexP.hexl, List.mem_cons] at h
    rcases h with rfl | rfl | h
    · exact HexP.isDig_dig _ (by omega)
    · exact HexP.isDig_dig _ (by omega)
    · exact hexl_dig r c h
theorem hexl_free (l : Bs) : (46 : UInt8) ∉ HexP.hexl l := fun hm => by
  have := hexl_dig l _ hm; revert this; decide
/-- the number that a text spells -/
def timeOf (c : Bs) : Option Int := match Lib.atoiAll c with
  | .ok v => some v
  | _ => none
theorem timeOf_itoa {n : Int} (h0 : 0 ≤ n) (h : n < 100000000000000000) : timeOf (Lib.itoa n) = some n := by
  obtain ⟨k, rfl⟩ : ∃ k : Nat, n = (k : Int) := ⟨n.toNat, by omega⟩
  unfold timeOf
  rw [atoi_itoa (by omega)]
theorem dec_length13 {n : Int} (h0 : 0 ≤ n) (h : n ≤ 1099511627776) : (Lib.itoa n).length ≤ 13 := by
  rw [itoa_dec n h0, Lib.decDigits_length]
  exact JP.nDigits_le 13 _ (by decide) (by show n.toNat < 10000000000000; omega)
theorem dec_mono : ∀ (l : Bs) (acc n : Nat), Lib.decFrom acc l = some n → acc ≤ n
  | [], acc, n, h => by simp only [Lib.decFrom, Option.some.injEq] at h; omega
  | c :: r, acc, n, h => by
    unfold Lib.decFrom at h
    split at h
    · have := dec_mono r _ n h; omega
    · cases h
theorem dec_step {l : Bs} {i acc n : Nat} {c : UInt8} (h : Lib.decFrom acc (l.drop i) = some n) (hc : l[i]? = some c) : ∃ d, d < 10 ∧ c.toNat = 48 + d ∧ Lib.decFrom (acc * 10 + d) (l.drop (i + 1)) = some n := by
  have hi := (List.getElem?_eq_some_iff.1 hc).1
  have hd : l.drop i = c :: l.drop (i + 1) := by
    rw [List.drop_eq_getElem_cons hi]
    rw [(List.getElem?_eq_some_iff.1 hc).2]
  rw [hd] at h
  unfold Lib.decFrom at h
  split at h
  · rename_i d hv
    unfold Lib.digitVal at hv
    split at hv
    · injection hv with hv
      exact ⟨d, by omega, by omega, h⟩
    · cases hv
  · cases h
theorem dec_itoa {n : Int} (h : 0 ≤ n) : Lib.decFrom 0 (Lib.itoa n) = some n.toNat := by rw [itoa_dec n h]; exact JP.dec_value _
end Go.Proofs.YtlbolbkikkiifaaDoor
/- The structs Rule, Role, Bind, Grants, User, Ask: as plain data, how their cells read, their share of the bound. -/
namespace Go.Proofs.YtlbolbkikkiifaaDoor
open Go.RowKit Go.ChangeShapes Go.WideShapes

structure GRule where
  verbs : List ByteArray
  kinds : List ByteArray
  names : List ByteArray
def RuleR : Rd GRule := fun w cs x => ∃ v0 v1 v2, cs = [v0, v1, v2] ∧ StrAt w v0 x.verbs ∧ StrAt w v1 x.kinds ∧ StrAt w v2 x.names
theorem stays_rule : Stays RuleR := fun _ _ _ _ hk ⟨v0, v1, v2, h, g0, g1, g2⟩ => ⟨v0, v1, v2, h, g0.keep hk, g1.keep hk, g2.keep hk⟩
def ruleB (x : GRule) : Nat := ((total x.verbs + 1) + ((total x.kinds + 1) + ((total x.names + 1) + 0))) + 1
set_option maxRecDepth 10000 in
theorem opens_rule : Opens Tryd.prog 30 RuleR ruleB := by
  intro H enc w base spare held fuel cs x h
  obtain ⟨xs, n, _, rfl, hl, hx, hf⟩ := DataW.trod_struct Tryd.underlying30 h
  have hl2 : cs.length = 3 := hl.trans (by kernel_rfl)
  clear hl h
  match cs, hl2, xs, hx, hf with
  | [c0, c1, c2], _, [x0, x1, x2], _, hf =>
    obtain ⟨a0, r0, m0⟩ := (opens_strs Tryd.underlying26 Tryd.underlying9 (by kernel_rfl)).at (o := 0) (cs := [c0, c1, c2]) (ds := [c0]) (x := x0) (hf 0 _ rfl) (k := 1) (by kernel_rfl) rfl
    obtain ⟨a1, r1, m1⟩ := (opens_strs Tryd.underlying26 Tryd.underlying9 (by kernel_rfl)).at (o := 1) (cs := [c0, c1, c2]) (ds := [c1]) (x := x1) (hf 1 _ rfl) (k := 1) (by kernel_rfl) rfl
    obtain ⟨a2, r2, m2⟩ := (opens_strs Tryd.underlying26 Tryd.underlying9 (by kernel_rfl)).at (o := 2) (cs := [c0, c1, c2]) (ds := [c2]) (x := x2) (hf 2 _ rfl) (k := 1) (by kernel_rfl) rfl
    clear hf
    obtain ⟨v0, r0, s0⟩ := r0
    obtain rfl : c0 = v0 := by simpa using r0
    obtain ⟨v1, r1, s1⟩ := r1
    obtain rfl : c1 = v1 := by simpa using r1
    obtain ⟨v2, r2, s2⟩ := r2
    obtain rfl : c2 = v2 := by simpa using r2
    refine ⟨⟨a0, a1, a2⟩, ⟨c0, c1, c2, rfl, s0, s1, s2⟩, ?_⟩
    simp only [List.map_cons, List.map_nil, Rows.uptoBulk, Rows.uptoBulkAll, ruleB]
    omega
structure GRole where
  space : ByteArray
  name : ByteArray
  rules : List GRule
def RoleR : Rd GRole := fun w cs x => ∃ v2, cs = [.string x.space, .string x.name, v2] ∧ RowAt RuleR 3 w v2 x.rules
theorem stays_role : Stays RoleR := fun _ _ _ _ hk ⟨v2, h, g2⟩ => ⟨v2, h, g2.keep stays_rule hk⟩
def roleB (x : GRole) : Nat := ((x.space.size + 1) + ((x.name.size + 1) + (((x.rules.map ruleB).sum + 1) + 0))) + 1
set_option maxRecDepth 10000 in
theorem opens_role : Opens Tryd.prog 66 RoleR roleB := by
  intro H enc w base spare held fuel cs x h
  obtain ⟨xs, n, _, rfl, hl, hx, hf⟩ := DataW.trod_struct Tryd.underlying66 h
  have hl2 : cs.length = 3 := hl.trans (by kernel_rfl)
  clear hl h
  match cs, hl2, xs, hx, hf with
  | [c0, c1, c2], _, [x0, x1, x2], _, hf =>
    obtain ⟨a0, r0, m0⟩ := (opens_string Tryd.underlying9).at (o := 0) (cs := [c0, c1, c2]) (ds := [c0]) (x := x0) (hf 0 _ rfl) (k := 1) (by kernel_rfl) rfl
    obtain ⟨a1, r1, m1⟩ := (opens_string Tryd.underlying9).at (o := 1) (cs := [c0, c1, c2]) (ds := [c1]) (x := x1) (hf 1 _ rfl) (k := 1) (by kernel_rfl) rfl
    obtain ⟨a2, r2, m2⟩ := (opens_row (k := 3) Tryd.underlying32 (by kernel_rfl) opens_rule).at (o := 2) (cs := [c0, c1, c2]) (ds := [c2]) (x := x2) (hf 2 _ rfl) (k := 1) (by kernel_rfl) rfl
    clear hf
    obtain rfl : c0 = .string a0 := by simpa [RString] using r0
    obtain rfl : c1 = .string a1 := by simpa [RString] using r1
    obtain ⟨v2, r2, s2⟩ := r2
    obtain rfl : c2 = v2 := by simpa using r2
    refine ⟨⟨a0, a1, a2⟩, ⟨c2, rfl, s2⟩, ?_⟩
    simp only [List.map_cons, List.map_nil, Rows.uptoBulk, Rows.uptoBulkAll, roleB]
    omega
structure GBind where
  space : ByteArray
  name : ByteArray
  role : ByteArray
  whole : Bool
  users : List ByteArray
  groups : List ByteArray
def BindR : Rd GBind := fun w cs x => ∃ v4 v5, cs = [.string x.space, .string x.name, .string x.role, .bool x.whole, v4, v5] ∧ StrAt w v4 x.users ∧ StrAt w v5 x.groups
theorem stays_bind : Stays BindR := fun _ _ _ _ hk ⟨v4, v5, h, g4, g5⟩ => ⟨v4, v5, h, g4.keep hk, g5.keep hk⟩
def bindB (x : GBind) : Nat := ((x.space.size + 1) + ((x.name.size + 1) + ((x.role.size + 1) + (1 + ((total x.users + 1) + ((total x.groups + 1) + 0)))))) + 1
set_option maxRecDepth 10000 in
theorem opens_bind : Opens Tryd.prog 68 BindR bindB := by
  intro H enc w base spare held fuel cs x h
  obtain ⟨xs, n, _, rfl, hl, hx, hf⟩ := DataW.trod_struct Tryd.underlying68 h
  have hl2 : cs.length = 6 := hl.trans (by kernel_rfl)
  clear hl h
  match cs, hl2, xs, hx, hf with
  | [c0, c1, c2, c3, c4, c5], _, [x0, x1, x2, x3, x4, x5], _, hf =>
    obtain ⟨a0, r0, m0⟩ := (opens_string Tryd.underlying9).at (o := 0) (cs := [c0, c1, c2, c3, c4, c5]) (ds := [c0]) (x := x0) (hf 0 _ rfl) (k := 1) (by kernel_rfl) rfl
    obtain ⟨a1, r1, m1⟩ := (opens_string Tryd.underlying9).at (o := 1) (cs := [c0, c1, c2, c3, c4, c5]) (ds := [c1]) (x := x1) (hf 1 _ rfl) (k := 1) (by kernel_rfl) rfl
    obtain ⟨a2, r2, m2⟩ := (opens_string Tryd.underlying9).at (o := 2) (cs := [c0, c1, c2, c3, c4, c5]) (ds := [c2]) (x := x2) (hf 2 _ rfl) (k := 1) (by kernel_rfl) rfl
    obtain ⟨a3, r3, m3⟩ := (opens_bool Tryd.underlying4).at (o := 3) (cs := [c0, c1, c2, c3, c4, c5]) (ds := [c3]) (x := x3) (hf 3 _ rfl) (k := 1) (by kernel_rfl) rfl
    obtain ⟨a4, r4, m4⟩ := (opens_strs Tryd.underlying26 Tryd.underlying9 (by kernel_rfl)).at (o := 4) (cs := [c0, c1, c2, c3, c4, c5]) (ds := [c4]) (x := x4) (hf 4 _ rfl) (k := 1) (by kernel_rfl) rfl
    obtain ⟨a5, r5, m5⟩ := (opens_strs Tryd.underlying26 Tryd.underlying9 (by kernel_rfl)).at (o := 5) (cs := [c0, c1, c2, c3, c4, c5]) (ds := [c5]) (x := x5) (hf 5 _ rfl) (k := 1) (by kernel_rfl) rfl
    clear hf
    obtain rfl : c0 = .string a0 := by simpa [RString] using r0
    obtain rfl : c1 = .string a1 := by simpa [RString] using r1
    obtain rfl : c2 = .string a2 := by simpa [RString] using r2
    obtain rfl : c3 = .bool a3 := by simpa [RBool] using r3
    obtain ⟨v4, r4, s4⟩ := r4
    obtain rfl : c4 = v4 := by simpa using r4
    obtain ⟨v5, r5, s5⟩ := r5
    obtain rfl : c5 = v5 := by simpa using r5
    refine ⟨⟨a0, a1, a2, a3, a4, a5⟩, ⟨c4, c5, rfl, s4, s5⟩, ?_⟩
    simp only [List.map_cons, List.map_nil, Rows.uptoBulk, Rows.uptoBulkAll, bindB]
    omega
structure GGrants where
  roles : List GRole
  binds : List GBind
def GrantsR : Rd GGrants := fun w cs x => ∃ v0 v1, cs = [v0, v1] ∧ RowAt RoleR 3 w v0 x.roles ∧ RowAt BindR 6 w v1 x.binds
theorem stays_grants : Stays GrantsR := fun _ _ _ _ hk ⟨v0, v1, h, g0, g1⟩ => ⟨v0, v1, h, g0.keep stays_role hk, g1.keep stays_bind hk⟩
def grantsB (x : GGrants) : Nat := (((x.roles.map roleB).sum + 1) + (((x.binds.map bindB).sum + 1) + 0)) + 1
set_option maxRecDepth 10000 in
theorem opens_grants : Opens Tryd.prog 25 GrantsR grantsB := by
  intro H enc w base spare held fuel cs x h
  obtain ⟨xs, n, _, rfl, hl, hx, hf⟩ := DataW.trod_struct Tryd.underlying25 h
  have hl2 : cs.length = 2 := hl.trans (by kernel_rfl)
  clear hl h
  match cs, hl2, xs, hx, hf with
  | [c0, c1], _, [x0, x1], _, hf =>
    obtain ⟨a0, r0, m0⟩ := (opens_row (k := 3) Tryd.underlying22 (by kernel_rfl) opens_role).at (o := 0) (cs := [c0, c1]) (ds := [c0]) (x := x0) (hf 0 _ rfl) (k := 1) (by kernel_rfl) rfl
    obtain ⟨a1, r1, m1⟩ := (opens_row (k := 6) Tryd.underlying23 (by kernel_rfl) opens_bind).at (o := 1) (cs := [c0, c1]) (ds := [c1]) (x := x1) (hf 1 _ rfl) (k := 1) (by kernel_rfl) rfl
    clear hf
    obtain ⟨v0, r0, s0⟩ := r0
    obtain rfl : c0 = v0 := by simpa using r0
    obtain ⟨v1, r1, s1⟩ := r1
    obtain rfl : c1 = v1 := by simpa using r1
    refine ⟨⟨a0, a1⟩, ⟨c0, c1, rfl, s0, s1⟩, ?_⟩
    simp only [List.map_cons, List.map_nil, Rows.uptoBulk, Rows.uptoBulkAll, grantsB]
    omega
structure GUser where
  name : ByteArray
  groups : List ByteArray
def UserR : Rd GUser := fun w cs x => ∃ v1, cs = [.string x.name, v1] ∧ StrAt w v1 x.groups
theorem stays_user : Stays UserR := fun _ _ _ _ hk ⟨v1, h, g1⟩ => ⟨v1, h, g1.keep hk⟩
def userB (x : GUser) : Nat := ((x.name.size + 1) + ((total x.groups + 1) + 0)) + 1
set_option maxRecDepth 10000 in
theorem opens_user : Opens Tryd.prog 28 UserR userB := by
  intro H enc w base spare held fuel cs x h
  obtain ⟨xs, n, _, rfl, hl, hx, hf⟩ := DataW.trod_struct Tryd.underlying28 h
  have hl2 : cs.length = 2 := hl.trans (by kernel_rfl)
  clear hl h
  match cs, hl2, xs, hx, hf with
  | [c0, c1], _, [x0, x1], _, hf =>
    obtain ⟨a0, r0, m0⟩ := (opens_string Tryd.underlying9).at (o := 0) (cs := [c0, c1]) (ds := [c0]) (x := x0) (hf 0 _ rfl) (k := 1) (by kernel_rfl) rfl
    obtain ⟨a1, r1, m1⟩ := (opens_strs Tryd.underlying26 Tryd.underlying9 (by kernel_rfl)).at (o := 1) (cs := [c0, c1]) (ds := [c1]) (x := x1) (hf 1 _ rfl) (k := 1) (by kernel_rfl) rfl
    clear hf
    obtain rfl : c0 = .string a0 := by simpa [RString] using r0
    obtain ⟨v1, r1, s1⟩ := r1
    obtain rfl : c1 = v1 := by simpa using r1
    refine ⟨⟨a0, a1⟩, ⟨c1, rfl, s1⟩, ?_⟩
    simp only [List.map_cons, List.map_nil, Rows.uptoBulk, Rows.uptoBulkAll, userB]
    omega
structure GAsk where
  verb : ByteArray
  kind : ByteArray
  space : ByteArray
  name : ByteArray
def AskR : Rd GAsk := fun _ cs x => cs = [.string x.verb, .string x.kind, .string x.space, .string x.name]
theorem stays_ask : Stays AskR := fun _ _ _ _ _ h => h
def askB (x : GAsk) : Nat := ((x.verb.size + 1) + ((x.kind.size + 1) + ((x.space.size + 1) + ((x.name.size + 1) + 0)))) + 1
set_option maxRecDepth 10000 in
theorem opens_ask : Opens Tryd.prog 39 AskR askB := by
  intro H enc w base spare held fuel cs x h
  obtain ⟨xs, n, _, rfl, hl, hx, hf⟩ := DataW.trod_struct Tryd.underlying39 h
  have hl2 : cs.length = 4 := hl.trans (by kernel_rfl)
  clear hl h
  match cs, hl2, xs, hx, hf with
  | [c0, c1, c2, c3], _, [x0, x1, x2, x3], _, hf =>
    obtain ⟨a0, r0, m0⟩ := (opens_string Tryd.underlying9).at (o := 0) (cs := [c0, c1, c2, c3]) (ds := [c0]) (x := x0) (hf 0 _ rfl) (k := 1) (by kernel_rfl) rfl
    obtain ⟨a1, r1, m1⟩ := (opens_string Tryd.underlying9).at (o := 1) (cs := [c0, c1, c2, c3]) (ds := [c1]) (x := x1) (hf 1 _ rfl) (k := 1) (by kernel_rfl) rfl
    obtain ⟨a2, r2, m2⟩ := (opens_string Tryd.underlying9).at (o := 2) (cs := [c0, c1, c2, c3]) (ds := [c2]) (x := x2) (hf 2 _ rfl) (k := 1) (by kernel_rfl) rfl
    obtain ⟨a3, r3, m3⟩ := (opens_string Tryd.underlying9).at (o := 3) (cs := [c0, c1, c2, c3]) (ds := [c3]) (x := x3) (hf 3 _ rfl) (k := 1) (by kernel_rfl) rfl
    clear hf
    obtain rfl : c0 = .string a0 := by simpa [RString] using r0
    obtain rfl : c1 = .string a1 := by simpa [RString] using r1
    obtain rfl : c2 = .string a2 := by simpa [RString] using r2
    obtain rfl : c3 = .string a3 := by simpa [RString] using r3
    refine ⟨⟨a0, a1, a2, a3⟩, rfl, ?_⟩
    simp only [List.map_cons, List.map_nil, Rows.uptoBulk, Rows.uptoBulkAll, askB]
    omega
end Go.Proofs.YtlbolbkikkiifaaDoor
/- A region that draws its order: a chosen row of operations that leave the world alone is taken first, the others come behind it one by one. Any program. -/
namespace Go.Proofs.YtlbolbkikkiifaaDoor
open Go

section
variable {P : Program} {ops : Array Oper} {md : Region.Mode}

/-- whatever comes up; those that st names leave the world alone -/
def wpMix (P : Program) (md : Region.Mode) (ops : Array Oper) (Q : Exit → Act → World → Prop) (st : Nat → Bool) : Nat → Array Bool → Act → World → Prop
  | 0, listed, a, w => Region.ready md ops listed = [] ∧ Q .normal a w
  | f + 1, listed, a, w =>
    (Region.ready md ops listed = [] → Q .normal a w) ∧
    ∀ i ∈ Region.ready md ops listed, if st i = true then stOp P ops w i (fun a' => wpMix P md ops Q st f (listed.setIfInBounds i true) a' w) a
      else wpOp P ops Q i (wpMix P md ops Q st f (listed.setIfInBounds i true)) a w

theorem wpAny_of_mix {Q : Exit → Act → World → Prop} {st : Nat → Bool} : ∀ (f : Nat) (listed : Array Bool) (a : Act) (w : World), wpMix P md ops Q st f listed a w → wpAny P md ops Q f listed a w
  | 0, _, _, _, h => h
  | f + 1, listed, a, w, h => by
    refine ⟨h.1, fun i hi => ?_⟩
    have h2 := h.2 i hi
    by_cases hs : st i = true
    · rw [if_pos hs] at h2
      exact wpOp_of_stOp (fun a' h' => wpAny_of_mix f _ a' w h') h2
    · rw [if_neg hs] at h2
      exact wpOp_mono (fun a' w' h' => wpAny_of_mix f _ a' w' h') h2

/-- a still operation apart from another one: what is kept by its write stays -/
theorem stOp_keep {w : World} {j : Nat} {oi oj : Oper} {v : Value} (hj : ops[j]? = some oj) (hap : oi.apart ops oj = true) (hsj : ∀ cs b, oj.op ≠ .select cs b)
    {F : Act → Prop} (hF : ∀ a u, F a → F (a.put oj.dst u)) {K : Act → Prop} {a : Act} (hy : F a) (h : stOp P ops w j K (a.put oi.dst v)) :
    stOp P ops w j (fun a' => F a' ∧ K (a'.put oi.dst v)) a := by
  obtain ⟨h1, h2, _⟩ := Oper.apart_spec hap
  unfold stOp at *
  simp only [hj] at *
  rw [wanted_put oj a oi.dst v h1] at h
  by_cases hw : Region.wanted oj (yielded ops a.tmps) = true
  · simp only [hw, if_true] at h ⊢
    unfold Oper.still at *
    rw [execOp_put oj hsj a oi.dst v h1] at h
    generalize (execOp a.eval oj).run P w = r at *
    cases r with
    | halt x w' => exact h
    | ok n w' =>
      cases n <;> simp only [Oper.stillUpon] at h ⊢
      case value u => exact ⟨h.1, hF _ u hy, by rw [← Act.put_comm a v u h2]; exact h.2⟩
      case skip => exact ⟨h.1, hF _ _ hy, by rw [← Act.put_comm a v undef h2]; exact h.2⟩
      case enter f args => obtain ⟨e1, u, hc, hn⟩ := h; exact ⟨e1, u, hc, hF _ u hy, by rw [← Act.put_comm a v u h2]; exact hn⟩
  · simp only [hw] at h ⊢
    exact ⟨hF _ _ hy, by rw [← Act.put_comm a v undef h2]; exact h⟩

/-- t waits for i, by one edge or by many -/
inductive Behind (md : Region.Mode) (ops : Array Oper) (i : Nat) : Nat → Prop
  | edge {t : Nat} {o : Oper} {e : Edge} (ho : ops[t]? = some o) (he : e ∈ o.after) (hb : Region.binds md e = true) (hi : e.on = i) : Behind md ops i t
  | step {t : Nat} {o : Oper} {e : Edge} (ho : ops[t]? = some o) (he : e ∈ o.after) (hb : Region.binds md e = true) (h : Behind md ops i e.on) : Behind md ops i t

def Shut (md : Region.Mode) (ops : Array Oper) (listed : Array Bool) : Prop :=
  ∀ j oj, ops[j]? = some oj → listed.getD j false = true → ∀ e ∈ oj.after, Region.binds md e = true → listed.getD e.on false = true

theorem Behind.listed {i t : Nat} {listed : Array Bool} (h : Behind md ops i t) (hc : Shut md ops listed) :
    (∀ o, ops[t]? = some o → ∀ e ∈ o.after, Region.binds md e = true → listed.getD e.on false = true) → listed.getD i false = true := by
  induction h with
  | edge ho he hb hi => intro hall; rw [← hi]; exact hall _ ho _ he hb
  | step ho he hb _ ih =>
    intro hall
    have h1 := hall _ ho _ he hb
    exact ih (fun o2 ho2 e2 he2 hb2 => hc _ o2 ho2 h1 e2 he2 hb2)

theorem Shut.set {i : Nat} {listed : Array Bool} (hc : Shut md ops listed) (hi : i ∈ Region.ready md ops listed) : Shut md ops (listed.setIfInBounds i true) := by
  obtain ⟨_, oi, hoi, hall⟩ := mem_ready.1 hi
  intro j oj hj hl e he hb
  by_cases hij : i = j
  · subst hij
    have : oj = oi := Option.some.inj (hj.symm.trans hoi)
    subst this
    exact getD_set_true (hall e he hb)
  · rw [getD_set_ne false hij] at hl
    exact getD_set_true (hc j oj hj hl e he hb)

/-- an operation may be taken first: it yields in whatever world (pure), or in this one while all that may change the world waits for it -/
theorem wpMix_first {Q : Exit → Act → World → Prop} {st : Nat → Bool} {i : Nat} {oi : Oper} {v : Value} (hi : ops[i]? = some oi) (hst : st i = true)
    (hsel : ∀ (j : Nat) (o : Oper) cs b, ops[j]? = some o → o.op ≠ .select cs b)
    (w : World) (hbe : ∀ t, t < ops.size → st t = false → Behind md ops i t) :
    ∀ (f : Nat) (listed : Array Bool) (a : Act), Shut md ops listed →
      (∀ j oj, ops[j]? = some oj → j ≠ i → listed.getD j true = false → (∀ e ∈ oj.after, Region.binds md e = true → e.on ≠ i) → oi.apart ops oj = true) →
      i ∈ Region.ready md ops listed → YieldsAt P ops w oi v a →
      wpMix P md ops Q st f (listed.setIfInBounds i true) (a.put oi.dst v) w → wpMix P md ops Q st (f + 1) listed a w := by
  intro f
  induction f with
  | zero =>
    intro listed a hc _ hr hy H
    refine ⟨fun h => (by rw [h] at hr; cases hr), fun j hj => ?_⟩
    by_cases hji : j = i
    · subst hji
      rw [if_pos hst]
      exact hy.stOp hi H
    · have h1 := ready_mono hj hji
      rw [H.1] at h1
      cases h1
  | succ f ih =>
    intro listed a hc hfree hr hy H
    refine ⟨fun h => (by rw [h] at hr; cases hr), fun j hj => ?_⟩
    by_cases hji : j = i
    · subst hji
      rw [if_pos hst]
      exact hy.stOp hi H
    · have h1 := H.2 j (ready_mono hj hji)
      obtain ⟨hjun, oj, hoj, hall⟩ := mem_ready.1 hj
      have hiun := (mem_ready.1 hr).1
      have hnot : ∀ e ∈ oj.after, Region.binds md e = true → e.on ≠ i := fun e he hb heq => by
        have h2 := hall e he hb
        rw [heq, getD_both hiun] at h2
        cases h2
      have hsj : st j = true := by
        cases hs : st j with
        | true => rfl
        | false =>
          have hlt : j < ops.size := (Array.getElem?_eq_some_iff.1 hoj).1
          have := (hbe j hlt hs).listed hc (fun o ho e he hb => by
            have : o = oj := Option.some.inj (ho.symm.trans hoj)
            subst this
            exact hall e he hb)
          rw [getD_both hiun] at this
          cases this
      rw [if_pos hsj] at h1
      rw [if_pos hsj]
      have hap := hfree j oj hoj hji hjun hnot
      obtain ⟨_, _, h3⟩ := Oper.apart_spec hap
      have hfree' : ∀ k ok, ops[k]? = some ok → k ≠ i → (listed.setIfInBounds j true).getD k true = false →
          (∀ e ∈ ok.after, Region.binds md e = true → e.on ≠ i) → oi.apart ops ok = true := fun k ok hk hki hun hno => by
        refine hfree k ok hk hki ?_ hno
        by_cases hjk : j = k
        · subst hjk; exact hjun
        · rw [getD_set_ne true hjk] at hun; exact hun
      refine stOp_mono (fun a' h4 => ih (listed.setIfInBounds j true) a' (hc.set hj) hfree' (ready_mono hr (Ne.symm hji)) h4.1 ?_)
        (stOp_keep (F := YieldsAt P ops w oi v) hoj hap (fun cs b => hsel j oj cs b hoj) (fun a u hy => hy.of_same (execOp_put oi (fun cs b => hsel i oi cs b hi) a oj.dst u h3) (wanted_put oi a oj.dst u h3)) hy h1)
      rw [Array.setIfInBounds_comm _ _ hji]
      exact h4.2

theorem wpOp_keep {Q : Exit → Act → World → Prop} {j : Nat} {oi oj : Oper} {v : Value} (hj : ops[j]? = some oj) (hap : oi.apart ops oj = true)
    (hsi : ∀ cs b, oi.op ≠ .select cs b) (hsj : ∀ cs b, oj.op ≠ .select cs b)
    (hQ : ∀ c a w, Q (.panic c) (a.put oi.dst v) w → Q (.panic c) a w) {K : Act → World → Prop} {a : Act} {w : World}
    (hy : Yields P ops oi v a) (h : wpOp P ops Q j K (a.put oi.dst v) w) :
    wpOp P ops Q j (fun a' w' => Yields P ops oi v a' ∧ K (a'.put oi.dst v) w') a w := wpOp_put hj hap hsi hsj hQ hy h

theorem yields_at {w : World} {o : Oper} {v : Value} {a : Act} (h : Yields P ops o v a) : YieldsAt P ops w o v a := by
  rcases h with ⟨hw, h⟩ | ⟨hw, h⟩
  · exact .inl ⟨hw, .inl (h w)⟩
  · exact .inr ⟨hw, h⟩

theorem wpMix_pure {Q : Exit → Act → World → Prop} {st : Nat → Bool} {i : Nat} {oi : Oper} {v : Value} (hi : ops[i]? = some oi) (hst : st i = true)
    (hsel : ∀ (j : Nat) (o : Oper) cs b, ops[j]? = some o → o.op ≠ .select cs b)
    (hQ : ∀ c a w, Q (.panic c) (a.put oi.dst v) w → Q (.panic c) a w) :
    ∀ (f : Nat) (listed : Array Bool) (a : Act) (w : World),
      (∀ j oj, ops[j]? = some oj → j ≠ i → listed.getD j true = false → (∀ e ∈ oj.after, Region.binds md e = true → e.on ≠ i) → oi.apart ops oj = true) →
      i ∈ Region.ready md ops listed → Yields P ops oi v a →
      wpMix P md ops Q st f (listed.setIfInBounds i true) (a.put oi.dst v) w → wpMix P md ops Q st (f + 1) listed a w := by
  intro f
  induction f with
  | zero =>
    intro listed a w _ hr hy H
    refine ⟨fun h => (by rw [h] at hr; cases hr), fun j hj => ?_⟩
    by_cases hji : j = i
    · subst hji
      rw [if_pos hst]
      exact (yields_at hy).stOp hi H
    · have h1 := ready_mono hj hji
      rw [H.1] at h1
      cases h1
  | succ f ih =>
    intro listed a w hfree hr hy H
    refine ⟨fun h => (by rw [h] at hr; cases hr), fun j hj => ?_⟩
    by_cases hji : j = i
    · subst hji
      rw [if_pos hst]
      exact (yields_at hy).stOp hi H
    · have h1 := H.2 j (ready_mono hj hji)
      obtain ⟨hjun, oj, hoj, hall⟩ := mem_ready.1 hj
      have hiun := (mem_ready.1 hr).1
      have hnot : ∀ e ∈ oj.after, Region.binds md e = true → e.on ≠ i := fun e he hb heq => by
        have h2 := hall e he hb
        rw [heq, getD_both hiun] at h2
        cases h2
      have hap := hfree j oj hoj hji hjun hnot
      obtain ⟨_, _, h3⟩ := Oper.apart_spec hap
      have hfree' : ∀ k ok, ops[k]? = some ok → k ≠ i → (listed.setIfInBounds j true).getD k true = false →
          (∀ e ∈ ok.after, Region.binds md e = true → e.on ≠ i) → oi.apart ops ok = true := fun k ok hk hki hun hno => by
        refine hfree k ok hk hki ?_ hno
        by_cases hjk : j = k
        · subst hjk; exact hjun
        · rw [getD_set_ne true hjk] at hun; exact hun
      by_cases hsj : st j = true
      · rw [if_pos hsj] at h1
        rw [if_pos hsj]
        refine stOp_mono (fun a' h4 => ih (listed.setIfInBounds j true) a' w hfree' (ready_mono hr (Ne.symm hji)) h4.1 ?_)
          (stOp_keep (F := Yields P ops oi v) hoj hap (fun cs b => hsel j oj cs b hoj) (fun a u hy => hy.of_same (execOp_put oi (fun cs b => hsel i oi cs b hi) a oj.dst u h3) (wanted_put oi a oj.dst u h3)) hy h1)
        rw [Array.setIfInBounds_comm _ _ hji]
        exact h4.2
      · rw [if_neg hsj] at h1
        rw [if_neg hsj]
        refine wpOp_mono (fun a' w' h4 => ih (listed.setIfInBounds j true) a' w' hfree' (ready_mono hr (Ne.symm hji)) h4.1 ?_)
          (wpOp_keep hoj hap (fun cs b => hsel i oi cs b hi) (fun cs b => hsel j oj cs b hoj) hQ hy h1)
        rw [Array.setIfInBounds_comm _ _ hji]
        exact h4.2

/-! what the kernel reckons -/
def behindL (md : Region.Mode) (ops : Array Oper) (i : Nat) : List Nat :=
  (List.range ops.size).foldl (fun m t => match ops[t]? with
    | some o => if (o.after.any fun e => Region.binds md e && (e.on == i || m.contains e.on)) = true then t :: m else m
    | none => m) []

theorem behindL_spec {i t : Nat} (h : t ∈ behindL md ops i) : Behind md ops i t := by
  unfold behindL at h
  have key : ∀ (l : List Nat) (m : List Nat), (∀ x ∈ m, Behind md ops i x) → ∀ x ∈ l.foldl (fun m t => match ops[t]? with
      | some o => if (o.after.any fun e => Region.binds md e && (e.on == i || m.contains e.on)) = true then t :: m else m
      | none => m) m, Behind md ops i x := by
    intro l
    induction l with
    | nil => intro m hm x hx; exact hm x hx
    | cons y l ih =>
      intro m hm x hx
      simp only [List.foldl_cons] at hx
      refine ih _ ?_ x hx
      intro z hz
      cases ho : ops[y]? with
      | none => simp only [ho] at hz; exact hm z hz
      | some o =>
        simp only [ho] at hz
        split at hz
        · rename_i hany
          rcases List.mem_cons.1 hz with rfl | hz
          · obtain ⟨e, he, hb⟩ := Array.any_eq_true'.1 hany
            simp only [Bool.and_eq_true, Bool.or_eq_true, beq_iff_eq, List.contains_iff_mem] at hb
            rcases hb.2 with h1 | h1
            · exact .edge ho he hb.1 h1
            · exact .step ho he hb.1 (hm _ h1)
          · exact hm z hz
        · exact hm z hz
  exact key _ _ (fun x hx => by cases hx) t h

def seqOf (md : Region.Mode) (ops : Array Oper) : List Nat → Array Bool → Bool
  | [], listed => (Region.ready md ops listed).isEmpty
  | t :: ts, listed => decide (Region.ready md ops listed = [t]) && seqOf md ops ts (listed.setIfInBounds t true)

def headOf (md : Region.Mode) (ops : Array Oper) (ts : List Nat) : List (Nat × Bool) → Array Bool → Bool
  | [], listed => seqOf md ops ts listed
  | (i, pure) :: hs, listed => (Region.ready md ops listed).contains i && Region.free md ops listed i && (pure || (let m := behindL md ops i; ts.all fun t => m.contains t)) &&
      headOf md ops ts hs (listed.setIfInBounds i true)

def mixB (md : Region.Mode) (ops : Array Oper) (hs : List (Nat × Bool)) (ts : List Nat) : Bool :=
  Region.noSelect ops && decide (hs.length + ts.length = ops.size) && (List.range ops.size).all (fun i => ts.contains i || (hs.map (·.1)).contains i) && (hs.map (·.1)).all (fun i => !ts.contains i) &&
    headOf md ops ts hs (Array.replicate ops.size false)

theorem wpMix_seq {Q : Exit → Act → World → Prop} {st : Nat → Bool} : ∀ (ts : List Nat) (listed : Array Bool) (a : Act) (w : World), (∀ t ∈ ts, st t = false) → seqOf md ops ts listed = true →
    wpOps P ops Q ts a w → wpMix P md ops Q st ts.length listed a w
  | [], listed, a, w, _, hB, h => ⟨by simpa [seqOf] using hB, h⟩
  | t :: ts, listed, a, w, hst, hB, h => by
    simp only [seqOf, Bool.and_eq_true, decide_eq_true_eq] at hB
    refine ⟨fun h0 => (by rw [hB.1] at h0; cases h0), fun i hi => ?_⟩
    rw [hB.1] at hi
    have hik : i = t := by simpa using hi
    subst hik
    rw [if_neg (by rw [hst i (by simp)]; simp)]
    rw [wpOps_cons] at h
    exact wpOp_mono (fun a' w' h' => wpMix_seq ts _ a' w' (fun x hx => hst x (by simp [hx])) hB.2 h') h

/-- the chosen row, one by one: pure ones in whatever world, the others in this one -/
def wpTakes (P : Program) (ops : Array Oper) (w : World) (L : Act → Prop) : List (Oper × Bool) → Act → Prop
  | [], a => L a
  | (o, true) :: r, a => ∃ v, Yields P ops o v a ∧ wpTakes P ops w L r (a.put o.dst v)
  | (o, false) :: r, a => ∃ v, YieldsAt P ops w o v a ∧ wpTakes P ops w L r (a.put o.dst v)

theorem wpMix_takes {Q : Exit → Act → World → Prop} {st : Nat → Bool} {ts : List Nat} {w : World} {L : Act → Prop} (hsel : Region.noSelect ops = true)
    (hQ : ∀ (d : Option Tmp) (v : Value) c a w, Q (.panic c) (a.put d v) w → Q (.panic c) a w)
    (hts : ∀ t, t < ops.size → st t = false → t ∈ ts)
    (hL : ∀ listed a, seqOf md ops ts listed = true → L a → wpMix P md ops Q st ts.length listed a w) :
    ∀ (hs : List (Nat × Bool)) (hs' : List (Oper × Bool)) (listed : Array Bool) (a : Act), hs.map (fun p => (ops[p.1]?, p.2)) = hs'.map (fun p => (some p.1, p.2)) → (∀ p ∈ hs, st p.1 = true) → Shut md ops listed →
      headOf md ops ts hs listed = true → wpTakes P ops w L hs' a → wpMix P md ops Q st (hs.length + ts.length) listed a w
  | [], [], listed, a, _, _, _, hB, h => by simpa using hL listed a (by simpa [headOf] using hB) h
  | [], _ :: _, _, _, he, _, _, _, _ => by simp at he
  | _ :: _, [], _, _, he, _, _, _, _ => by simp at he
  | (i, b) :: hs, (o, b') :: hs', listed, a, he, hst, hc, hB, h => by
    simp only [List.map_cons, List.cons.injEq, Prod.mk.injEq] at he
    obtain ⟨⟨ho, hbb⟩, he'⟩ := he
    subst hbb
    simp only [headOf, Bool.and_eq_true] at hB
    obtain ⟨⟨⟨hr, hf⟩, hbe⟩, hB'⟩ := hB
    have hr' : i ∈ Region.ready md ops listed := by simpa using hr
    rw [List.length_cons, show hs.length + 1 + ts.length = (hs.length + ts.length) + 1 by omega]
    cases b with
    | true =>
      obtain ⟨v, hy, hK⟩ := h
      exact wpMix_pure ho (hst (i, true) (by simp)) (Region.noSelect_spec hsel) (fun c a w => hQ o.dst v c a w) _ listed a w (Region.free_spec ho hf) hr' hy
        (wpMix_takes hsel hQ hts hL hs hs' _ _ he' (fun p hp => hst p (by simp [hp])) (hc.set hr') hB' hK)
    | false =>
      obtain ⟨v, hy, hK⟩ := h
      refine wpMix_first ho (hst (i, false) (by simp)) (Region.noSelect_spec hsel) w (fun t htl ht => ?_) _ listed a hc (Region.free_spec ho hf) hr' hy
        (wpMix_takes hsel hQ hts hL hs hs' _ _ he' (fun p hp => hst p (by simp [hp])) (hc.set hr') hB' hK)
      simp only [Bool.false_or, List.all_eq_true, List.contains_iff_mem] at hbe
      exact behindL_spec (hbe t (hts t htl ht))

theorem wpOps_of_list {Q : Exit → Act → World → Prop} : ∀ (ts : List Nat) (T : List Oper), ts.map (fun t => ops[t]?) = T.map some → ∀ (a : Act) (w : World), wpList P ops Q T a w → wpOps P ops Q ts a w
  | [], [], _, a, w, h => h
  | [], _ :: _, he, _, _, _ => by simp at he
  | _ :: _, [], he, _, _, _ => by simp at he
  | t :: ts, o :: T, he, a, w, h => by
    simp only [List.map_cons, List.cons.injEq] at he
    rw [wpOps_cons]
    unfold wpOp
    simp only [he.1]
    unfold wpList at h
    split
    · rename_i hw
      rw [if_pos hw] at h
      exact h.imp (Oper.wp_mono fun a' w' h' => wpOps_of_list ts T he.2 a' w' h') id
    · rename_i hw
      rw [if_neg hw] at h
      exact wpOps_of_list ts T he.2 _ _ h

def pickH (l : List Oper) (hs : List (Nat × Bool)) : List (Oper × Bool) := hs.filterMap fun p => (l[p.1]?).map fun o => (o, p.2)
def pickT (l : List Oper) (ts : List Nat) : List Oper := ts.filterMap fun t => l[t]?

theorem pickH_spec (l : List Oper) : ∀ (hs : List (Nat × Bool)), (∀ p ∈ hs, p.1 < l.length) → hs.map (fun p => (l.toArray[p.1]?, p.2)) = (pickH l hs).map (fun p => (some p.1, p.2))
  | [], _ => rfl
  | (i, b) :: hs, h => by
    have hi : i < l.length := h (i, b) (by simp)
    have := pickH_spec l hs (fun p hp => h p (by simp [hp]))
    simp only [pickH] at *
    simp [hi]
    simpa using this
theorem pickT_spec (l : List Oper) : ∀ (ts : List Nat), (∀ t ∈ ts, t < l.length) → ts.map (fun t => l.toArray[t]?) = (pickT l ts).map some
  | [], _ => rfl
  | i :: ts, h => by
    have hi : i < l.length := h i (by simp)
    have := pickT_spec l ts (fun p hp => h p (by simp [hp]))
    simp only [pickT] at *
    simp [hi]
    simpa using this

/-- THE LAW -/
theorem wp_region_mix {id : Nat} {Q : Exit → Act → World → Prop} {a : Act} {w : World} {l : List Oper} (hs : List (Nat × Bool)) (ts : List Nat) (hm : P.follows .mixedOrders = true)
    (hB : mixB .any l.toArray hs ts = true) (hbd : ((hs.map (·.1)) ++ ts).all (fun i => decide (i < l.length)) = true)
    (h : wpTakes P l.toArray w.drew (fun a' => wpList P l.toArray (NoPanic Q) (pickT l ts) a' w.drew) (pickH l hs) a) :
    (Code.region id l.toArray true).wp P Q a w := by
  simp only [mixB, Bool.and_eq_true, decide_eq_true_eq] at hB
  obtain ⟨⟨⟨⟨hsel, hsz⟩, hall⟩, hno⟩, hh⟩ := hB
  rw [List.all_eq_true] at hbd
  have hb1 : ∀ p ∈ hs, p.1 < l.length := fun p hp => by simpa using hbd p.1 (by simp only [List.mem_append, List.mem_map]; exact .inl ⟨p, hp, rfl⟩)
  have hb2 : ∀ t ∈ ts, t < l.length := fun t ht => by simpa using hbd t (by simp [ht])
  refine wp_region_noPanic (wp_region_any hm (wpAny_of_mix (st := fun i => !ts.contains i) _ _ _ _ ?_))
  rw [← hsz]
  refine wpMix_takes (md := .any) (Q := NoPanic Q) (w := w.drew) hsel (fun d v c a w h => (h : False).elim) (fun t htl ht => by simpa using ht)
    (fun listed a' hs' hL => wpMix_seq ts listed a' w.drew (fun t ht => by simpa using ht) hs' (wpOps_of_list ts _ (pickT_spec l ts hb2) a' w.drew hL)) hs (pickH l hs) _ a (pickH_spec l hs hb1)
    (fun p hp => by rw [List.all_eq_true] at hno; exact hno p.1 (List.mem_map.2 ⟨p, hp, rfl⟩)) (fun j oj _ hl => by rw [getD_replicate_false] at hl; cases hl) (by rw [hsz]; exact hh) h

theorem still_tail_drew {id : Nat} {Q : Exit → Act → World → Prop} {a : Act} {w : World} {l : List Oper} (n : Nat) (hm : P.follows .mixedOrders = true) (hB : Region.lexTailB .any l.toArray n = true)
    (h : wpStill P l.toArray w.drew (fun a' => wpList P l.toArray Q (l.drop n) a' w.drew) (l.take n) a) : (Code.region id l.toArray true).wp P Q a w := wp_region_still_tail n hm hB h
theorem still_lit_drew {id : Nat} {Q : Exit → Act → World → Prop} {a : Act} {w : World} {l : List Oper} (hm : P.follows .mixedOrders = true) (hB : Region.lexB .any l.toArray = true)
    (h : wpStill P l.toArray w.drew (fun a' => Q .normal a' w.drew) l a) : (Code.region id l.toArray true).wp P Q a w := wp_region_still_lit hm hB h
theorem wpTakes_nil {w : World} {L : Act → Prop} {a : Act} (h : L a) : wpTakes P ops w L [] a := h
theorem wpTakes_pure {w : World} {L : Act → Prop} {a : Act} {o : Oper} {r : List (Oper × Bool)} {v : Value} (hg : o.guard = none)
    (h : ∀ w, (execOp a.eval o).run P w = .ok (.value v) w) (k : wpTakes P ops w L r (a.put o.dst v)) : wpTakes P ops w L ((o, true) :: r) a :=
  ⟨v, .inl ⟨by simp [Region.wanted, hg], h⟩, k⟩
theorem wpTakes_still {w : World} {L : Act → Prop} {a : Act} {o : Oper} {r : List (Oper × Bool)} {v : Value} (hg : o.guard = none)
    (h : (execOp a.eval o).run P w = .ok (.value v) w) (k : wpTakes P ops w L r (a.put o.dst v)) : wpTakes P ops w L ((o, false) :: r) a :=
  ⟨v, .inl ⟨by simp [Region.wanted, hg], .inl h⟩, k⟩
theorem wpTakes_call {w : World} {L : Act → Prop} {a : Act} {o : Oper} {r : List (Oper × Bool)} {v : Value} {f : FuncId} {args : Array Value} (hg : o.guard = none)
    (h : (execOp a.eval o).run P w = .ok (.enter f args) w) (hc : Calls P f args w fun e w'' => e = .returned v ∧ w'' = w) (k : wpTakes P ops w L r (a.put o.dst v)) : wpTakes P ops w L ((o, false) :: r) a :=
  ⟨v, .inl ⟨by simp [Region.wanted, hg], .inr (.inr ⟨f, args, h, hc⟩)⟩, k⟩
theorem wpTakes_skip {w : World} {L : Act → Prop} {a : Act} {o : Oper} {r : List (Oper × Bool)} (hw : Region.wanted o (yielded ops a.tmps) = false)
    (k : wpTakes P ops w L r (a.put o.dst undef)) : wpTakes P ops w L ((o, false) :: r) a :=
  ⟨undef, .inr ⟨hw, rfl⟩, k⟩
theorem wpTakes_wanted {w : World} {L : Act → Prop} {a : Act} {o : Oper} {r : List (Oper × Bool)} {v : Value} (hw : Region.wanted o (yielded ops a.tmps) = true)
    (h : (execOp a.eval o).run P w = .ok (.value v) w) (k : wpTakes P ops w L r (a.put o.dst v)) : wpTakes P ops w L ((o, false) :: r) a :=
  ⟨v, .inl ⟨hw, .inl h⟩, k⟩
end
end Go.Proofs.YtlbolbkikkiifaaDoor
