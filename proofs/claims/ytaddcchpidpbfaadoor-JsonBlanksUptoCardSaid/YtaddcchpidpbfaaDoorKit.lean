/- Small general lemmas (any program): bytes as cells, a row of the call's own as a string. -/
import Derived.WalkKit
import Derived.Deep.AppendLies
import Derived.Laws.BytesArg
namespace Go.Proofs.YtaddcchpidpbfaaDoor
open Go.RowKit

/-- a list of bytes as cells -/
def byteCells (l : List UInt8) : List Value := l.map fun b => Value.int .u8 (b.toNat : Int)
theorem byteCells_length (l : List UInt8) : (byteCells l).length = l.length := by simp [byteCells]
theorem byteCells_append (l m : List UInt8) : byteCells (l ++ m) = byteCells l ++ byteCells m := by simp [byteCells]

/-- 'string(b)', b a row of the call's own that holds the bytes l (nil let in) -/
theorem run_convert_own {P : Program} (w : World) (src dst e : TypeId) (hs : P.underlying src = some (.slice e)) (he : P.underlying e = some (.int .u8)) (hd : P.underlying dst = some .string)
    {base : Nat} {e' : TypeId} {v : Value} {n : Nat} {l : List UInt8} (h : w.ownsRow base e' 1 v n (byteCells l)) :
    (convert src dst v).run P w = .ok (.string ⟨l.toArray⟩) w := by
  have hn : n = l.length := by have := h.1; simp [byteCells_length] at this; omega
  subst hn
  rcases Nat.eq_zero_or_pos l.length with h0 | h0
  · have hl : l = [] := List.eq_nil_of_length_eq_zero h0
    subst hl
    rcases h.2 with ⟨rfl, _⟩ | ⟨g, cap, cur, rfl, _⟩
    · rw [run_convert_bytes_nil w src e hs he _ _ dst hd]; rfl
    · rw [show (([] : List UInt8).length) = (([] : List UInt8).length) from rfl]
      exact run_convert_bytes_back w src dst e _ cap [] hs he hd (fun j hj => absurd hj (by simp))
  · obtain ⟨g, cap, hv, _, hlt⟩ := h.form h0
    subst hv
    refine run_convert_bytes_back w src dst e _ cap l hs he hd (fun j hj => ?_)
    exact h.cells (g := g) rfl j _ (by simp [byteCells, hj])
/-- 'c & 15' on a byte -/
theorem bits_and15 (c : Nat) (h : c < 256) : bits .and .u8 (c : Int) 15 = ((c % 16 : Nat) : Int) := by
  have := u8_and_nat c 15 h (by omega)
  rw [show ((15 : Nat) : Int) = 15 from rfl] at this
  rw [this, show (15 : Nat) = 2 ^ 4 - 1 from rfl, Nat.and_two_pow_sub_one_eq_mod]
theorem take_snoc (s : ByteArray) (k : Nat) (h : k < s.size) : s.data.toList.take (k + 1) = s.data.toList.take k ++ [s[k]] := by
  rw [List.take_succ_eq_append_getElem (by simpa using h)]; rfl
/-- 'a << 4 | b' on two half bytes -/
theorem bits_or16 (a b : Nat) (ha : a < 16) (hb : b < 16) : bits .or .u8 ((a : Int) * 16) (b : Int) = ((a * 16 + b : Nat) : Int) := by
  have h := u8_or_nat (a * 16) b (by omega) (by omega)
  rw [show ((a * 16 : Nat) : Int) = (a : Int) * 16 by omega] at h
  rw [h]
  congr 1
  rw [show a * 16 = 2 ^ 4 * a by omega, ← Nat.two_pow_add_eq_or_of_lt (by omega)]
theorem drop_two (s : ByteArray) (j : Nat) (h : j + 1 < s.size) : s.data.toList.drop j = s[j] :: s[j + 1] :: s.data.toList.drop (j + 2) := by
  rw [List.drop_eq_getElem_cons (by simp; omega), List.drop_eq_getElem_cons (by simp; omega)]; rfl
/-- a call of a function that has a body enters it -/
theorem run_callFunc_body {P : Program} {f : FuncId} {fn : Func} (hf : P.funcs[f]? = some fn) (hname : (fn.name == "runtime.NumGoroutine") = false) (hb : fn.body.isNone = false) (args : Array Value) (w : World) :
    (callFunc f args).run P w = .ok (.enter f args) w := by
  have h1 : fn.name ≠ "runtime.NumGoroutine" := by simpa using hname
  have h2 : ¬ fn.body = none := fun e => by rw [e] at hb; cases hb
  simp [callFunc, hf, h1, h2]
theorem ba_eq {s : ByteArray} {l : List UInt8} (h : s.data.toList = l) : s = ⟨l.toArray⟩ := by subst h; simp
theorem ba_mk (s : ByteArray) : (⟨s.data.toList.toArray⟩ : ByteArray) = s := by simp
theorem size_mk (l : List UInt8) : (ByteArray.mk l.toArray).size = l.length := by simp [ByteArray.size]
/-- a composite literal whose cells are known under a name -/
theorem wpList_build_as {P : Program} {ops : Array Oper} {rest : List Oper} {o : Oper} {a : Act} {w : World} {Q : Exit → Act → World → Prop} (hg : o.guard = none) (t : TypeId) (parts : Array (Nat × Operand)) (ho : o.op = .build t parts)
    (cells : Array Value) (hf : P.built t (parts.map fun (i, x) => (i, a.eval x)).toList = some cells) (h : wpList P ops Q rest (a.put o.dst (.agg cells)) w) : wpList P ops Q (o :: rest) a w :=
  wpList_build hg t parts ho (by rw [hf]; rfl) (by rw [hf]; exact h)
theorem below_setRow {B : Nat} {a w : World} (h : Below B a w) {g : Nat} (hg : B ≤ g) (cs : Array Value) : Below B a (w.setRow g cs) :=
  h.trans ⟨rfl, rfl, rfl, by simp, fun k hk => setRow_other w g k cs (by omega)⟩
/-- a new block, and the ones before it -/
theorem heap_alloc_at {w : World} {o : Obj} {n : Nat} (h : n = w.heap.size) : (w.alloc o).heap[n]? = some o := by subst h; exact heap_alloc_new w o
theorem heap_alloc_old {w : World} {o x : Obj} {n : Nat} (h : w.heap[n]? = some x) : (w.alloc o).heap[n]? = some x := by
  have hn : n < w.heap.size := by
    rcases Nat.lt_or_ge n w.heap.size with h1 | h1
    · exact h1
    · rw [Array.getElem?_eq_none h1] at h; cases h
  exact (Below.heap_alloc w o n hn).trans h
theorem cell_block {w : World} {g : Nat} {cs : Array Value} {t : TypeId} {fr : Nat × Nat} (h : w.heap[g]? = some (.cells cs t fr)) (i : Nat) : w.cell? ⟨g, i, none⟩ = cs[i]? := by simp [World.cell?, h]
theorem free_block {w : World} {g : Nat} {cs : Array Value} {t : TypeId} (h : w.heap[g]? = some (.cells cs t (0, 0))) (i : Nat) : w.frozen? ⟨g, i, none⟩ = false := by simp [World.frozen?, h]
end Go.Proofs.YtaddcchpidpbfaaDoor
