/- The reference's Has at texts. -/
import Derived.Test.YtkkfnihdnclgiaaSlStr
namespace Go.Proofs.Ytkkfnihdnclgiaa
open Go.RowKit

set_option maxRecDepth 100000 in
theorem hasStr_any (v : Value) (l : List ByteArray) (x : ByteArray) (w : World) (h : StrAt w v l) (hl : l.length ≤ 1073741824) :
    Calls Try.prog 23 #[v, .string x] w fun e w' => e = .returned (.bool (Lib.containsS l x)) ∧ w = w' := by
  obtain ⟨ao, c, rfl, _, _⟩ := h.len
  have H := Lib.hid h
  clear h
  go_enter Try.func23, Try.ntmps23
  go_wp2_with fail
  go_loopg [9] l.length (fun g u9 wr => ∃ k : Nat, k + g = l.length ∧ u9 = .int .i64 (k : Int) ∧ Hid (x ∉ l.take k) ∧ w = wr)
  case atStart => exact ⟨0, by omega, rfl, (by show x ∉ _; simp), rfl⟩
  case round =>
    obtain ⟨k, hkg, rfl, Hno, rfl⟩ := hrel
    cases gk with
    | zero =>
      obtain rfl : k = l.length := by omega
      go_wp2_with fail
      go_ret
      refine ⟨congrArg (fun b => Ending.returned (Value.bool b)) ?_, rfl⟩
      have h1 : x ∉ l := by have := Hno.out; rwa [List.take_of_length_le (Nat.le_refl _)] at this
      have h2 : ¬ Lib.containsS l x = true := fun h => h1 ((Lib.containsS_iff l x).1 h)
      simpa using h2
    | succ g =>
      have hkl : k < l.length := by omega
      obtain ⟨b, o, c', hv, _, _, _, hc⟩ := H.out.form (by omega)
      cases hv
      obtain ⟨y, hy⟩ : ∃ y, l[k]? = some y := ⟨l[k], by simp [hkl]⟩
      have e0 := hc k y hy
      clear hc
      have q1 : (0 : Int) ≤ (k : Int) := by omega
      have q2 : (k : Int) < (l.length : Int) := by omega
      by_cases hxy : x = y
      · subst hxy
        have h1 : Lib.containsS l x = true := (Lib.containsS_iff l x).2 (List.mem_of_getElem? hy)
        have H1 := Lib.hid h1
        have q3 : (x.toList == x.toList) = true := by simp
        clear h1 hy
        go_wp2_with fail
        go_ret
        exact ⟨congrArg (fun b => Ending.returned (Value.bool b)) H1.out.symm, rfl⟩
      · have q3 : (x.toList == y.toList) = false := by
          rw [beq_eq_false_iff_ne, ByteArray.toList_eq, ByteArray.toList_eq]
          intro h
          apply hxy
          cases x; cases y
          simp only [ByteArray.mk.injEq]
          exact Array.toList_inj.1 h
        have Hno2 : Hid (x ∉ l.take (k + 1)) := by
          show x ∉ l.take (k + 1)
          rw [List.take_add_one, hy]
          intro h
          rcases List.mem_append.1 h with h | h
          · exact Hno.out h
          · simp at h; exact hxy h
        clear hy Hno
        go_wp2_with fail
        go_roundg g
        case measure => omega
        case rel => exact ⟨k + 1, by omega, by go_num, Hno2, rfl⟩
end Go.Proofs.Ytkkfnihdnclgiaa
