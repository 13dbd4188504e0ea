/- The order of texts; cmp.Compare at texts. -/
import Derived.Test.YtaddcchpidpbfaaDoorTabs
import Derived.Lib.Hide
import Derived.WalkLawsBesides
namespace Go.Proofs.YtaddcchpidpbfaaDoor
open Go.RowKit

theorem bl_irrefl : ∀ x : List UInt8, Op.bytesLess x x = false
  | [] => rfl
  | a :: x => by unfold Op.bytesLess; simp [bl_irrefl x]
theorem bl_total : ∀ x y : List UInt8, Op.bytesLess x y = false → Op.bytesLess y x = false → x = y
  | [], [], _, _ => rfl
  | [], _ :: _, h, _ => by simp [Op.bytesLess] at h
  | _ :: _, [], _, h => by simp [Op.bytesLess] at h
  | a :: x, b :: y, h1, h2 => by
    unfold Op.bytesLess at h1 h2
    simp only [Bool.or_eq_false_iff, Bool.and_eq_false_iff, decide_eq_false_iff_not, UInt8.not_lt] at h1 h2
    have hab : a = b := UInt8.le_antisymm h2.1 h1.1
    subst hab
    rw [bl_total x y (by simpa using h1.2) (by simpa using h2.2)]
theorem bl_trans : ∀ x y z : List UInt8, Op.bytesLess x y = true → Op.bytesLess y z = true → Op.bytesLess x z = true
  | _, [], _, h, _ => by simp [Op.bytesLess] at h
  | _, _ :: _, [], _, h => by simp [Op.bytesLess] at h
  | [], _ :: _, _ :: _, _, _ => rfl
  | a :: x, b :: y, c :: z, h1, h2 => by
    unfold Op.bytesLess at h1 h2 ⊢
    simp only [Bool.or_eq_true, Bool.and_eq_true, decide_eq_true_eq, beq_iff_eq] at h1 h2 ⊢
    rcases h1 with h1 | ⟨rfl, h1⟩
    · rcases h2 with h2 | ⟨rfl, h2⟩
      · exact .inl (UInt8.lt_trans h1 h2)
      · exact .inl h1
    · rcases h2 with h2 | ⟨rfl, h2⟩
      · exact .inl h2
      · exact .inr ⟨rfl, bl_trans x y z h1 h2⟩
theorem bl_asymm {x y : List UInt8} (h : Op.bytesLess x y = true) : Op.bytesLess y x = false := by
  cases h2 : Op.bytesLess y x with
  | false => rfl
  | true => have := bl_trans x y x h h2; rw [bl_irrefl] at this; cases this
def lessB (a b : ByteArray) : Bool := Op.bytesLess a.toList b.toList
theorem toList_inj {a b : ByteArray} (h : a.toList = b.toList) : a = b := by
  rw [ByteArray.toList_eq, ByteArray.toList_eq] at h
  cases a; cases b
  simp only [ByteArray.mk.injEq]
  exact Array.toList_inj.1 h
theorem lessB_irrefl (a : ByteArray) : lessB a a = false := bl_irrefl _
theorem lessB_total {a b : ByteArray} (h : lessB a b = false) (k : lessB b a = false) : a = b := toList_inj (bl_total _ _ h k)
theorem lessB_trans {a b c : ByteArray} (h : lessB a b = true) (k : lessB b c = true) : lessB a c = true := bl_trans _ _ _ h k
theorem lessB_asymm {a b : ByteArray} (h : lessB a b = true) : lessB b a = false := bl_asymm h
/-- below, the same, above -/
def cmpB (a b : ByteArray) : Int := if lessB a b = true then -1 else if (a.toList == b.toList) = true then 0 else 1
end Go.Proofs.YtaddcchpidpbfaaDoor
