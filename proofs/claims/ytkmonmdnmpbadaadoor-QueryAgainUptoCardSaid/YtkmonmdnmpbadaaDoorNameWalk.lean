/- The walks of package name: isEdge, isLow, made, isName, isWord, judge, Check, CheckVal: what they give. -/
import Derived.Test.YtkmonmdnmpbadaaDoorNamePlain
import Derived.Test.YtkmonmdnmpbadaaDoorKit
import Derived.Test.YtkmonmdnmpbadaaDoorChecked
import Derived.WalkKit
import Derived.WalkSpells
import Derived.WalkLawsBesides
import Derived.Lib.Hide
import Derived.KernelRfl
namespace Go.Proofs.YtkmonmdnmpbadaaDoor
open Go.RowKit

theorem byteRanges (c : Nat) : c < 48 ∨ (48 ≤ c ∧ c ≤ 57) ∨ (57 < c ∧ c < 65) ∨ (65 ≤ c ∧ c ≤ 90) ∨ (90 < c ∧ c < 97) ∨ (97 ≤ c ∧ c ≤ 122) ∨ 122 < c := by omega

set_option maxHeartbeats 800000 in
theorem isEdge_any (c : Nat) (w : World) (_h8 : c < 256) :
    Calls Tryd.prog 99 #[.int .u8 (c : Int)] w fun e w' => e = .returned (.bool (NameP.edge c)) ∧ w = w' := by
  rcases byteRanges c with h | ⟨h, h'⟩ | ⟨h, h'⟩ | ⟨h, h'⟩ | ⟨h, h'⟩ | ⟨h, h'⟩ | h
  all_goals
    go_enter Tryd.func99, Tryd.ntmps99
    go_wp2
    go_ret
    exact ⟨congrArg (fun b => Ending.returned (.bool b)) (by unfold NameP.edge; rw [Bool.eq_iff_iff]; simp; omega), rfl⟩

set_option maxHeartbeats 800000 in
theorem isLow_any (c : Nat) (w : World) (h8 : c < 256) :
    Calls Tryd.prog 97 #[.int .u8 (c : Int)] w fun e w' => e = .returned (.bool (NameP.low c)) ∧ w = w' := by
  cases he : NameP.edge c with
  | false =>
    have He := Lib.hid he; clear he
    go_enter Tryd.func97, Tryd.ntmps97
    go_wp2_with fail
    refine (isEdge_any c _ h8).mono ?_
    rintro e w' ⟨rfl, rfl⟩
    rw [He.out]
    go_wp2
    go_ret
    exact ⟨congrArg (fun b => Ending.returned (.bool b)) (by simp [NameP.low, He.out]), rfl⟩
  | true =>
    have He := Lib.hid he; clear he
    by_cases h1 : c < 65
    · go_enter Tryd.func97, Tryd.ntmps97
      go_wp2_with fail
      refine (isEdge_any c _ h8).mono ?_
      rintro e w' ⟨rfl, rfl⟩
      rw [He.out]
      go_wp2
      go_ret
      exact ⟨congrArg (fun b => Ending.returned (.bool b)) (by unfold NameP.low; rw [He.out, Bool.eq_iff_iff]; simp; omega), rfl⟩
    · by_cases h2 : 90 < c
      · go_enter Tryd.func97, Tryd.ntmps97
        go_wp2_with fail
        refine (isEdge_any c _ h8).mono ?_
        rintro e w' ⟨rfl, rfl⟩
        rw [He.out]
        go_wp2
        go_ret
        exact ⟨congrArg (fun b => Ending.returned (.bool b)) (by unfold NameP.low; rw [He.out, Bool.eq_iff_iff]; simp; omega), rfl⟩
      · go_enter Tryd.func97, Tryd.ntmps97
        go_wp2_with fail
        refine (isEdge_any c _ h8).mono ?_
        rintro e w' ⟨rfl, rfl⟩
        rw [He.out]
        go_wp2
        go_ret
        exact ⟨congrArg (fun b => Ending.returned (.bool b)) (by unfold NameP.low; rw [He.out, Bool.eq_iff_iff]; simp; omega), rfl⟩
theorem dash_any (c : Nat) (w : World) (_h8 : c < 256) :
    Calls Tryd.prog 98 #[.int .u8 (c : Int)] w fun e w' => e = .returned (.bool (NameP.dash c)) ∧ w = w' := by
  by_cases h : c = 45
  · subst h
    go_enter Tryd.func98, Tryd.ntmps98
    go_wp2
    go_ret
    exact ⟨rfl, rfl⟩
  · have hc : ((c : Int) == 45) = false := by rw [beq_eq_false_iff_ne]; omega
    have Hc := Lib.hid h; clear h
    go_enter Tryd.func98, Tryd.ntmps98
    go_wp2
    go_ret
    exact ⟨congrArg (fun b => Ending.returned (.bool b)) (by simp [NameP.dash]; exact Hc.out), rfl⟩
theorem wordIn_any (c : Nat) (w : World) (_h8 : c < 256) :
    Calls Tryd.prog 100 #[.int .u8 (c : Int)] w fun e w' => e = .returned (.bool (NameP.wordIn c)) ∧ w = w' := by
  by_cases h : c = 45
  · subst h
    go_enter Tryd.func100, Tryd.ntmps100
    go_wp2
    go_ret
    exact ⟨rfl, rfl⟩
  · have hc : ((c : Int) == 45) = false := by rw [beq_eq_false_iff_ne]; omega
    by_cases h2 : c = 95
    · subst h2
      go_enter Tryd.func100, Tryd.ntmps100
      go_wp2
      go_ret
      exact ⟨rfl, rfl⟩
    · have hc2 : ((c : Int) == 95) = false := by rw [beq_eq_false_iff_ne]; omega
      by_cases h3 : c = 46
      · subst h3
        go_enter Tryd.func100, Tryd.ntmps100
        go_wp2
        go_ret
        exact ⟨rfl, rfl⟩
      · have hc3 : ((c : Int) == 46) = false := by rw [beq_eq_false_iff_ne]; omega
        have Hc := Lib.hid (And.intro h (And.intro h2 h3)); clear h h2 h3
        go_enter Tryd.func100, Tryd.ntmps100
        go_wp2
        go_ret
        exact ⟨congrArg (fun b => Ending.returned (.bool b)) (by have := Hc.out; simp [NameP.wordIn]; exact ⟨⟨this.1, this.2.1⟩, this.2.2⟩), rfl⟩
end Go.Proofs.YtkmonmdnmpbadaaDoor
