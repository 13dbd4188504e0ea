/- quota: what is checked of limits, in plain words. -/
import Derived.Test.YtkkfnihdnclgiaaDataQuota
import Derived.Test.YtkkfnihdnclgiaaBytes
import Derived.Test.YtkkfnihdnclgiaaNamePlain
namespace Go.Proofs.Ytkkfnihdnclgiaa
open Go.RowKit

def unitsB (n : Int) : Bool := decide (0 ≤ n) && decide (n ≤ 1099511627776)
/-- what is wrong with a limit behind another one -/
def limCode (p : Option GLimit) (x : GLimit) : Int :=
  if NameP.check x.what.data.toList ≠ 0 then NameP.check x.what.data.toList
  else if (match p with | some q => !lessB q.what x.what | none => false) = true then 1
  else if unitsB x.hard = false then 1 else if unitsB x.used = false then 1 else 0
def limsCode : Option GLimit → List GLimit → Int
  | _, [] => 0
  | p, x :: r => if limCode p x ≠ 0 then limCode p x else limsCode (some x) r
def checkL (l : List GLimit) : Int := if 6 < l.length then 2 else limsCode none l
/-- the one ahead of a place -/
def ahead (l : List GLimit) (i : Nat) : Option GLimit := if i = 0 then none else l[i - 1]?
theorem limsCode_at {l : List GLimit} {i : Nat} {x : GLimit} (h : l[i]? = some x) : limsCode (ahead l i) (l.drop i) = if limCode (ahead l i) x ≠ 0 then limCode (ahead l i) x else limsCode (ahead l (i + 1)) (l.drop (i + 1)) := by
  have hi := (List.getElem?_eq_some_iff.1 h).1
  have hx := (List.getElem?_eq_some_iff.1 h).2
  rw [List.drop_eq_getElem_cons hi, hx]
  have : ahead l (i + 1) = some x := by unfold ahead; rw [if_neg (by omega), Nat.add_sub_cancel]; exact h
  rw [this]
  rfl
theorem limsCode_end (l : List GLimit) (p : Option GLimit) : limsCode p (l.drop l.length) = 0 := by rw [List.drop_length]; rfl
end Go.Proofs.Ytkkfnihdnclgiaa
