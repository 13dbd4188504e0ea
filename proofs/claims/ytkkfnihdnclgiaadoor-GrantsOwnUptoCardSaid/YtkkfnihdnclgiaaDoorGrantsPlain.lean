/- grants: what is checked, what is held, what is allowed, in plain words. -/
import Derived.Test.YtkkfnihdnclgiaaDoorDataGrants
import Derived.Test.YtkkfnihdnclgiaaDoorNamePlain
import Derived.Test.YtkkfnihdnclgiaaDoorSlStr
import Derived.Test.YtkkfnihdnclgiaaDoorBytes
namespace Go.Proofs.YtkkfnihdnclgiaaDoor
open Go.RowKit

/-- the first thing that is wrong -/
def says (b e : Int) : Int := if b = 0 then e else b
def firstBad : List Int → Int
  | [] => 0
  | e :: r => says e (firstBad r)
theorem says_zero (b : Int) : says b 0 = b := by unfold says; split <;> simp_all
theorem zero_says (b : Int) : says 0 b = b := by unfold says; simp
theorem says_assoc (a b c : Int) : says (says a b) c = says a (says b c) := by unfold says; by_cases h : a = 0 <;> simp [h]
theorem says_eq_zero (a b : Int) : says a b = 0 ↔ a = 0 ∧ b = 0 := by unfold says; by_cases h : a = 0 <;> simp [h]
theorem firstBad_append (l m : List Int) : firstBad (l ++ m) = says (firstBad l) (firstBad m) := by
  induction l with
  | nil => simp [firstBad, zero_says]
  | cons e r ih => simp only [List.cons_append, firstBad, ih, says_assoc]
theorem firstBad_zero (l : List Int) : firstBad l = 0 ↔ ∀ e ∈ l, e = 0 := by
  induction l with
  | nil => simp [firstBad]
  | cons e r ih => simp [firstBad, says_eq_zero, ih]
theorem firstBad_take {l : List Int} {i : Nat} {e : Int} (h : l[i]? = some e) : firstBad (l.take (i + 1)) = says (firstBad (l.take i)) e := by
  rw [List.take_add_one, h, firstBad_append]
  simp [firstBad, says_zero]
def need (b : Bool) (e : Int) : Int := if b = true then 0 else e
def starB : ByteArray := "*".toUTF8
def nameC (st : Bool) (s : ByteArray) : Int := if st = true ∧ s = starB then 0 else NameP.check s.data.toList
def namesC (st : Bool) (l : List ByteArray) : Int := firstBad (l.map (nameC st))
def spaceC (s : ByteArray) : Int := if s.size = 0 then 0 else NameP.check s.data.toList
def smallR (r : GRule) : Bool := decide (r.verbs.length ≤ 6) && (decide (r.kinds.length ≤ 6) && decide (r.names.length ≤ 6))
def fullR (r : GRule) : Bool := decide (0 < r.verbs.length) && decide (0 < r.kinds.length)
def ruleC (r : GRule) : Int := says (need (smallR r) 2) (says (need (fullR r) 1) (says (namesC true r.verbs) (says (namesC true r.kinds) (namesC false r.names))))
def rulesC (l : List GRule) : Int := says (need (decide (l.length ≤ 8)) 2) (firstBad (l.map ruleC))
def eqB (a b : ByteArray) : Bool := a.toList == b.toList
theorem eqB_iff (a b : ByteArray) : eqB a b = true ↔ a = b := ⟨fun h => toList_inj (by simpa [eqB] using h), fun h => by subst h; simp [eqB]⟩
theorem str_none {s : ByteArray} (h : s.size = 0) : s.toList = [] := by rw [ByteArray.toList_eq]; exact List.eq_nil_of_length_eq_zero (by simpa using h)
theorem str_some {s : ByteArray} (h : s.size ≠ 0) : (!s.toList.isEmpty) = true := by
  rw [ByteArray.toList_eq]
  have hl : s.data.toList.length = s.size := by simp
  cases hd : s.data.toList with | nil => rw [hd] at hl; simp at hl; omega | cons x r => rfl
theorem eqB_empty (s : ByteArray) : eqB s ByteArray.empty = decide (s.size = 0) := by
  rw [Bool.eq_iff_iff, eqB_iff, decide_eq_true_iff]
  constructor
  · intro h; rw [h]; rfl
  · intro h; exact toList_inj (by rw [str_none h, str_none (s := ByteArray.empty) rfl])
def sameRole (q r : GRole) : Bool := eqB q.space r.space && eqB q.name r.name
def sameBind (q r : GBind) : Bool := eqB q.space r.space && eqB q.name r.name
def roleC (bef : List GRole) (r : GRole) : Int := says (spaceC r.space) (says (NameP.check r.name.data.toList) (says (need (!bef.any fun q => sameRole q r) 5) (rulesC r.rules)))
def bindC (bef : List GBind) (b : GBind) : Int :=
  says (spaceC b.space) (says (namesC false [b.name, b.role]) (says (need (!bef.any fun q => sameBind q b) 5) (says (need (!eqB b.space ByteArray.empty || b.whole) 1)
    (says (need (decide (b.users.length ≤ 6) && decide (b.groups.length ≤ 6)) 2) (says (namesC false b.users) (namesC false b.groups))))))
def rolesC (l : List GRole) : List Int := l.mapIdx fun i r => roleC (l.take i) r
def bindsC (l : List GBind) : List Int := l.mapIdx fun i b => bindC (l.take i) b
def grantsC (g : GGrants) : Int := says (need (decide (g.roles.length ≤ 12) && decide (g.binds.length ≤ 12)) 2) (says (firstBad (rolesC g.roles)) (firstBad (bindsC g.binds)))
def askC (a : GAsk) : Int := says (namesC false [a.verb, a.kind]) (says (spaceC a.space) (spaceC a.name))
def shortC (s : ByteArray) : Int := says (NameP.check s.data.toList) (if 20 < s.size then 2 else 0)
def userC (u : GUser) : Int :=
  says (shortC u.name) (if 6 < u.groups.length then 2 else firstBad (u.groups.mapIdx fun i g => says (shortC g) (if Lib.containsS (u.groups.take i) g = true then 5 else 0)))
def codeC (g : GGrants) (u : GUser) (space : ByteArray) : Int := says (grantsC g) (says (userC u) (spaceC space))

def hasL (l : List ByteArray) (s : ByteArray) : Bool := Lib.containsS l s || Lib.containsS l starB
def allowsR (a : GAsk) (r : GRule) : Bool := hasL r.verbs a.verb && (hasL r.kinds a.kind && (decide (r.names.length = 0) || (!eqB a.name ByteArray.empty && Lib.containsS r.names a.name)))
def allowsL (l : List GRule) (a : GAsk) : Bool := l.any (allowsR a)
def isForB (b : GBind) (u : GUser) : Bool := Lib.containsS b.users u.name || u.groups.any fun g => Lib.containsS b.groups g
/-- is a binding one of a user in a space? -/
def bindOn (u : GUser) (space : ByteArray) (b : GBind) : Bool := isForB b u && (eqB b.space ByteArray.empty || eqB b.space space)
def fromOf (b : GBind) : ByteArray := if b.whole = true then ByteArray.empty else b.space
def rulesOf (b : GBind) (r : GRole) : List GRule := if (eqB r.space (fromOf b) && eqB r.name b.role) = true then r.rules else []
def bindRules (g : GGrants) (u : GUser) (space : ByteArray) (b : GBind) : List GRule := if bindOn u space b = true then g.roles.flatMap (rulesOf b) else []
def heldL (g : GGrants) (u : GUser) (space : ByteArray) : List GRule := g.binds.flatMap (bindRules g u space)
def mayE (g : GGrants) (u : GUser) (a : GAsk) : Int := says (codeC g u ByteArray.empty) (askC a)
def mayP (g : GGrants) (u : GUser) (a : GAsk) : Bool := decide (mayE g u a = 0) && allowsL (heldL g u a.space) a
theorem take_flatMap {α β : Type} (f : α → List β) (l : List α) {i : Nat} {x : α} (h : l[i]? = some x) : (l.take (i + 1)).flatMap f = (l.take i).flatMap f ++ f x := by
  rw [List.take_add_one, h, List.flatMap_append]
  simp
end Go.Proofs.YtkkfnihdnclgiaaDoor
