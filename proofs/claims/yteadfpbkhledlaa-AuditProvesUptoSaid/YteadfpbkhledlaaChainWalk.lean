/- The walks of audit.Chain and of seneschalref.Copy at texts. -/
import Derived.Test.YteadfpbkhledlaaSum
import Derived.Test.YteadfpbkhledlaaHexWalk
import Derived.Test.YteadfpbkhledlaaHold
import Derived.Test.YteadfpbkhledlaaStrs
namespace Go.Proofs.Yteadfpbkhledlaa
open Go.RowKit

def chainOf (root : List UInt8) (l : List (List UInt8)) : List UInt8 := l.foldl (fun r s => HexP.hexl (sumOf (r ++ 10 :: s))) root
def bytesOf (l : List ByteArray) : List (List UInt8) := l.map (fun s => s.data.toList)

set_option maxRecDepth 100000 in
set_option maxHeartbeats 800000 in
theorem chain_any (root : ByteArray) (v : Value) (l : List ByteArray) (w : World) (hrow : StrAt w v l) (hr : root.size ≤ 1048576) (hl : ∀ x ∈ l, x.size ≤ 1048576) (hn : l.length ≤ 1073741824) :
    Calls Try.prog 23 #[.string root, v] w fun e w' => e = .returned (.string ⟨(chainOf root.data.toList (bytesOf l)).toArray⟩) ∧ Below w.heap.size w w' := by
  go_enter Try.func23, Try.ntmps23
  obtain ⟨ao, c, rfl, h1, h2⟩ := hrow.len
  have Hr := Lib.hid hrow
  have Hl := Lib.hid hl
  clear hrow hl
  go_wp2_with fail
  go_loopg [0, 9] l.length (fun n r i wr => ∃ (k : Nat) (R : ByteArray), k + n = l.length ∧ i = .int .i64 (k : Int) ∧ r = .string R ∧ R.size ≤ 1048576 ∧ Hid (chainOf R.data.toList (bytesOf (l.drop k)) = chainOf root.data.toList (bytesOf l)) ∧ Below w.heap.size w wr)
  case atStart => exact ⟨0, root, by omega, rfl, rfl, hr, rfl, Below.refl _ _⟩
  case round =>
    obtain ⟨k, R, hk, rfl, rfl, hR, HR, hb⟩ := hrel
    cases gk with
    | zero =>
      obtain rfl : k = l.length := by omega
      have hR' : R.data.toList = chainOf root.data.toList (bytesOf l) := by rw [← HR.out, List.drop_length]; rfl
      have HR' := Lib.hid (ba_eq hR')
      clear HR hR'
      go_wp2_with fail
      go_ret
      exact ⟨congrArg (fun r => Ending.returned (Value.string r)) HR'.out, hb⟩
    | succ n =>
      have hkl : k < l.length := by omega
      obtain ⟨b, o, c', hv, _, _, h3, hc⟩ := Hr.out.form (by omega)
      cases hv
      have q1 : (k : Int) < (l.length : Int) := by omega
      have q2 : (0 : Int) ≤ (k : Int) := by omega
      obtain ⟨x, hx⟩ : ∃ x, l[k]? = some x := ⟨l[k], by simp [hkl]⟩
      have Hx := Lib.hid hx
      have hxs : x.size ≤ 1048576 := Hl.out x (List.mem_of_getElem? hx)
      have e0 : wr.cell? ⟨b, o + k, none⟩ = some (.string x) := (hb.cell (p := ⟨b, o + k, none⟩) h3).trans (hc k x hx)
      clear hx hc
      have z1 : ¬ 9223372036854775807 < R.size + 1 := by omega
      have z2 : ¬ 9223372036854775807 < R.size + 1 + x.size := by omega
      go_wp2_with fail
      refine (sum_any _ _ (by rw [ByteArray.size_append, ByteArray.size_append]; show R.size + 1 + x.size ≤ _; omega)).mono ?_
      rintro e w2 ⟨rfl, hb2⟩
      go_wp2_with fail
      refine (hex_any _ _ (by rw [size_mk, sumOf_length]; omega)).mono ?_
      rintro e w3 ⟨rfl, hb3⟩
      have hb' : Below w.heap.size w w3 := hb.trans ((below_then hb2 hb3).mono hb.size)
      obtain ⟨R', HR'⟩ : ∃ R' : ByteArray, Hid (ByteArray.mk (HexP.hexl (ByteArray.mk (sumOf (R.data.toList ++ 10 :: x.data.toList)).toArray).data.toList).toArray = R') := ⟨_, Lib.hid rfl⟩
      rw [HR'.out]
      have hlen : R'.size = 64 := by rw [← HR'.out, size_mk, HexP.hexl_length]; simp [sumOf_length]
      have hstep : Hid (chainOf R'.data.toList (bytesOf (l.drop (k + 1))) = chainOf root.data.toList (bytesOf l)) := by
        show _ = _
        rw [← HR.out, ← HR'.out]
        have hd : l.drop k = x :: l.drop (k + 1) := by
          have h4 := Hx.out
          rw [List.getElem?_eq_getElem hkl] at h4
          rw [List.drop_eq_getElem_cons hkl, Option.some.inj h4]
        rw [hd]
        simp [chainOf, bytesOf]
      clear hb hb2 hb3 e0 z1 z2 HR HR'
      go_wp2_with fail
      go_roundg n
      case measure => omega
      case rel => exact ⟨k + 1, R', by omega, rfl, rfl, by omega, hstep, hb'⟩
end Go.Proofs.Yteadfpbkhledlaa
