/- Hex and back on lists of bytes: plain laws, no program in sight. -/
namespace Go.Proofs.Yteadfpbkhledlaa.HexP
/-- a half byte's sign -/
def dig (n : Nat) : UInt8 := if n < 10 then UInt8.ofNat (48 + n) else UInt8.ofNat (87 + n)
def hexl : List UInt8 → List UInt8
  | [] => []
  | c :: r => dig (c.toNat / 16) :: dig (c.toNat % 16) :: hexl r
def val (c : Nat) : Nat := if 48 ≤ c ∧ c ≤ 57 then c - 48 else c - 87
def isDig (c : Nat) : Bool := decide (48 ≤ c ∧ c ≤ 57) || decide (97 ≤ c ∧ c ≤ 102)
def unhexl : List UInt8 → Option (List UInt8)
  | [] => some []
  | [_] => none
  | a :: b :: r => if isDig a.toNat && isDig b.toNat then (unhexl r).map (UInt8.ofNat (val a.toNat * 16 + val b.toNat) :: ·) else none

theorem dig_toNat (n : Nat) (h : n < 16) : (dig n).toNat = if n < 10 then 48 + n else 87 + n := by
  unfold dig; split <;> simp <;> omega
theorem isDig_dig (n : Nat) (h : n < 16) : isDig (dig n).toNat = true := by
  rw [dig_toNat n h]; unfold isDig; split <;> simp <;> omega
theorem val_dig (n : Nat) (h : n < 16) : val (dig n).toNat = n := by
  rw [dig_toNat n h]; unfold val; split <;> split <;> omega
theorem unhex_hex (l : List UInt8) : unhexl (hexl l) = some l := by
  induction l with
  | nil => rfl
  | cons c r ih =>
    have hc := c.toNat_lt
    have h1 : c.toNat / 16 < 16 := by omega
    have h2 : c.toNat % 16 < 16 := by omega
    simp only [hexl, unhexl, isDig_dig _ h1, isDig_dig _ h2, val_dig _ h1, val_dig _ h2, Bool.and_self, if_true, ih, Option.map_some]
    rw [show c.toNat / 16 * 16 + c.toNat % 16 = c.toNat by omega]
    simp
theorem val_lt (c : Nat) (h : isDig c = true) : val c < 16 := by
  unfold isDig at h; unfold val; simp at h; split <;> omega
theorem dig_val (c : UInt8) (h : isDig c.toNat = true) : dig (val c.toNat) = c := by
  unfold isDig at h; simp at h
  apply UInt8.toNat_inj.1
  rw [dig_toNat _ (val_lt _ (by unfold isDig; simpa using h))]
  unfold val
  split <;> split <;> omega
theorem hex_unhex : ∀ (t b : List UInt8), unhexl t = some b → hexl b = t
  | [], b, h => by simp [unhexl] at h; subst h; rfl
  | [_], b, h => by simp [unhexl] at h
  | x :: y :: r, b, h => by
    unfold unhexl at h
    split at h
    · rename_i hd
      rw [Bool.and_eq_true] at hd
      obtain ⟨l, hl, rfl⟩ := Option.map_eq_some_iff.1 h
      have ih := hex_unhex r l hl
      have v1 := val_lt _ hd.1
      have v2 := val_lt _ hd.2
      have e : (UInt8.ofNat (val x.toNat * 16 + val y.toNat)).toNat = val x.toNat * 16 + val y.toNat := by simp; omega
      simp only [hexl, e, ih]
      rw [show (val x.toNat * 16 + val y.toNat) / 16 = val x.toNat by omega, show (val x.toNat * 16 + val y.toNat) % 16 = val y.toNat by omega, dig_val _ hd.1, dig_val _ hd.2]
    · cases h
theorem hexl_length (l : List UInt8) : (hexl l).length = 2 * l.length := by
  induction l with
  | nil => rfl
  | cons c r ih => simp [hexl, ih]; omega
theorem hexl_append (l m : List UInt8) : hexl (l ++ m) = hexl l ++ hexl m := by
  induction l with
  | nil => rfl
  | cons c r ih => simp [hexl, ih]
/-- two digits and what follows -/
theorem unhexl_two (x y : UInt8) (r : List UInt8) (hx : isDig x.toNat = true) (hy : isDig y.toNat = true) (b : List UInt8) :
    (unhexl (x :: y :: r)).map (b ++ ·) = (unhexl r).map ((b ++ [UInt8.ofNat (val x.toNat * 16 + val y.toNat)]) ++ ·) := by
  simp only [unhexl, hx, hy, Bool.and_self, if_true, Option.map_map]
  congr 1
  funext z
  simp
theorem unhexl_bad (x y : UInt8) (r : List UInt8) (h : (isDig x.toNat && isDig y.toNat) = false) : unhexl (x :: y :: r) = none := by
  simp [unhexl, h]
theorem unhexl_odd : ∀ (l : List UInt8), l.length % 2 = 1 → unhexl l = none
  | [], h => by simp at h
  | [_], _ => rfl
  | x :: y :: r, h => by
    have := unhexl_odd r (by simp at h; omega)
    unfold unhexl
    rw [this]
    split <;> rfl
end Go.Proofs.Yteadfpbkhledlaa.HexP
