/- json: (*Object).Get, Names: contracts. -/
import Derived.Test.YtaddcchpidpbfaaDoorJsonFind
import Derived.WalkSpells
namespace Go.Proofs.YtaddcchpidpbfaaDoor
open Go.RowKit
open JP (JV Bs)

theorem KeepT.drewN {T : List Nat} (w : World) (k : Nat) : KeepT T w (w.drewN k) := ⟨rfl, rfl, rfl, Nat.le_refl _, fun _ _ _ => rfl⟩
set_option maxRecDepth 100000 in
set_option maxHeartbeats 1600000 in
theorem get_any {n : Nat} {T : List Nat} {q : Nat} {d : List (Bs × JV)} {x : Bs} {w : World} (h : ObR (JvR n T) T w q d) (hl : d.length ≤ 1048576) :
    Calls Tryd.prog 57 #[.pointer (some ⟨q, 0, none⟩), .string (mkB x)] w fun e w' => ∃ v, e = .returned (.tuple #[v, .bool (JP.get x d).isSome]) ∧ (∀ y, JP.get x d = some y → JvAt n T w v y) ∧ (JP.get x d = none → v = .nilIface) ∧ ∃ k, w' = w.drewN k := by
  obtain ⟨_, hs, vn, vv, cn, cv, hrn, _, hrv, _⟩ := h
  have HS := Lib.hid (search_any (x := x) hs hrn hl)
  have hpl := JP.pos_le x d
  have HF := Lib.hid (JP.find_spec (n := x) hs)
  obtain ⟨p, hp⟩ : ∃ p, JP.pos x d = p := ⟨_, rfl⟩
  rw [hp] at HS HF hpl
  have Hrv := Lib.hid hrv
  clear hrn hrv hs hp
  rcases HF.out with ⟨y, hy, hg, _⟩ | ⟨_, hg, _⟩
  · have hlt : p < d.length := (List.getElem?_eq_some_iff.1 hy).1
    obtain ⟨b, o, c, rfl, _, _, hbs, hcell⟩ := Hrv.out.form (by rw [List.length_map]; omega) (by omega)
    rw [List.length_map] at cv
    obtain ⟨cs, _, hcc, vx, rfl, hvx⟩ := hcell p y (by rw [List.getElem?_map, hy]; rfl)
    have e0 : w.cell? ⟨b, o + p, none⟩ = some vx := by simpa using hcc 0 _ rfl
    have HX := Lib.hid hvx
    have HG := Lib.hid hg
    rw [hg] at HS
    have q1 : (0 : Int) ≤ (p : Int) := by omega
    have q2 : (p : Int) < (d.length : Int) := by omega
    clear hcell hcc hvx hg hy HF
    go_enter Tryd.func57, Tryd.ntmps57
    go_wp2_with fail
    refine HS.out.mono ?_
    rintro E w1 ⟨rfl, k, rfl⟩
    have e1 : (w.drewN k).cell? ⟨b, o + p, none⟩ = some vx := e0
    have cv1 : (w.drewN k).cell? ⟨q, 1, none⟩ = _ := cv
    go_wp2_with fail
    go_ret2
    have hg := HG.out
    refine ⟨vx, by rw [hg]; rfl, ?_, ?_, k, rfl⟩
    · intro y' h'
      rw [hg] at h'
      cases h'
      exact HX.out
    · intro h'
      rw [hg] at h'
      cases h'
  · have HG := Lib.hid hg
    rw [hg] at HS
    clear hg HF
    go_enter Tryd.func57, Tryd.ntmps57
    go_wp2_with fail
    refine HS.out.mono ?_
    rintro E w1 ⟨rfl, k, rfl⟩
    go_wp2_with fail
    go_ret2
    have hg := HG.out
    refine ⟨.nilIface, by rw [hg]; rfl, ?_, fun _ => rfl, k, rfl⟩
    intro y' h'
    rw [hg] at h'
    cases h'
end Go.Proofs.YtaddcchpidpbfaaDoor
