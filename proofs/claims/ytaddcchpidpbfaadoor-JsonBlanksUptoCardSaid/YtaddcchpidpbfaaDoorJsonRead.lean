/- json: Read. -/
import Derived.Test.YtaddcchpidpbfaaDoorJsonGoes2
import Derived.Test.YtaddcchpidpbfaaDoorJsonGood
namespace Go.Proofs.YtaddcchpidpbfaaDoor
open Go.RowKit
open JP (JV Bs Fr)

theorem lenL_ge : ∀ d : List JV, d.length ≤ JP.lenL d
  | [] => Nat.le_refl _
  | v :: r => by have := lenL_ge r; simp only [JP.lenL, List.length_cons]; omega
theorem lenF_ge : ∀ d : List (Bs × JV), d.length ≤ JP.lenF d
  | [] => Nat.le_refl _
  | (n, v) :: r => by have := lenF_ge r; simp only [JP.lenF, List.length_cons]; omega
theorem goes_any {g : Nat} {s : ByteArray} {r : Bs} {m : Nat} {f : Fr} {st : List Fr} {w : World} {v : Value} {y : JV} (h : RS g s r m (f :: st) (some (v, y)) w) (hs : s.size ≤ 1048576) (hi : JP.Inv 2000 (.whole y r m (f :: st))) :
    Calls Tryd.prog 47 #[.pointer (some ⟨g, 0, none⟩), v] w (OutE g s w (JP.goesP y r m f st)) := by
  obtain ⟨a, vst, fs, T, ha, rfl, hr, hc, n, hv⟩ := h
  obtain ⟨i1, _, _, _, _, i6⟩ := hi
  have hst := JP.stOK_len i6
  have hl := hc.all.len
  cases fs with
  | nil => simp at hl
  | cons f' fs =>
    rw [List.length_cons, List.length_cons] at hl
    rw [List.length_cons] at hst
    simp only [JP.wlenS, List.map_cons, List.sum_cons] at i1
    cases f with
    | lst d =>
      have := lenL_ge d
      simp only [JP.wlen] at i1
      exact goes_lst g s a m vst f' fs T d st w v y n hr hc hv ha hs (by omega) (by omega)
    | ob d nm =>
      have := lenF_ge d
      simp only [JP.wlen] at i1
      exact goes_ob g s a m vst f' fs T d nm st w v y n hr hc hv ha hs (by omega) (by omega)
theorem below_drewNj {B : Nat} {a w : World} (h : Below B a w) (n : Nat) : Below B a (w.drewN n) := ⟨h.os, h.tape, h.output, h.size, h.block⟩
/-- the reader's state ahead of a value -/
def StM (g : Nat) (s : ByteArray) (x : JP.R) (w : World) : Prop := match x with
  | .bad er => RBad g s er w
  | .more r m st => RS g s r m st none w
  | .whole _ _ _ _ => False
/-- the reader's state behind a value -/
def StW (g : Nat) (s : ByteArray) (x : JP.R) (v : Value) (b : Bool) (w : World) : Prop := match x with
  | .bad er => RBad g s er w
  | .whole y r m st => b = true ∧ RS g s r m st (some (v, y)) w
  | .more r m st => b = false ∧ RS g s r m st none w
theorem outE_st {g : Nat} {s : ByteArray} {w w' : World} {x : JP.R} {e : Ending} (h : OutE g s w x e w') : ∃ v b, e = .returned (.tuple #[v, .bool b]) ∧ Below g w w' ∧ StW g s x v b w' := by
  obtain ⟨v, b, h1, h2, h3⟩ := h
  exact ⟨v, b, h1, h2, h3⟩
def ReadOK (w : World) (v : Value) (x : JV) (w' : World) : Prop := ∃ n, JvAt n [] w' v x
theorem ret_pair {a : Value} {i j : Int} (h : i = j) : Ending.returned (.tuple #[a, .int .i64 i]) = .returned (.tuple #[a, .int .i64 j]) := by rw [h]
theorem row_empty {g : Nat} {T : List Nat} {w : World} {vst : Value} (h : Core g T w vst [] []) : ∃ p c, vst = .slice p 0 c := by
  obtain ⟨a, c, e, _⟩ := h.row.row.len
  exact ⟨a, c, e⟩
set_option maxRecDepth 100000 in
set_option maxHeartbeats 12800000 in
theorem read_any (s : ByteArray) (w : World) (hs : s.size ≤ 1048576) :
    Calls Tryd.prog 26 #[.string s] w fun e w' => ∃ v, e = .returned (.tuple #[v, .int .i64 (JP.readL s.data.toList).2]) ∧ (∃ n, JvAt n [] w' v (JP.readL s.data.toList).1) ∧ Below w.heap.size w w' := by
  have hsl : s.data.toList.length = s.size := by rw [Array.length_toList]; rfl
  obtain ⟨F, HF⟩ : ∃ F, Hid (JP.readL s.data.toList = F) := ⟨_, Lib.hid rfl⟩
  rw [HF.out]
  by_cases hlg : 2000 < s.size
  · have HF2 : Hid (F = (.nul, 2)) := Lib.hid (by rw [← HF.out]; unfold JP.readL; rw [if_pos (by omega)])
    have p1 : (2000 : Int) < (s.size : Int) := by omega
    clear HF hsl
    go_enter Tryd.func26, Tryd.ntmps26
    go_wp2_with fail
    go_ret2
    exact ⟨_, ret_pair (by rw [HF2.out]), ⟨1, by rw [HF2.out]; rfl⟩, Below.refl _ _⟩
  have p1 : ¬ (2000 : Int) < (s.size : Int) := by omega
  have HF2 : Hid (JP.fin (.more s.data.toList 0 []) = F) := Lib.hid (by rw [← HF.out]; unfold JP.readL; rw [if_neg (by omega)])
  have HI0 : Hid (JP.Inv 2000 (.more s.data.toList 0 [])) := Lib.hid ⟨by show s.data.toList.length + 0 ≤ 2000; omega, rfl, by omega, trivial⟩
  clear HF hsl hlg
  go_enter Tryd.func26, Tryd.ntmps26
  go_wp2_with fail
  go_loopg [] (JP.mu (.more s.data.toList 0 [])) (fun k wr => ∃ x : JP.R, JP.mu x ≤ k ∧ Hid (JP.fin x = F) ∧ Hid (JP.Inv 2000 x) ∧ Hid (StM w.heap.size s x wr) ∧ Hid (Below w.heap.size w wr))
  case atStart =>
    refine ⟨.more s.data.toList 0 [], Nat.le_refl _, HF2, HI0, Lib.hid ⟨0, .slice none 0 0, [], [w.heap.size], by omega, List.drop_zero, heap_alloc_new w _, ?_, trivial⟩, Lib.hid ((Below.refl _ _).alloc (Nat.le_refl _) _)⟩
    refine ⟨OwnAt.nil _, List.mem_singleton.2 rfl, fun b hb => (by cases hb), fun b hb => ?_, List.nodup_nil, trivial⟩
    rw [List.mem_singleton.1 hb]
    exact ⟨Nat.le_refl _, by rw [World.size_alloc]; omega⟩
  case round =>
    obtain ⟨x, hxk, HFx, HIx, HS, HB⟩ := hrel
    cases x with
    | whole y r m st => exact HS.out.elim
    | bad er =>
      obtain ⟨h0, a, m, vst, hr⟩ := HS.out
      have k4 : wr.cell? ⟨w.heap.size, 4, none⟩ = some (.int .i64 er) := cell_block hr 4
      have q0 : (er == 0) = false := by rw [beq_eq_false_iff_ne]; exact h0
      have HF3 : Hid (F = (.nul, er)) := Lib.hid (by rw [← HFx.out, JP.fin_bad])
      clear hr h0 HFx HIx HS
      go_wp2_with fail
      go_quiet (fail)
      go_wp2_with fail
      go_ret2
      exact ⟨_, ret_pair (by rw [HF3.out]), ⟨1, by rw [HF3.out]; rfl⟩, below_drewNj HB.out _⟩
    | more r m st =>
      have HI1 := Lib.hid (JP.begin_inv HIx.out)
      have HF1 : Hid (JP.fin (JP.beginP r m st) = F) := Lib.hid (by rw [← JP.fin_more]; exact HFx.out)
      have hmu := JP.begin_mu r m st
      obtain ⟨a, vst, fs, T, ha, rfl, hr, hc, _⟩ := HS.out
      obtain ⟨_, _, hm, hst⟩ := HIx.out
      have HC := Lib.hid (begin_any w.heap.size s a m vst fs T st wr hr hc ha hs (by omega) (JP.stOK_len hst))
      have k4 : wr.cell? ⟨w.heap.size, 4, none⟩ = some (.int .i64 0) := cell_block hr 4
      obtain ⟨x1, hx1⟩ : ∃ x1, JP.beginP (s.data.toList.drop a) m st = x1 := ⟨_, rfl⟩
      rw [hx1] at HI1 HF1 hmu HC
      obtain ⟨K, hK⟩ : ∃ K, JP.mu x1 = K := ⟨_, rfl⟩
      have hKk : K < gk := by rw [← hK]; omega
      have hK1 : JP.mu x1 ≤ K := Nat.le_of_eq hK
      clear hr hc hm hst hx1 HS HIx HFx hmu hxk hK
      go_wp2_with fail
      refine HC.out.mono ?_
      intro E w1 he
      obtain ⟨v1, b1, rfl, hb1, hs1⟩ := outE_st he
      have HS1 := Lib.hid hs1
      have HB1 := Lib.hid (HB.out.trans hb1)
      clear he hb1 hs1 HC k4 HB
      go_wp2_with fail
      go_loopg [5, 6] K (fun k2 u5 u6 wr2 => ∃ (x : JP.R) (b : Bool), u6 = .bool b ∧ JP.mu x ≤ k2 ∧ JP.mu x ≤ K ∧ Hid (JP.fin x = F) ∧ Hid (JP.Inv 2000 x) ∧ Hid (StW w.heap.size s x u5 b wr2) ∧ Hid (Below w.heap.size w wr2))
      case atStart => exact ⟨x1, b1, rfl, hK1, hK1, HF1, HI1, HS1, HB1⟩
      case round =>
        obtain ⟨x, b, rfl, hxk, hxK, HFx, HIx, HS, HB⟩ := hrel
        cases x with
        | bad er =>
          obtain ⟨h0, a, m, vst, hr⟩ := HS.out
          have k4 : wr.cell? ⟨w.heap.size, 4, none⟩ = some (.int .i64 er) := cell_block hr 4
          have q0 : (er == 0) = false := by rw [beq_eq_false_iff_ne]; exact h0
          have HS2 : Hid (StM w.heap.size s (.bad er) wr) := Lib.hid ⟨h0, a, m, vst, hr⟩
          clear hr h0 HS
          cases b
          · go_wp2_with fail
            go_roundg K
            case measure => omega
            case rel => exact ⟨.bad er, hxK, HFx, HIx, HS2, HB⟩
          · go_wp2_with fail
            go_roundg K
            case measure => omega
            case rel => exact ⟨.bad er, hxK, HFx, HIx, HS2, HB⟩
        | more r m st =>
          obtain ⟨rfl, hrs⟩ := HS.out
          have HS2 : Hid (StM w.heap.size s (.more r m st) wr) := Lib.hid hrs
          clear hrs HS
          go_wp2_with fail
          go_roundg K
          case measure => omega
          case rel => exact ⟨.more r m st, hxK, HFx, HIx, HS2, HB⟩
        | whole y r m st =>
          obtain ⟨rfl, hrs⟩ := HS.out
          have Hrs := Lib.hid hrs
          obtain ⟨a, vst, fs, T, ha, hda, hr, hc, ny, hv⟩ := hrs
          have k4 : wr.cell? ⟨w.heap.size, 4, none⟩ = some (.int .i64 0) := cell_block hr 4
          have k3 : wr.cell? ⟨w.heap.size, 3, none⟩ = some vst := cell_block hr 3
          have Hda := Lib.hid hda
          have Hr := Lib.hid hr
          have Hc := Lib.hid hc
          have Hv := Lib.hid hv
          clear hr hda hv HS
          cases st with
          | nil =>
            have hfs : fs = [] := List.eq_nil_of_length_eq_zero hc.all.len
            subst hfs
            obtain ⟨p, c, rfl⟩ := row_empty hc
            have Hc9 := Lib.hid hc
            clear hc
            have HN := Lib.hid (next_any w.heap.size s a m (.slice p 0 c) 0 wr Hr.out ha hs)
            go_wp2_with fail
            refine HN.out.mono ?_
            rintro E w2 ⟨rfl, ⟨i, hi, hdi, hr⟩, hb⟩
            have k0 : w2.cell? ⟨w.heap.size, 0, none⟩ = some (.string s) := cell_block hr 0
            have k1 : w2.cell? ⟨w.heap.size, 1, none⟩ = some (.int .i64 (i : Int)) := cell_block hr 1
            have HR2 := Lib.hid hr
            have HB2 := Lib.hid (HB.out.trans (below_but hb Hr.out.lt))
            have HV2 := Lib.hid (Hv.out.keepT (KeepT.but hb Hc9.out.gT))
            have Hdi := Lib.hid (hdi.trans (by rw [Hda.out]))
            have HFx2 := Lib.hid ((JP.fin_end y r m).symm.trans HFx.out)
            clear hr hb hdi HN k3 k4 Hr Hv HFx
            by_cases hil : i < s.size
            · have HF3 : Hid (JP.fin (.bad 3) = F) := Lib.hid (by rw [JP.fin_bad, ← HFx2.out, if_neg (fun e => by rw [← Hdi.out, drop_at hil] at e; cases e)])
              have q1 : (i : Int) < (s.size : Int) := by omega
              have HI3 : Hid (JP.Inv 2000 (.bad 3)) := Lib.hid (show (3 : Int) ≠ 0 by decide)
              clear HFx2 Hdi hil
              go_wp2_with fail
              go_quiet (fail)
              go_wp2_with fail
              refine (fail_any w.heap.size s i m (.slice p 0 c) 0 3 _ (HR2.out.drew _)).mono ?_
              rintro E w3 ⟨rfl, hr, hbt⟩
              have HS3 : Hid (StM w.heap.size s (.bad 3) w3) := Lib.hid (rbad_of (show RdAt w.heap.size s i m (.slice p 0 c) 3 w3 from hr) (by decide))
              have HB3 := Lib.hid ((below_drewNj HB2.out _).trans (below_but hbt (show w.heap.size < w2.heap.size from HR2.out.lt)))
              clear hr hbt
              go_wp2_with fail
              go_roundg K
              case measure => omega
              case rel => exact ⟨.bad 3, by show 0 ≤ K; omega, HF3, HI3, HS3, HB3⟩
            · have q1 : ¬ (i : Int) < (s.size : Int) := by omega
              have HF3 : Hid (F = (y, 0)) := Lib.hid (by rw [← HFx2.out, if_pos (by rw [← Hdi.out, drop_end (by omega)])])
              clear HFx2 Hdi hil
              go_wp2_with fail
              go_quiet (fail)
              go_wp2_with fail
              go_ret2
              exact ⟨_, ret_pair (by rw [HF3.out]), ⟨ny, by rw [HF3.out]; exact (HV2.out.fresh (T' := []) (fun b hb => by cases hb)).keepT (KeepT.drewN _ _)⟩, below_drewNj HB2.out _⟩
          | cons f st =>
            obtain ⟨sb, n, c, hvs⟩ : ∃ sb n c, vst = .slice (some ⟨sb, 0, none⟩) (n + 1) c := by
              cases fs with
              | nil => have := hc.all.len; simp at this
              | cons f' fs =>
                obtain ⟨sb, c, cur, ht⟩ := hc.top
                exact ⟨sb, _, c, ht.v⟩
            subst hvs
            have HC := Lib.hid (goes_any Hrs.out hs HIx.out)
            have HI1 := Lib.hid (JP.goes_inv HIx.out)
            have HF1 : Hid (JP.fin (JP.goesP y r m f st) = F) := Lib.hid (by rw [← JP.fin_whole]; exact HFx.out)
            have hmu := JP.goes_mu y r m f st
            obtain ⟨x1, hx1⟩ : ∃ x1, JP.goesP y r m f st = x1 := ⟨_, rfl⟩
            rw [hx1] at HI1 HF1 hmu HC
            obtain ⟨K2, hK2⟩ : ∃ K, JP.mu x1 = K := ⟨_, rfl⟩
            have hKk2 : K2 < gk := by rw [← hK2]; omega
            have hK3 : JP.mu x1 ≤ K2 := Nat.le_of_eq hK2
            have hK4 : JP.mu x1 ≤ K := by omega
            have e0 : (((n + 1 : Nat) : Int) == 0) = false := by rw [beq_eq_false_iff_ne]; omega
            have e1 : (((n : Int) + 1) == 0) = false := by rw [beq_eq_false_iff_ne]; omega
            clear hc hx1 HIx HFx hmu hxk hxK hK2 Hrs Hr Hv Hda ha
            go_wp2_with fail
            refine HC.out.mono ?_
            intro E w2 he
            obtain ⟨v1, b1, rfl, hb1, hs1⟩ := outE_st he
            have HS1 := Lib.hid hs1
            have HB1 := Lib.hid (HB.out.trans hb1)
            clear he hb1 hs1 HC k4 k3
            go_wp2_with fail
            go_roundg K2
            case measure => omega
            case rel => exact ⟨x1, b1, rfl, hK3, hK4, HF1, HI1, HS1, HB1⟩
end Go.Proofs.YtaddcchpidpbfaaDoor
