/- Texts of ours joined: AuditBackWalk. -/
import Derived.Laws.StructEq
import Derived.Test.YtlbolbkikkiifaaDoorMk2
set_option linter.unusedVariables false
set_option linter.unusedSimpArgs false
/- The law AuditBack. -/
namespace Go.Proofs.YtlbolbkikkiifaaDoor
open Go.RowKit
open JP (Bs)

theorem AuP.mem_flat {r : List Bs} {q : Bs} (h : q ∈ r) : q.length ≤ (r.flatMap fun x => (47 : UInt8) :: x).length := by
  induction r with
  | nil => cases h
  | cons p r ih =>
    rw [List.flatMap_cons, List.length_append, List.length_cons]
    rcases List.mem_cons.1 h with rfl | h
    · omega
    · have := ih h; omega
theorem AuP.join_mem (l : List Bs) : ∀ q ∈ l, q.length ≤ (Lib.join l [47]).length := by
  intro q hq
  cases l with
  | nil => cases hq
  | cons p r =>
    rw [join_flat, List.length_append]
    rcases List.mem_cons.1 hq with rfl | hq
    · omega
    · have := AuP.mem_flat hq; omega
theorem Tryd.fieldsEntry : Tryd.prog.underlying 51 = some (.struct (Tryd.prog.fieldsOf 51)) := by kernel_rfl
theorem Tryd.heldEntry : Tryd.prog.stoodInHeld 51 = false := by kernel_rfl
theorem Tryd.fieldsKey : Tryd.prog.underlying 49 = some (.struct (Tryd.prog.fieldsOf 49)) := by kernel_rfl
theorem Tryd.heldKey : Tryd.prog.stoodInHeld 49 = false := by kernel_rfl
theorem Tryd.sizeKey : (Tryd.prog.info? 49).map (·.size) = some 3 := by kernel_rfl
theorem run_eqEntry (a b c d nm : ByteArray) (n m : Int) (w : World) : (binOp .eql 51 (.agg #[.string a, .string b, .string c, .string d, .string nm, .int .i64 n, .int .i64 m]) (.agg #[.string a, .string b, .string c, .string d, .string nm, .int .i64 n, .int .i64 m])).run Tryd.prog w = .ok (.bool true) w := by
  rw [run_eql_struct, run_equalIn_agg w 9999 _ _ _ Tryd.fieldsEntry Tryd.heldEntry]
  simp [Op.eqFields, Program.fieldsOf, Tryd.underlying51]
  go_simp
theorem slash_none (w : World) (hE : Env w) : Calls Tryd.prog 18 #[.string ⟨#[47]⟩] w fun e w' => e = .returned (.tuple #[.agg #[.string ⟨#[]⟩, .string ⟨#[]⟩, .string ⟨#[]⟩, .string ⟨#[]⟩, .string ⟨#[]⟩, .int .i64 0, .int .i64 0], .int .i64 16]) ∧ Below w.heap.size w w' := by
  have h := parse_any ⟨#[47]⟩ w (by decide) hE
  have e : AuP.parseP (⟨#[47]⟩ : ByteArray).data.toList = none := AuP.slash
  rw [e] at h
  exact h
set_option maxRecDepth 100000 in
set_option maxHeartbeats 6400000 in
theorem auditBack_walk (cs : Array Value) (x : GEntry) (s : ByteArray) (w : World) (st : EntryR w cs.toList x) (hbulk : entryB x + (s.data.toList.length + 1) ≤ 1048576) (hE : Env w) :
    Calls Tryd.prog 4 #[.agg cs, .string s] w fun e w' => e = .returned (.bool true) ∧ Below w.heap.size w w' := by
  obtain ⟨hcs, wf1, wf2⟩ := st
  obtain ⟨a, b, ⟨c, d, nm⟩, n, m⟩ := x
  dsimp only at hcs wf1 wf2
  obtain rfl : cs = #[.string a, .string b, .string c, .string d, .string nm, .int .i64 n, .int .i64 m] := Array.toList_inj.1 hcs
  have hs : s.size ≤ 1048576 := by rw [list_size s] at hbulk; omega
  have hx : a.size ≤ 1048576 ∧ b.size ≤ 1048576 ∧ c.size ≤ 1048576 ∧ d.size ≤ 1048576 ∧ nm.size ≤ 1048576 := by unfold entryB keyB at hbulk; dsimp only at hbulk; omega
  obtain ⟨sa, sb, sc, sd, sn⟩ := hx
  have n1 : -9223372036854775808 ≤ n ∧ n ≤ 9223372036854775807 := by simp [Lit.wf] at wf1; exact wf1
  have m1 : -9223372036854775808 ≤ m ∧ m ≤ 9223372036854775807 := by simp [Lit.wf] at wf2; exact wf2
  have hlen := line_len ⟨a, b, ⟨c, d, nm⟩, n, m⟩ ⟨by show a.size ≤ _; omega, by show b.size ≤ _; omega, by show c.size ≤ _; omega, by show d.size ≤ _; omega, by show nm.size ≤ _; omega⟩ n1.1 n1.2 m1.1 m1.2
  dsimp only at hlen
  have hTle : (AuP.lineT ⟨a, b, ⟨c, d, nm⟩, n, m⟩).length ≤ 8388608 := by
    unfold AuP.lineT
    split
    · omega
    · simp
  obtain ⟨W, hW⟩ : ∃ W, W = w.alloc (.cells #[.string a, .string b, .string c, .string d, .string nm, .int .i64 n, .int .i64 m] 51) := ⟨_, rfl⟩
  have b1 : W.heap[w.heap.size]? = some (.cells #[.string a, .string b, .string c, .string d, .string nm, .int .i64 n, .int .i64 m] 51 (0, 0)) := by rw [hW]; exact heap_alloc_new w _
  have hb1 : Below w.heap.size w W := by rw [hW]; exact (Below.refl _ w).alloc (Nat.le_refl _) _
  obtain ⟨g, hg⟩ : ∃ g, g = w.heap.size := ⟨_, rfl⟩
  rw [← hg] at b1
  have hlt : g < W.heap.size := block_lt b1
  have hgs : w.heap.size ≤ W.heap.size := hb1.size
  have HEn := Lib.hid (fun (w' : World) (h : Below W.heap.size W w') => (hE.below (hb1.trans (h.mono hgs)) : Env w'))
  have HB0 : Hid (Below W.heap.size W W) := Lib.hid (Below.refl _ _)
  have HB1 := Lib.hid hb1
  have HL := Lib.hid (line_any a b c d nm n m W (by omega) (by omega) (by omega) (by omega) (by omega) n1.1 n1.2 m1.1 m1.2 (HEn.out W (Below.refl _ _)).1)
  have HS := Lib.hid (fun (w' : World) (h : Below W.heap.size W w') => slash_none w' (HEn.out w' h))
  have HP := Lib.hid (fun (w' : World) (h : Below W.heap.size W w') => parse_any s w' (by omega) (HEn.out w' h))
  obtain ⟨E0, hE0⟩ : ∃ E, AuP.entryE ⟨a, b, ⟨c, d, nm⟩, n, m⟩ = E := ⟨_, rfl⟩
  obtain ⟨T0, hT0⟩ : ∃ E, AuP.lineT ⟨a, b, ⟨c, d, nm⟩, n, m⟩ = E := ⟨_, rfl⟩
  have HP2 := Lib.hid (fun (w' : World) (h : Below W.heap.size W w') => parse_any (mkB T0) w' (by rw [mkB_size, ← hT0]; omega) (HEn.out w' h))
  rw [mkB_list] at HP2
  have hback : E0 = 0 → AuP.parseP T0 = some ⟨a, b, ⟨c, d, nm⟩, n, m⟩ := fun h => by rw [← hT0]; exact AuP.back (by rw [hE0]; exact h)
  have hno : E0 ≠ 0 → T0 = [] := fun h => by rw [← hT0]; unfold AuP.lineT; rw [if_neg (by rw [hE0]; exact h)]
  rw [hE0, hT0] at HL
  have hsz : ∀ y, AuP.parseP s.data.toList = some y → AuP.entryE y = 0 ∧ AuP.lineT y = s.data.toList := fun y h => AuP.one h
  have hok : ∀ y, AuP.parseP s.data.toList = some y → okEntry y ∧ (-9223372036854775808 ≤ y.what ∧ y.what ≤ 9223372036854775807) ∧ (-9223372036854775808 ≤ y.rev ∧ y.rev ≤ 9223372036854775807) := fun y h => by
    obtain ⟨h1, h2⟩ := AuP.one h
    obtain ⟨_, h3, h4, h5, h6⟩ := AuP.entry_parts h1
    refine ⟨?_, by omega, by omega⟩
    have h7 : s.data.toList = Lib.join (AuP.parts y) [47] := by rw [← h2]; unfold AuP.lineT; rw [if_pos h1]
    have h8 := AuP.join_mem (AuP.parts y)
    rw [← h7, list_size] at h8
    unfold AuP.parts at h8
    have k0 := h8 y.who.data.toList (by simp)
    rw [list_size] at k0
    have k1 := h8 y.verb.data.toList (by simp)
    rw [list_size] at k1
    have k2 := h8 y.ekey.kind.data.toList (by simp)
    rw [list_size] at k2
    have k3 := h8 y.ekey.space.data.toList (by simp)
    rw [list_size] at k3
    have k4 := h8 y.ekey.name.data.toList (by simp)
    rw [list_size] at k4
    exact ⟨by omega, by omega, by omega, by omega, by omega⟩
  obtain ⟨R, hR⟩ : ∃ R, AuP.parseP s.data.toList = R := ⟨_, rfl⟩
  rw [hR] at HP hsz hok
  have Hback := Lib.hid hback
  have Hno := Lib.hid hno
  have Hsz := Lib.hid hsz
  have Hok := Lib.hid hok
  have he0 := run_eqEntry a b c d nm n m
  have cc := fun i => cell_block b1 i
  have HL2 : Hid (∀ (y : GEntry) (w' : World), R = some y → Below W.heap.size W w' → Calls Tryd.prog 17 #[.agg (entryV y)] w' fun e w'' => e = .returned (.tuple #[.string s, .int .i64 0]) ∧ Below w'.heap.size w' w'') := Lib.hid fun y w' hy hb => by
    obtain ⟨⟨k1, k2, k3, k4, k5⟩, k6, k7⟩ := Hok.out y hy
    obtain ⟨k8, k9⟩ := Hsz.out y hy
    have h := line_any y.who y.verb y.ekey.kind y.ekey.space y.ekey.name y.what y.rev w' k1 k2 k3 k4 k5 k6.1 k6.2 k7.1 k7.2 (HEn.out w' hb).1
    have e1 : (⟨y.who, y.verb, ⟨y.ekey.kind, y.ekey.space, y.ekey.name⟩, y.what, y.rev⟩ : GEntry) = y := rfl
    rw [e1, k8, k9, mkB_of] at h
    exact h
  clear hlen hTle hE0 hT0 hback hno hsz hok hR hs sa sb sc sd sn n1 m1 wf1 wf2 hcs hE hbulk hb1 Hsz Hok
  go_enter Tryd.func4, Tryd.ntmps4
  go_upto_region 1 with fail
  rw [← hW, ← hg]
  clear hW hg
  go_wp2_with fail
  refine HL.out.mono ?_
  rintro E w1 ⟨rfl, hb⟩
  have HB2 := Lib.hid hb
  clear hb HL
  go_wp2_with fail
  refine (HS.out w1 HB2.out).mono ?_
  rintro E w2 ⟨rfl, hb⟩
  have HB3 := Lib.hid (HB2.out.trans (hb.mono HB2.out.size))
  clear hb HS
  obtain ⟨w3, hw3⟩ : ∃ w3, w3 = w2.alloc (.cells #[.string ⟨#[]⟩, .string ⟨#[]⟩, .string ⟨#[]⟩, .string ⟨#[]⟩, .string ⟨#[]⟩, .int .i64 0, .int .i64 0] 51) := ⟨_, rfl⟩
  have HB4 : Hid (Below W.heap.size W w3) := Lib.hid (by rw [hw3]; exact HB3.out.alloc HB3.out.size _)
  go_upto_region 3 with fail
  rw [← hw3]
  clear hw3
  go_wp2_with fail
  refine (HP.out w3 HB4.out).mono ?_
  cases R with
  | none =>
    rintro E w4 ⟨rfl, hb⟩
    have HB5 := Lib.hid (HB4.out.trans (hb.mono HB4.out.size))
    clear hb HP HL2
    unfold parseV
    obtain ⟨w5, hw5⟩ : ∃ w5, w5 = w4.alloc (.cells #[.string ⟨#[]⟩, .string ⟨#[]⟩, .string ⟨#[]⟩, .string ⟨#[]⟩, .string ⟨#[]⟩, .int .i64 0, .int .i64 0] 51) := ⟨_, rfl⟩
    have HB6 : Hid (Below W.heap.size W w5) := Lib.hid (by rw [hw5]; exact HB5.out.alloc HB5.out.size _)
    have b5 : w5.heap[w4.heap.size]? = some (.cells #[.string ⟨#[]⟩, .string ⟨#[]⟩, .string ⟨#[]⟩, .string ⟨#[]⟩, .string ⟨#[]⟩, .int .i64 0, .int .i64 0] 51 (0, 0)) := by rw [hw5]; exact heap_alloc_new w4 _
    obtain ⟨g5, hg5⟩ : ∃ g5, g5 = w4.heap.size := ⟨_, rfl⟩
    rw [← hg5] at b5
    go_upto_region 6 with fail
    rw [← hw5, ← hg5]
    clear hw5 hg5
    clear b5
    by_cases hE : E0 = 0
    · subst hE
      have HPT := Lib.hid (HP2.out w5 HB6.out)
      rw [Hback.out rfl] at HPT
      unfold parseV entryV at HPT
      dsimp only at HPT
      clear HP2 Hback Hno
      go_wp2_with fail
      refine HPT.out.mono ?_
      rintro E w8 ⟨rfl, hb⟩
      have HB8 := Lib.hid (HB6.out.trans (hb.mono HB6.out.size))
      clear hb HPT
      have c8 := fun i => (HB8.out.cell (p := ⟨g, i, none⟩) hlt).trans (cc i)
      have hg8 : g < w8.heap.size := by have := HB8.out.size; omega
      clear cc
      go_wp2_with fail
      go_ret
      exact ⟨rfl, HB1.out.trans ((HB8.out.alloc HB8.out.size _).mono hgs)⟩
    · have q9 : (E0 != 0) = true := by rw [bne_iff_ne]; exact hE
      obtain rfl := Hno.out hE
      have t0 : (mkB []).toList.isEmpty = true := by rw [isEmpty_iff, mkB_list]; rfl
      have HF := Lib.hid (HB1.out.trans (HB6.out.mono hgs))
      clear hE HP2 Hback Hno
      go_wp2_with fail
      go_ret
      exact ⟨by first | rfl | (rw [t0] <;> rfl), HF.out⟩
  | some y =>
    rintro E w4 ⟨rfl, hb⟩
    have HB5 := Lib.hid (HB4.out.trans (hb.mono HB4.out.size))
    have HLy := Lib.hid (fun (w' : World) (h : Below W.heap.size W w') => HL2.out y w' rfl h)
    clear hb HP HL2
    unfold parseV entryV
    unfold entryV at HLy
    dsimp only at HLy ⊢
    obtain ⟨w5, hw5⟩ : ∃ w5, w5 = w4.alloc (.cells #[.string y.who, .string y.verb, .string y.ekey.kind, .string y.ekey.space, .string y.ekey.name, .int .i64 y.what, .int .i64 y.rev] 51) := ⟨_, rfl⟩
    have HB6 : Hid (Below W.heap.size W w5) := Lib.hid (by rw [hw5]; exact HB5.out.alloc HB5.out.size _)
    have b5 : w5.heap[w4.heap.size]? = some (.cells #[.string y.who, .string y.verb, .string y.ekey.kind, .string y.ekey.space, .string y.ekey.name, .int .i64 y.what, .int .i64 y.rev] 51 (0, 0)) := by rw [hw5]; exact heap_alloc_new w4 _
    obtain ⟨g5, hg5⟩ : ∃ g5, g5 = w4.heap.size := ⟨_, rfl⟩
    rw [← hg5] at b5
    go_upto_region 6 with fail
    rw [← hw5, ← hg5]
    clear hw5 hg5
    have c5 := fun i => cell_block b5 i
    have t1 : (s.toList == s.toList) = true := by simp
    go_wp2_with fail
    refine (HLy.out w5 HB6.out).mono ?_
    rintro E w6 ⟨rfl, hb⟩
    have HB7 := Lib.hid (HB6.out.trans (hb.mono HB6.out.size))
    clear hb HLy c5 b5
    by_cases hE : E0 = 0
    · subst hE
      have HPT := Lib.hid (HP2.out w6 HB7.out)
      rw [Hback.out rfl] at HPT
      unfold parseV entryV at HPT
      dsimp only at HPT
      clear HP2 Hback Hno
      go_wp2_with fail
      refine HPT.out.mono ?_
      rintro E w8 ⟨rfl, hb⟩
      have HB8 := Lib.hid (HB7.out.trans (hb.mono HB7.out.size))
      clear hb HPT
      have c8 := fun i => (HB8.out.cell (p := ⟨g, i, none⟩) hlt).trans (cc i)
      have hg8 : g < w8.heap.size := by have := HB8.out.size; omega
      clear cc
      go_wp2_with fail
      go_ret
      exact ⟨rfl, HB1.out.trans ((HB8.out.alloc HB8.out.size _).mono hgs)⟩
    · have q9 : (E0 != 0) = true := by rw [bne_iff_ne]; exact hE
      obtain rfl := Hno.out hE
      have t0 : (mkB []).toList.isEmpty = true := by rw [isEmpty_iff, mkB_list]; rfl
      have HF := Lib.hid (HB1.out.trans (HB7.out.mono hgs))
      clear hE HP2 Hback Hno
      go_wp2_with fail
      go_ret
      exact ⟨by first | rfl | (rw [t0] <;> rfl), HF.out⟩
end Go.Proofs.YtlbolbkikkiifaaDoor
