/- store.Copy: an object that shares nothing: its contract. -/
import Derived.Test.YteadfpbkhledlaaCloneWalk
import Derived.Test.YteadfpbkhledlaaRel
namespace Go.Proofs.Yteadfpbkhledlaa
open Go.RowKit

/-- an object as a value -/
def objV (k : GKey) (vl vo vh : Value) (e : Bool) (u : ByteArray) (r : Int) (d : ByteArray) : Value :=
  .agg #[.string k.kind, .string k.space, .string k.name, vl, vo, vh, .bool e, .string u, .int .i64 r, .string d]

set_option maxRecDepth 100000 in
set_option maxHeartbeats 800000 in
theorem storeCopy_any (k : GKey) (vl vo vh : Value) (e : Bool) (u : ByteArray) (r : Int) (d : ByteArray) (labels : List GLabel) (owners holds : List ByteArray) (w : World)
    (hl : RowAt LabelR 2 w vl labels) (ho : StrAt w vo owners) (hh : StrAt w vh holds) (bl : labels.length ≤ 1073741824) (bo : owners.length ≤ 1073741824) (bh : holds.length ≤ 1073741824) :
    Calls Try.prog 60 #[objV k vl vo vh e u r d] w fun E w' => ∃ vl' vo' vh', E = .returned (objV k vl' vo' vh' e u r d) ∧
      OwnAt LabelR 2 w' w.heap.size 139 vl' labels ∧ OwnAt RString 1 w' w.heap.size 9 vo' owners ∧ OwnAt RString 1 w' w.heap.size 9 vh' holds ∧ (∀ g, vh'.ownBlock = some g → vo'.ownBlock ≠ some g) ∧ Below w.heap.size w w' := by
  unfold objV
  have Hl := Lib.hid hl
  have Ho := Lib.hid ho
  have Hh := Lib.hid hh
  clear hl ho hh
  go_enter Try.func60, Try.ntmps60
  go_wp2_with fail
  have hWb : Below w.heap.size w ((w.alloc (.cells #[.string k.kind, .string k.space, .string k.name, vl, vo, vh, .bool e, .string u, .int .i64 r, .string d] 52)).alloc (.cells #[.string { data := #[] }, .string { data := #[] }, .string { data := #[] }, .slice none 0 0, .slice none 0 0, .slice none 0 0, .bool false, .string { data := #[] }, .int .i64 0, .string { data := #[] }] 52)) :=
    ((Below.refl _ _).alloc (Nat.le_refl _) _).alloc (by simp) _
  generalize hW : World.alloc (World.alloc _ _) _ = W at hWb
  have hWs : W.heap.size = w.heap.size + 2 := by rw [← hW]; simp
  have c0 : W.heap[w.heap.size]? = some (.cells #[.string k.kind, .string k.space, .string k.name, vl, vo, vh, .bool e, .string u, .int .i64 r, .string d] 52 (0, 0)) := by rw [← hW]; exact heap_alloc_old (heap_alloc_at rfl)
  have c1 : W.heap[w.heap.size + 1]? = some (.cells #[.string { data := #[] }, .string { data := #[] }, .string { data := #[] }, .slice none 0 0, .slice none 0 0, .slice none 0 0, .bool false, .string { data := #[] }, .int .i64 0, .string { data := #[] }] 52 (0, 0)) := by rw [← hW]; exact heap_alloc_at (by simp)
  clear hW
  refine wp_region_relB 10 (fun i u w' => match i with
    | 0 => u 0 = .pointer (some ⟨w.heap.size, 3, none⟩) | 1 => u 1 = vl | 2 => OwnAt LabelR 2 w' (w.heap.size + 2) 139 (u 2) labels
    | 3 => u 3 = .pointer (some ⟨w.heap.size, 4, none⟩) | 4 => u 4 = vo | 5 => OwnAt RString 1 w' (w.heap.size + 2) 9 (u 5) owners
    | 6 => u 6 = .pointer (some ⟨w.heap.size, 5, none⟩) | 7 => u 7 = vh | 8 => OwnAt RString 1 w' (w.heap.size + 2) 9 (u 8) holds ∧ ∀ g, (u 8).ownBlock = some g → (u 5).ownBlock ≠ some g
    | 9 => u 9 = .pointer (some ⟨w.heap.size, 3, none⟩) | _ => True)
    (fun | 1 => [0] | 2 => [1] | 4 => [3] | 5 => [4] | 7 => [6] | 8 => [7, 5] | _ => []) (by kernel_rfl) (by kernel_rfl) ?_ ⟨?_, ?_, ?_, ?_, ?_, ?_, ?_, ?_, ?_, ?_, trivial⟩ ?_
  · intro j v w1 w2 hb h
    match j, h with
    | 0, h => exact h
    | 1, h => exact h
    | 2, h => exact OwnAt.below stays_label h hb
    | 3, h => exact h
    | 4, h => exact h
    | 5, h => exact OwnAt.below stays_string h hb
    | 6, h => exact h
    | 7, h => exact h
    | 8, h => exact ⟨OwnAt.below stays_string h.1 hb, h.2⟩
    | 9, h => exact h
    | _ + 10, h => trivial
  · intro x w' hb hd
    refine owes_here (.pointer (some ⟨w.heap.size, 3, none⟩)) (by rfl) ?_ rfl
    simp only [putAll, List.take_succ_cons, List.take_zero]
    go_simp
  · intro x w' hb hd
    have h0 : x 0 = .pointer (some ⟨w.heap.size, 3, none⟩) := hd 0 (by simp)
    have d0 := (hb.block w.heap.size (by show w.heap.size < W.heap.size; omega)).trans c0
    refine owes_here vl (by rfl) ?_ rfl
    simp only [putAll, List.take_succ_cons, List.take_zero]
    have e3 := cell_block d0 3
    go_simp
  · intro x w' hb hd
    have h0 : x 1 = vl := hd 1 (by simp)
    have hb2 : Below w.heap.size w w' := hWb.drew.trans (hb.mono (by show w.heap.size ≤ W.heap.size; omega))
    refine owes_call 82 #[vl] (by rfl) ?_ ((cloneLabels_any _ _ w' (Hl.out.below stays_label hb2) (by omega)).mono ?_)
    · simp only [putAll, List.take_succ_cons, List.take_zero]
      go_simp
    · rintro _ w2 ⟨v2, rfl, ho, hb3⟩
      exact ⟨v2, rfl, ho.mono (by have h9 : W.heap.size ≤ w'.heap.size := hb.size; omega), hb3⟩
  · intro x w' hb hd
    refine owes_here (.pointer (some ⟨w.heap.size, 4, none⟩)) (by rfl) ?_ rfl
    simp only [putAll, List.take_succ_cons, List.take_zero]
    go_simp
  · intro x w' hb hd
    have h0 : x 3 = .pointer (some ⟨w.heap.size, 4, none⟩) := hd 3 (by simp)
    have d0 := (hb.block w.heap.size (by show w.heap.size < W.heap.size; omega)).trans c0
    refine owes_here vo (by rfl) ?_ rfl
    simp only [putAll, List.take_succ_cons, List.take_zero]
    have e3 := cell_block d0 4
    go_simp
  · intro x w' hb hd
    have h0 : x 4 = vo := hd 4 (by simp)
    have hb2 : Below w.heap.size w w' := hWb.drew.trans (hb.mono (by show w.heap.size ≤ W.heap.size; omega))
    refine owes_call 83 #[vo] (by rfl) ?_ ((cloneStrs_any _ _ w' (Ho.out.below hb2) (by omega)).mono ?_)
    · simp only [putAll, List.take_succ_cons, List.take_zero]
      go_simp
    · rintro _ w2 ⟨v2, rfl, ho, hb3⟩
      exact ⟨v2, rfl, ho.mono (by have h9 : W.heap.size ≤ w'.heap.size := hb.size; omega), hb3⟩
  · intro x w' hb hd
    refine owes_here (.pointer (some ⟨w.heap.size, 5, none⟩)) (by rfl) ?_ rfl
    simp only [putAll, List.take_succ_cons, List.take_zero]
    go_simp
  · intro x w' hb hd
    have h0 : x 6 = .pointer (some ⟨w.heap.size, 5, none⟩) := hd 6 (by simp)
    have d0 := (hb.block w.heap.size (by show w.heap.size < W.heap.size; omega)).trans c0
    refine owes_here vh (by rfl) ?_ rfl
    simp only [putAll, List.take_succ_cons, List.take_zero]
    have e3 := cell_block d0 5
    go_simp
  · intro x w' hb hd
    have h0 : x 7 = vh := hd 7 (by simp)
    have h5 : OwnAt RString 1 w' (w.heap.size + 2) 9 (x 5) owners := hd 5 (by simp)
    have hb2 : Below w.heap.size w w' := hWb.drew.trans (hb.mono (by show w.heap.size ≤ W.heap.size; omega))
    refine owes_call 83 #[vh] (by rfl) ?_ ((cloneStrs_any _ _ w' (Hh.out.below hb2) (by omega)).mono ?_)
    · simp only [putAll, List.take_succ_cons, List.take_zero]
      go_simp
    · rintro _ w2 ⟨v2, rfl, ho, hb3⟩
      exact ⟨v2, rfl, ⟨ho.mono (by have h9 : W.heap.size ≤ w'.heap.size := hb.size; omega), fun g hg h5g => absurd (h5.at h5g).2.1 (by have := (ho.at hg).1; omega)⟩, hb3⟩
  · intro x w' hb hd
    refine owes_here (.pointer (some ⟨w.heap.size, 3, none⟩)) (by rfl) ?_ rfl
    simp only [putAll, List.take_succ_cons, List.take_zero]
    go_simp
  · intro x w' hb hR
    have h2 : OwnAt LabelR 2 w' (w.heap.size + 2) 139 (x 2) labels := hR 2 (by omega)
    have h5 : OwnAt RString 1 w' (w.heap.size + 2) 9 (x 5) owners := hR 5 (by omega)
    obtain ⟨h8, h85⟩ : OwnAt RString 1 w' (w.heap.size + 2) 9 (x 8) holds ∧ ∀ g, (x 8).ownBlock = some g → (x 5).ownBlock ≠ some g := hR 8 (by omega)
    have h9 : x 9 = .pointer (some ⟨w.heap.size, 3, none⟩) := hR 9 (by omega)
    have d0 := (hb.block w.heap.size (by show w.heap.size < W.heap.size; omega)).trans c0
    have d1 := (hb.block (w.heap.size + 1) (by show w.heap.size + 1 < W.heap.size; omega)).trans c1
    have hb2 : Below w.heap.size w w' := hWb.drew.trans (hb.mono (by show w.heap.size ≤ W.heap.size; omega))
    obtain ⟨a2, q2, e2, _, _⟩ := h2.row.len
    obtain ⟨a5, q5, e5, _, _⟩ := h5.row.len
    obtain ⟨a8, q8, e8, _, _⟩ := h8.row.len
    rw [e2] at h2
    rw [e5] at h5
    rw [e8] at h8
    rw [e8, e5] at h85
    have H85 := Lib.hid h85
    have H2 := Lib.hid h2
    have H5 := Lib.hid h5
    have H8 := Lib.hid h8
    have Hd0 := Lib.hid d0
    have Hd1 := Lib.hid d1
    clear hR h2 h5 h8 h85 hb d0 d1 c0 c1
    have f0 : w'.cell? ⟨w.heap.size, 0, none⟩ = some (.string k.kind) := cell_block Hd0.out 0
    have f1 : w'.cell? ⟨w.heap.size, 1, none⟩ = some (.string k.space) := cell_block Hd0.out 1
    have f2 : w'.cell? ⟨w.heap.size, 2, none⟩ = some (.string k.name) := cell_block Hd0.out 2
    have f3 : w'.cell? ⟨w.heap.size, 3, none⟩ = some (vl) := cell_block Hd0.out 3
    have f4 : w'.cell? ⟨w.heap.size, 4, none⟩ = some (vo) := cell_block Hd0.out 4
    have f5 : w'.cell? ⟨w.heap.size, 5, none⟩ = some (vh) := cell_block Hd0.out 5
    have f6 : w'.cell? ⟨w.heap.size, 6, none⟩ = some (.bool e) := cell_block Hd0.out 6
    have f7 : w'.cell? ⟨w.heap.size, 7, none⟩ = some (.string u) := cell_block Hd0.out 7
    have f8 : w'.cell? ⟨w.heap.size, 8, none⟩ = some (.int .i64 r) := cell_block Hd0.out 8
    have f9 : w'.cell? ⟨w.heap.size, 9, none⟩ = some (.string d) := cell_block Hd0.out 9
    have g3 : w'.frozen? ⟨w.heap.size, 3, none⟩ = false := free_block Hd0.out 3
    have g4 : w'.frozen? ⟨w.heap.size, 4, none⟩ = false := free_block Hd0.out 4
    have g5 : w'.frozen? ⟨w.heap.size, 5, none⟩ = false := free_block Hd0.out 5
    have pc0 : w'.cell? ⟨w.heap.size + 1, 0, none⟩ = some (.string { data := #[] }) := cell_block Hd1.out 0
    have pf0 : w'.frozen? ⟨w.heap.size + 1, 0, none⟩ = false := free_block Hd1.out 0
    have pc1 : w'.cell? ⟨w.heap.size + 1, 1, none⟩ = some (.string { data := #[] }) := cell_block Hd1.out 1
    have pf1 : w'.frozen? ⟨w.heap.size + 1, 1, none⟩ = false := free_block Hd1.out 1
    have pc2 : w'.cell? ⟨w.heap.size + 1, 2, none⟩ = some (.string { data := #[] }) := cell_block Hd1.out 2
    have pf2 : w'.frozen? ⟨w.heap.size + 1, 2, none⟩ = false := free_block Hd1.out 2
    have pc3 : w'.cell? ⟨w.heap.size + 1, 3, none⟩ = some (.slice none 0 0) := cell_block Hd1.out 3
    have pf3 : w'.frozen? ⟨w.heap.size + 1, 3, none⟩ = false := free_block Hd1.out 3
    have pc4 : w'.cell? ⟨w.heap.size + 1, 4, none⟩ = some (.slice none 0 0) := cell_block Hd1.out 4
    have pf4 : w'.frozen? ⟨w.heap.size + 1, 4, none⟩ = false := free_block Hd1.out 4
    have pc5 : w'.cell? ⟨w.heap.size + 1, 5, none⟩ = some (.slice none 0 0) := cell_block Hd1.out 5
    have pf5 : w'.frozen? ⟨w.heap.size + 1, 5, none⟩ = false := free_block Hd1.out 5
    have pc6 : w'.cell? ⟨w.heap.size + 1, 6, none⟩ = some (.bool false) := cell_block Hd1.out 6
    have pf6 : w'.frozen? ⟨w.heap.size + 1, 6, none⟩ = false := free_block Hd1.out 6
    have pc7 : w'.cell? ⟨w.heap.size + 1, 7, none⟩ = some (.string { data := #[] }) := cell_block Hd1.out 7
    have pf7 : w'.frozen? ⟨w.heap.size + 1, 7, none⟩ = false := free_block Hd1.out 7
    have pc8 : w'.cell? ⟨w.heap.size + 1, 8, none⟩ = some (.int .i64 0) := cell_block Hd1.out 8
    have pf8 : w'.frozen? ⟨w.heap.size + 1, 8, none⟩ = false := free_block Hd1.out 8
    have pc9 : w'.cell? ⟨w.heap.size + 1, 9, none⟩ = some (.string { data := #[] }) := cell_block Hd1.out 9
    have pf9 : w'.frozen? ⟨w.heap.size + 1, 9, none⟩ = false := free_block Hd1.out 9
    simp only [putAll, List.take_succ_cons, List.take_zero, List.drop_succ_cons, List.drop_zero]
    go_wp2_with fail
    refine bodyPost_ret (v := .agg #[.string k.kind, .string k.space, .string k.name, .slice a2 labels.length q2, .slice a5 owners.length q5, .slice a8 holds.length q8, .bool e, .string u, .int .i64 r, .string d]) ?_ rfl ⟨_, _, _, rfl, ?_, ?_, ?_, H85.out, ?_⟩
    · simp [results, Try.results60, go_sem, pc0, pc1, pc2, pc3, pc4, pc5, pc6, pc7, pc8, pc9]
    · have h := H2.out
      iterate 13 refine OwnAt.mono (OwnAt.setLow flat_label (B := w.heap.size + 2) ?_ (by simp) _) (by omega)
      exact h
    · have h := H5.out
      iterate 13 refine OwnAt.mono (OwnAt.setLow flat_string (B := w.heap.size + 2) ?_ (by simp) _) (by omega)
      exact h
    · have h := H8.out
      iterate 13 refine OwnAt.mono (OwnAt.setLow flat_string (B := w.heap.size + 2) ?_ (by simp) _) (by omega)
      exact h
    · iterate 13 refine Below.setCell ?_ (by simp) _
      exact hb2
end Go.Proofs.Yteadfpbkhledlaa
