/- json: the top frame has turned. -/
import Derived.Test.YtaddcchpidpbfaaDoorJsonTop
namespace Go.Proofs.YtaddcchpidpbfaaDoor
open Go.RowKit
open JP (JV Bs Fr)

theorem lbs_tail {f : GF} {fs : List GF} (h : (lbs (f :: fs)).Nodup) : (lbs fs).Nodup := by
  unfold lbs at h ⊢
  rw [List.filterMap_cons] at h
  split at h
  · exact h
  · exact (List.nodup_cons.1 h).2
theorem lbs_cons {f : GF} {fs : List GF} (h : (lbs fs).Nodup) (hl : ∀ b, f.lv.ownBlock = some b → b ∉ lbs fs) : (lbs (f :: fs)).Nodup := by
  unfold lbs at h hl ⊢
  rw [List.filterMap_cons]
  split
  · exact h
  · rename_i b hb
    exact List.nodup_cons.2 ⟨hl b hb, h⟩
theorem lbs_head {f : GF} {fs : List GF} (h : (lbs (f :: fs)).Nodup) {b : Nat} (hb : f.lv.ownBlock = some b) : b ∉ lbs fs := by
  unfold lbs at h ⊢
  rw [List.filterMap_cons, hb] at h
  exact (List.nodup_cons.1 h).1
theorem KeepT.touch {T : List Nat} {g : Nat} {w w' : World} (h : Touch g w w') (hg : g ∈ T) : KeepT T w w' := KeepT.but (But.touch h) hg
theorem core_turn {g : Nat} {T : List Nat} {w w' : World} {vst : Value} {f f' : GF} {fs : List GF} {fr fr' : Fr} {st : List Fr} {sb c : Nat} {cur : Array Value} (h : Core g T w vst (f :: fs) (fr :: st)) (t : Top g w vst f fs.length sb c cur) {k : Nat} {u : Value} (hk : k < 3)
    (hh : w'.heap[sb]? = some (.cells (cur.setIfInBounds (fs.length * 3 + k) u) 100 (0, 0))) (ht : Touch sb w w')
    (h0 : (if k = 0 then u else f.lv) = f'.lv) (h1 : (if k = 1 then u else f.pv) = f'.pv) (h2 : (if k = 2 then u else .string f.nm) = .string f'.nm) (ho : f'.lv.oneCell' = true ∧ f'.pv.oneCell' = true)
    (hl : ∀ b, f'.lv.ownBlock = some b → b ∉ lbs fs) (hfr : FrAt (g + 1) T w' f' fr') : Core g T w' vst (f' :: fs) (fr' :: st) := by
  have hsT : sb ∈ T := h.vT sb (by rw [t.v]; rfl)
  refine ⟨row_top h t hk hh h0 h1 h2 ho, h.gT, h.vT, fun b hm => by rw [ht.size]; exact h.low b hm, lbs_cons (lbs_tail h.nd) hl, hfr, AllFr.keep (KeepT.touch ht hsT) h.all.2 fun f hf b hb => ht.other b fun e => ?_⟩
  obtain ⟨_, _, cur', hc⟩ := AllFr.own h.all.2 f hf b hb
  rw [e, t.at_] at hc
  injection hc with hc
  injection hc with _ hc
  exact absurd hc (by decide)
end Go.Proofs.YtaddcchpidpbfaaDoor
