/- Texts of ours joined: SchemaCount, SchemaThru, SchemaThruW, SchemaThruStep, SchemaMkFill, SchemaFillL, SchemaPruneW. -/
import Derived.Deep.LoopGhost
import Derived.IntWalk
import Derived.Test.YtnmhjabihfhobaaGreatDoorMq10
set_option linter.unusedVariables false
set_option linter.unusedSimpArgs false
/- schema: through, with something counted on the way: plain. -/
namespace Go.Proofs.YtnmhjabihfhobaaGreatDoor
namespace Sch
open Go.RowKit
open JP (JV Bs)

section
variable {σ α β : Type}
def mapC (f : α → σ → β × σ) : List α → σ → List β × σ
 | [], c => ([], c)
 | x :: r, c => ((f x c).1 :: (mapC f r (f x c).2).1, (mapC f r (f x c).2).2)
theorem mapC_append (f : α → σ → β × σ) : ∀ (a b : List α) (c : σ), mapC f (a ++ b) c = ((mapC f a c).1 ++ (mapC f b (mapC f a c).2).1, (mapC f b (mapC f a c).2).2)
 | [], _, _ => rfl
 | x :: r, b, c => by
  rw [List.cons_append, mapC, mapC_append f r b]
  rfl
theorem mapC_len (f : α → σ → β × σ) : ∀ (a : List α) (c : σ), (mapC f a c).1.length = a.length
 | [], _ => rfl
 | x :: r, c => by rw [mapC, List.length_cons, List.length_cons, mapC_len f r]
theorem mapC_take {f : α → σ → β × σ} {l : List α} {i : Nat} {x : α} (h : l[i]? = some x) (c : σ) :
  mapC f (l.take (i + 1)) c = ((mapC f (l.take i) c).1 ++ [(f x (mapC f (l.take i) c).2).1], (f x (mapC f (l.take i) c).2).2) := by
 rw [List.take_add_one, h, Option.toList_some, mapC_append]
 rfl
def kidC (p : GPart) (rec : Int → JV → σ → JV × σ) (y : Bs × JV) (c : σ) : (Bs × JV) × σ := match fieldL p.fields (mkB y.1) with
 | some k => ((y.1, (rec k y.2 c).1), (rec k y.2 c).2)
 | none => (y, c)
theorem kidC_name (p : GPart) (rec : Int → JV → σ → JV × σ) (y : Bs × JV) (c : σ) : (kidC p rec y c).1.1 = y.1 := by
 unfold kidC; split <;> rfl
def bodyC (s : List GPart) (mk : GPart → Flds → σ → Flds × σ) (rec : GPart → JV → σ → JV × σ) (p : GPart) : JV → σ → JV × σ
 | .list l, c => (.list (mapC (rec (partAt s p.items)) l c).1, (mapC (rec (partAt s p.items)) l c).2)
 | .obj l, c => (.obj (mapC (kidC p fun k => rec (partAt s k)) (mk p l c).1 (mk p l c).2).1, (mapC (kidC p fun k => rec (partAt s k)) (mk p l c).1 (mk p l c).2).2)
 | v, c => (v, c)
def thruC (s : List GPart) (mk : GPart → Flds → σ → Flds × σ) : Nat → GPart → JV → σ → JV × σ
 | 0, _, v, c => (v, c)
 | n + 1, p, v, c => if JP.kind v ≠ p.kind then (v, c) else bodyC s mk (thruC s mk n) p v c
theorem mapC_names (p : GPart) (rec : Int → JV → σ → JV × σ) : ∀ (l : Flds) (c : σ), (mapC (kidC p rec) l c).1.map (·.1) = l.map (·.1)
 | [], _ => rfl
 | y :: r, c => by rw [mapC, List.map_cons, List.map_cons, mapC_names p rec r, kidC_name]
theorem mapC_down {G : σ → Prop} {f : α → σ → β × σ} (hf : ∀ x c, G (f x c).2 → G c) : ∀ (l : List α) (c : σ), G (mapC f l c).2 → G c
 | [], _, h => h
 | x :: r, c, h => by rw [mapC] at h; exact hf x c (mapC_down hf r _ h)
theorem mapC_downTake {G : σ → Prop} {f : α → σ → β × σ} (hf : ∀ x c, G (f x c).2 → G c) (l : List α) (i : Nat) (c : σ) (h : G (mapC f l c).2) : G (mapC f (l.take i) c).2 := by
 have e : l = l.take i ++ l.drop i := (List.take_append_drop i l).symm
 rw [e, mapC_append] at h
 exact mapC_down hf _ _ h
theorem kidC_down {G : σ → Prop} {p : GPart} {rec : Int → JV → σ → JV × σ} (hf : ∀ k x c, G (rec k x c).2 → G c) (y : Bs × JV) (c : σ) (h : G (kidC p rec y c).2) : G c := by
 unfold kidC at h
 split at h
 ·exact hf _ _ _ h
 ·exact h
theorem thruC_down {G : σ → Prop} {s : List GPart} {mk : GPart → Flds → σ → Flds × σ} (hm : ∀ p l c, G (mk p l c).2 → G c) : ∀ (n : Nat) (p : GPart) (v : JV) (c : σ), G (thruC s mk n p v c).2 → G c
 | 0, _, _, _, h => h
 | n + 1, p, v, c, h => by
  have ih := thruC_down (s := s) hm n
  rw [thruC] at h
  split at h
  ·exact h
  ·cases v with
   | list l => exact mapC_down (fun x c h => ih _ x c h) l c h
   | obj l => exact hm p l c (mapC_down (fun y c h => kidC_down (fun k x c h => ih _ x c h) y c h) _ _ h)
   | _ => exact h
theorem mapC_sizeL {pot : σ → Nat} {f : JV → σ → JV × σ} (hf : ∀ x c, JP.size (f x c).1 + pot (f x c).2 ≤ JP.size x + pot c) : ∀ (l : List JV) (c : σ), JP.sizeL (mapC f l c).1 + pot (mapC f l c).2 ≤ JP.sizeL l + pot c
 | [], _ => Nat.le_refl _
 | x :: r, c => by
  have h1 := hf x c
  have h2 := mapC_sizeL hf r (f x c).2
  rw [mapC, JP.sizeL, JP.sizeL]
  show _ + _ + pot (mapC f r (f x c).2).2 ≤ _
  omega
theorem mapC_sizeF {pot : σ → Nat} {f : Bs × JV → σ → (Bs × JV) × σ} (hf : ∀ x c, JP.size (f x c).1.2 + pot (f x c).2 ≤ JP.size x.2 + pot c) : ∀ (l : Flds) (c : σ), JP.sizeF (mapC f l c).1 + pot (mapC f l c).2 ≤ JP.sizeF l + pot c
 | [], _ => Nat.le_refl _
 | (n, x) :: r, c => by
  have h1 := hf (n, x) c
  have h2 := mapC_sizeF hf r (f (n, x) c).2
  obtain ⟨⟨m, u⟩, hm⟩ : ∃ z, (f (n, x) c).1 = z := ⟨_, rfl⟩
  rw [hm] at h1
  rw [mapC, hm, JP.sizeF, JP.sizeF]
  dsimp only at h1 ⊢
  omega
theorem kidC_size {pot : σ → Nat} {p : GPart} {rec : Int → JV → σ → JV × σ} (hf : ∀ k x c, JP.size (rec k x c).1 + pot (rec k x c).2 ≤ JP.size x + pot c) (y : Bs × JV) (c : σ) : JP.size (kidC p rec y c).1.2 + pot (kidC p rec y c).2 ≤ JP.size y.2 + pot c := by
 unfold kidC
 split
 ·exact hf _ _ _
 ·exact Nat.le_refl _
theorem thruC_size {pot : σ → Nat} {s : List GPart} {mk : GPart → Flds → σ → Flds × σ} (hm : ∀ p l c, JP.sizeF (mk p l c).1 + pot (mk p l c).2 ≤ JP.sizeF l + pot c) : ∀ (n : Nat) (p : GPart) (v : JV) (c : σ), JP.size (thruC s mk n p v c).1 + pot (thruC s mk n p v c).2 ≤ JP.size v + pot c
 | 0, _, _, _ => Nat.le_refl _
 | n + 1, p, v, c => by
  have ih := thruC_size (s := s) hm n
  rw [thruC]
  split
  ·exact Nat.le_refl _
  ·cases v with
   | list l =>
    have := mapC_sizeL (pot := pot) (fun x c => ih (partAt s p.items) x c) l c
    show JP.size (.list _) + pot (mapC _ l c).2 ≤ _
    rw [JP.size, JP.size]
    omega
   | obj l =>
    have h1 := hm p l c
    have h2 := mapC_sizeF (pot := pot) (fun y c => kidC_size (p := p) (fun k x c => ih (partAt s k) x c) y c) (mk p l c).1 (mk p l c).2
    show JP.size (.obj _) + pot (mapC _ _ _).2 ≤ _
    rw [JP.size, JP.size]
    omega
   | _ => exact Nat.le_refl _
end
def pruneC (p : GPart) (l : Flds) (u : Unit) : Flds × Unit := (pruneO p l, u)
theorem mapC_unit {α β : Type} {f : α → Unit → β × Unit} {g : α → β} (h : ∀ x u, (f x u).1 = g x) : ∀ (l : List α) (u : Unit), (mapC f l u).1 = l.map g
 | [], _ => rfl
 | x :: r, u => by rw [mapC, List.map_cons, mapC_unit h r, h]
theorem kidC_unit {p : GPart} {rec : Int → JV → Unit → JV × Unit} {rec' : Int → JV → JV} (h : ∀ k x u, (rec k x u).1 = rec' k x) (y : Bs × JV) (u : Unit) : (kidC p rec y u).1 = kidV p rec' y := by
 unfold kidC kidV
 cases fieldL p.fields (mkB y.1) with
 | some k => show (y.1, (rec k y.2 u).1) = (y.1, rec' k y.2); rw [h]
 | none => rfl
theorem thruC_prune (s : List GPart) : ∀ (n : Nat) (p : GPart) (v : JV) (u : Unit), (thruC s pruneC n p v u).1 = thruV s pruneO n p v
 | 0, _, _, _ => rfl
 | n + 1, p, v, u => by
  have ih := thruC_prune s n
  rw [thruC, thruV]
  split
  ·rfl
  ·cases v with
   | list l => exact congrArg JV.list (mapC_unit (fun x u => ih _ x u) l u)
   | obj l => exact congrArg JV.obj (mapC_unit (fun y u => kidC_unit (fun k x u => ih (partAt s k) x u) y u) _ _)
   | _ => rfl
def fillStepC (s : List GPart) (st : Flds × Nat) (f : GField) : Flds × Nat := if skips s st.1 f then st else (if st.2 + 1 ≤ 1000 then JP.put f.name.data.toList (dfl s f.part) st.1 else st.1, st.2 + 1)
def fillC (s : List GPart) (p : GPart) (l : Flds) (c : Nat) : Flds × Nat := p.fields.foldl (fillStepC s) (l, c)
theorem stepC_up (s : List GPart) (st : Flds × Nat) (f : GField) : st.2 ≤ (fillStepC s st f).2 ∧ (fillStepC s st f).2 ≤ st.2 + 1 := by
 unfold fillStepC
 split
 ·exact ⟨Nat.le_refl _, Nat.le_succ _⟩
 ·exact ⟨Nat.le_succ _, Nat.le_refl _⟩
theorem foldC_up (s : List GPart) : ∀ (F : List GField) (st : Flds × Nat), st.2 ≤ (F.foldl (fillStepC s) st).2 ∧ (F.foldl (fillStepC s) st).2 ≤ st.2 + F.length
 | [], _ => ⟨Nat.le_refl _, Nat.le_refl _⟩
 | f :: r, st => by
  have h1 := stepC_up s st f
  have h2 := foldC_up s r (fillStepC s st f)
  rw [List.foldl_cons, List.length_cons]
  omega
theorem foldC_fill (s : List GPart) : ∀ (F : List GField) (st : Flds × Nat), (F.foldl (fillStepC s) st).2 ≤ 1000 → (F.foldl (fillStepC s) st).1 = F.foldl (fillStep s) st.1
 | [], _, _ => rfl
 | f :: r, st, h => by
  rw [List.foldl_cons] at h
  have h1 := (foldC_up s r (fillStepC s st f)).1
  rw [List.foldl_cons, List.foldl_cons, foldC_fill s r _ h]
  congr 1
  unfold fillStepC at h1 ⊢
  unfold fillStep
  split
  ·rfl
  ·rename_i hs
   rw [if_neg hs] at h1
   dsimp only at h1 ⊢
   rw [if_pos]
   unfold fillStepC at h
   rw [if_neg hs] at h
   omega
theorem mapC_fill {α β : Type} {f : α → Nat → β × Nat} {g : α → β} (hu : ∀ x c, c ≤ (f x c).2) (h : ∀ x c, (f x c).2 ≤ 1000 → (f x c).1 = g x) : ∀ (l : List α) (c : Nat), (mapC f l c).2 ≤ 1000 → (mapC f l c).1 = l.map g
 | [], _, _ => rfl
 | x :: r, c, hc => by
  rw [mapC] at hc
  have h1 : (f x c).2 ≤ 1000 := mapC_down (G := fun c => c ≤ 1000) (fun x c h => Nat.le_trans (hu x c) h) r _ hc
  rw [mapC, List.map_cons, mapC_fill hu h r _ hc, h x c h1]
theorem thruC_up (s : List GPart) (n : Nat) (p : GPart) (v : JV) (c : Nat) : c ≤ (thruC s (fillC s) n p v c).2 :=
 thruC_down (G := fun d => d ≤ (thruC s (fillC s) n p v c).2) (s := s) (mk := fillC s) (fun p l c h => Nat.le_trans (foldC_up s p.fields (l, c)).1 h) n p v c (Nat.le_refl _)
theorem thruC_fill (s : List GPart) : ∀ (n : Nat) (p : GPart) (v : JV) (c : Nat), (thruC s (fillC s) n p v c).2 ≤ 1000 → (thruC s (fillC s) n p v c).1 = fillV s n p v
 | 0, _, _, _, _ => rfl
 | n + 1, p, v, c, h => by
  have ih := thruC_fill s n
  have up := thruC_up s n
  unfold fillV at ih ⊢
  rw [thruC] at h ⊢
  rw [thruV]
  split
  ·rfl
  ·rename_i hk
   rw [if_neg hk] at h
   cases v with
   | list l => exact congrArg JV.list (mapC_fill (fun x c => up _ x c) (fun x c h => ih _ x c h) l c h)
   | obj l =>
    have hk2 : ∀ (y : Bs × JV) (c : Nat), c ≤ (kidC p (fun k => thruC s (fillC s) n (partAt s k)) y c).2 := fun y c => by
     unfold kidC
     split
     ·exact up _ _ _
     ·exact Nat.le_refl _
    have h1 : (fillC s p l c).2 ≤ 1000 := mapC_down (G := fun c => c ≤ 1000) (fun y c h => Nat.le_trans (hk2 y c) h) _ _ h
    have h2 := mapC_fill (g := kidV p fun k => thruV s (fillO s) n (partAt s k)) hk2 (fun y c h => by
     unfold kidC at h ⊢
     unfold kidV
     cases hf : fieldL p.fields (mkB y.1) with
     | some k =>
      rw [hf] at h
      show (y.1, (thruC s (fillC s) n (partAt s k) y.2 c).1) = (y.1, _)
      rw [ih _ _ _ h]
     | none => rfl) (fillC s p l c).1 (fillC s p l c).2 h
    refine congrArg JV.obj (h2.trans ?_)
    have h3 : (fillC s p l c).1 = fillO s p l := foldC_fill s p.fields (l, c) h1
    rw [h3]
   | _ => rfl
def potC (c : Nat) : Nat := 200 * (1000 - min c 1000)
theorem foldC_size {s : List GPart} (hd : ∀ k, (partAt s k).deflt ≠ ByteArray.empty → JP.size (dfl s k) ≤ 200) : ∀ (F : List GField) (st : Flds × Nat), JP.sizeF (F.foldl (fillStepC s) st).1 + potC (F.foldl (fillStepC s) st).2 ≤ JP.sizeF st.1 + potC st.2
 | [], _ => Nat.le_refl _
 | f :: r, st => by
  refine Nat.le_trans (foldC_size hd r (fillStepC s st f)) ?_
  unfold fillStepC
  by_cases hs : skips s st.1 f = true
  ·rw [if_pos hs]; exact Nat.le_refl _
  ·rw [if_neg hs]
   have hs2 : hasN st.1 f = false ∧ (partAt s f.part).deflt ≠ ByteArray.empty := by
    unfold skips at hs
    simpa using hs
   have hg : JP.get f.name.data.toList st.1 = none := by
    have := hs2.1
    unfold hasN at this
    simpa using this
   have h2 := hd f.part hs2.2
   dsimp only
   by_cases hc : st.2 + 1 ≤ 1000
   ·rw [if_pos hc, JP.put_size _ _ _ hg]
    unfold potC
    omega
   ·rw [if_neg hc]
    unfold potC
    omega
theorem fillC_size {s : List GPart} (hd : ∀ k, (partAt s k).deflt ≠ ByteArray.empty → JP.size (dfl s k) ≤ 200) (p : GPart) (l : Flds) (c : Nat) : JP.sizeF (fillC s p l c).1 + potC (fillC s p l c).2 ≤ JP.sizeF l + potC c := foldC_size hd p.fields (l, c)
def aC (c : Nat) : Nat := min c 1000
theorem mapC_many {α β : Type} {f : α → Nat → β × Nat} {z : α → Nat} (hf : ∀ x c, (f x c).2 + 1608 * aC c ≤ c + 8 * z x + 1608 * aC (f x c).2) : ∀ (l : List α) (c : Nat), (mapC f l c).2 + 1608 * aC c ≤ c + 8 * (l.map z).sum + 1608 * aC (mapC f l c).2
 | [], c => by simp [mapC]
 | x :: r, c => by
  have h1 := hf x c
  have h2 := mapC_many hf r (f x c).2
  rw [mapC, List.map_cons, List.sum_cons]
  dsimp only
  omega
theorem sum_sizeL : ∀ l : List JV, (l.map JP.size).sum = JP.sizeL l
 | [] => rfl
 | x :: r => by rw [List.map_cons, List.sum_cons, JP.sizeL, sum_sizeL r]
theorem sum_sizeF : ∀ l : Flds, (l.map fun y => JP.size y.2).sum = JP.sizeF l
 | [] => rfl
 | (n, x) :: r => by rw [List.map_cons, List.sum_cons, JP.sizeF, sum_sizeF r]
theorem thruC_many {s : List GPart} (hd : ∀ k, (partAt s k).deflt ≠ ByteArray.empty → JP.size (dfl s k) ≤ 200) (hF : ∀ k, (partAt s k).fields.length ≤ 8) : ∀ (n : Nat) (k : Int) (v : JV) (c : Nat), (thruC s (fillC s) n (partAt s k) v c).2 + 1608 * aC c ≤ c + 8 * JP.size v + 1608 * aC (thruC s (fillC s) n (partAt s k) v c).2
 | 0, _, v, c => by
  have := JP.size_pos v
  rw [thruC]
  dsimp only
  omega
 | n + 1, k, v, c => by
  have ih := thruC_many hd hF n
  rw [thruC]
  split
  ·dsimp only
   omega
  ·cases v with
   | list l =>
    have := mapC_many (fun x c => ih (partAt s k).items x c) l c
    rw [sum_sizeL] at this
    show (mapC _ l c).2 + _ ≤ _ + 8 * JP.size (.list l) + 1608 * aC (mapC _ l c).2
    rw [JP.size]
    omega
   | obj l =>
    have h1 := fillC_size hd (partAt s k) l c
    have h3 := (foldC_up s (partAt s k).fields (l, c)).2
    have h4 := (foldC_up s (partAt s k).fields (l, c)).1
    have h5 := hF k
    have h2 := mapC_many (z := fun y : Bs × JV => JP.size y.2) (f := kidC (partAt s k) fun j => thruC s (fillC s) n (partAt s j)) (fun y c => by
     unfold kidC
     split
     ·exact ih _ _ _
     ·dsimp only
      omega) (fillC s (partAt s k) l c).1 (fillC s (partAt s k) l c).2
    rw [sum_sizeF] at h2
    show (mapC _ _ _).2 + _ ≤ _ + 8 * JP.size (.obj l) + 1608 * aC (mapC _ _ _).2
    rw [JP.size]
    have h6 : (fillC s (partAt s k) l c).2 ≤ c + (partAt s k).fields.length := h3
    have h7 : c ≤ (fillC s (partAt s k) l c).2 := h4
    unfold potC at h1
    unfold aC at h2 ⊢
    omega
   | _ => dsimp only [bodyC]; omega
end Sch
end Go.Proofs.YtnmhjabihfhobaaGreatDoor
/- schema.through: its contract. -/
namespace Go.Proofs.YtnmhjabihfhobaaGreatDoor
namespace Sch
open Go.RowKit
open JP (JV Bs)

def MadeO {σ : Type} (w0 : World) (G T : List Nat) (I : σ → World → Prop) (l : Flds) (c : σ) (w : World) (e : Ending) (w' : World) : Prop :=
 ∃ q' m', e = .returned (.pointer (some ⟨q', 0, none⟩)) ∧ ObR (JvR m' T) T w' q' l ∧ I c w' ∧ KeepT G w w' ∧ Below w0.heap.size w0 w'
def Makes {σ : Type} (S : List GPart) (w0 : World) (G : List Nat) (mk : GPart → Flds → σ → Flds × σ) (I : σ → World → Prop) (pot : σ → Nat) (Good : σ → Prop) (f : FuncId) (caps : Array Value) : Prop :=
 ∀ (i : Nat) (p : GPart) (b o : Nat) (fa : Option Addr) (fn fc : Nat) (na : Option Addr) (nn nc : Nat) (ea : Option Addr) (en ec : Nat) (T : List Nat) (m q : Nat) (l : Flds) (c : σ) (w : World),
  PartIn S w0 i p b o fa fn fc na nn nc ea en ec → (∀ g ∈ G, g ∈ T) → (∀ b ∈ T, b < w.heap.size) → ObR (JvR m T) T w q l → I c w → JP.sizeF l + pot c ≤ 1000000 → Good (mk p l c).2 → Below w0.heap.size w0 w →
  Calls Tryz.prog f (#[.agg #[.int .i64 p.kind, .slice fa fn fc, .slice na nn nc, .bool p.extra, .int .i64 p.items, .int .i64 p.least, .int .i64 p.most, .slice ea en ec, .string p.deflt], .pointer (some ⟨q, 0, none⟩)] ++ caps) w (MadeO w0 G T I (mk p l c).1 (mk p l c).2 w)
theorem prune_step {p : GPart} {l : Flds} (hs : JP.Srt l) {j : Nat} {y : Bs × JV} (h : l[j]? = some y) :
  ((fieldL p.fields (mkB y.1)).isSome = true ∨ p.extra = true → pruneO p (l.take (j + 1)) ++ l.drop (j + 1) = pruneO p (l.take j) ++ l.drop j) ∧
  (¬ ((fieldL p.fields (mkB y.1)).isSome = true ∨ p.extra = true) → JP.cut y.1 (pruneO p (l.take j) ++ l.drop j) = pruneO p (l.take (j + 1)) ++ l.drop (j + 1)) := by
 have hd : l.drop j = y :: l.drop (j + 1) := by
  obtain ⟨hj, hy⟩ := List.getElem?_eq_some_iff.1 h
  rw [List.drop_eq_getElem_cons hj, hy]
 have ht : l.take (j + 1) = l.take j ++ [y] := by rw [List.take_add_one, h]; rfl
 have hsplit : l = l.take j ++ y :: l.drop (j + 1) := by rw [← hd, List.take_append_drop]
 have hs2 := hs
 unfold JP.Srt at hs2
 rw [hsplit, List.pairwise_append] at hs2
 obtain ⟨_, h2, h3⟩ := hs2
 have h4 := (List.pairwise_cons.1 h2).1
 constructor
 ·intro hk
  have e : pruneO p (l.take (j + 1)) = pruneO p (l.take j) ++ [y] := by
   unfold pruneO
   rw [ht, List.filter_append]
   congr 1
   exact List.filter_cons_of_pos (by rw [Bool.or_eq_true]; exact hk)
  rw [e, hd, List.append_assoc]; rfl
 ·intro hk
  have e : pruneO p (l.take (j + 1)) = pruneO p (l.take j) := by
   unfold pruneO
   rw [ht, List.filter_append]
   have : List.filter (fun y => (fieldL p.fields (mkB y.1)).isSome || p.extra) [y] = [] := List.filter_cons_of_neg (by rw [Bool.or_eq_true]; exact hk)
   rw [this, List.append_nil]
  rw [e, hd]
  unfold JP.cut
  rw [List.filter_append]
  congr 1
  ·refine List.filter_eq_self.2 fun x hx => ?_
   have hx2 : x ∈ l.take j := (List.mem_filter.1 hx).1
   have h5 := h3 x hx2 y (List.mem_cons_self ..)
   rw [bne_iff_ne]
   exact fun e => by rw [e] at h5; exact List.lt_irrefl _ h5
  ·rw [List.filter_cons_of_neg (by simp)]
   refine List.filter_eq_self.2 fun x hx => ?_
   have h5 := h4 x hx
   rw [bne_iff_ne]
   exact fun e => by rw [e] at h5; exact List.lt_irrefl _ h5
set_option maxRecDepth 100000 in
set_option maxHeartbeats 6400000 in
theorem makes_prune {S : List GPart} {w0 : World} (hs : ∀ p ∈ S, SmallP p) : Makes S w0 [] pruneC (fun _ _ => True) (fun _ => 0) (fun _ => True) 40 #[] := by
 intro i p b0 o0 fa fn fc na nn nc ea en ec T m q l c w hp _ hT hob _ hz _ hb
 have hsm := hs p (List.mem_of_getElem? hp.at_)
 have hob0 := hob
 obtain ⟨hqT, hsrt, vn, vv, cn, cv, hrn, hon, hrv, _⟩ := hob0
 obtain ⟨an, cn2, hne, _, _⟩ := hrn.len
 obtain ⟨ln, hln⟩ : ∃ m, l.length = m := ⟨_, rfl⟩
 rw [List.length_map, hln] at hne
 subst hne
 have hlong := JP.sizeF_long l
 have hlnb : ln ≤ 1000000 := by omega
 obtain ⟨w1, hw1⟩ : ∃ w1, w1 = w.alloc (.cells #[.int .i64 p.kind, .slice fa fn fc, .slice na nn nc, .bool p.extra, .int .i64 p.items, .int .i64 p.least, .int .i64 p.most, .slice ea en ec, .string p.deflt] 73) := ⟨_, rfl⟩
 have hb1 : Below w.heap.size w w1 := by rw [hw1]; exact (Below.refl _ w).alloc (Nat.le_refl _) _
 obtain ⟨gp, hgp⟩ : ∃ gp, gp = w.heap.size := ⟨_, rfl⟩
 have hbox : w1.heap[gp]? = some (.cells #[.int .i64 p.kind, .slice fa fn fc, .slice na nn nc, .bool p.extra, .int .i64 p.items, .int .i64 p.least, .int .i64 p.most, .slice ea en ec, .string p.deflt] 73 (0, 0)) := by rw [hw1, hgp]; exact heap_alloc_new w _
 have HB1 := Lib.hid hb1
 have BX := Lib.hid hbox
 have HP := Lib.hid hp
 have HT := Lib.hid hT
 have Hln := Lib.hid hln
 have Hsrt := Lib.hid hsrt
 have HB0 := Lib.hid hb
 have Hob1 := Lib.hid (hob.keepJ (KeepT.of hb1))
 have Hfl8 := Lib.hid hsm.1
 have cn1 : w1.cell? ⟨q, 0, none⟩ = some (.slice an ln cn2) := (hb1.cell (p := ⟨q, 0, none⟩) (World.block_lt_of_cell? w _ cn)).trans cn
 have HNm := Lib.hid (names_any q _ w1 cn1)
 have hrow1 := hrn.below stays_string hb1
 have hraw : RowAt RVal 1 w1 (.slice an ln cn2) ((l.map fun x => mkB x.1).map .string) := strX_raw hrow1.strs
 have HCl := Lib.hid (cloneStr_any (.slice an ln cn2) _ w1 hraw (by rw [List.length_map, List.length_map]; omega))
 have e0 : #[Value.agg #[.int .i64 p.kind, .slice fa fn fc, .slice na nn nc, .bool p.extra, .int .i64 p.items, .int .i64 p.least, .int .i64 p.most, .slice ea en ec, .string p.deflt], .pointer (some ⟨q, 0, none⟩)] ++ #[] = #[Value.agg #[.int .i64 p.kind, .slice fa fn fc, .slice na nn nc, .bool p.extra, .int .i64 p.items, .int .i64 p.least, .int .i64 p.most, .slice ea en ec, .string p.deflt], .pointer (some ⟨q, 0, none⟩)] := rfl
 rw [e0]
 obtain ⟨RES, hRES⟩ : ∃ r, (pruneC p l c).1 = r := ⟨_, rfl⟩
 have HRES := Lib.hid hRES
 rw [hRES]
 clear e0 hs hsm hob hqT hsrt cn cv hrn hon hrv hlong hz hb hb1 hbox hp hT hln hraw hrow1 cn1 hRES
 go_enter Tryz.func40, Tryz.ntmps40
 go_upto_region 1 with fail
 rw [← hw1]
 rw [← hgp]
 clear hw1 hgp
 go_wp2_with fail
 refine HNm.out.mono ?_
 rintro E wz ⟨rfl, rfl⟩
 clear HNm
 go_wp2_with fail
 refine HCl.out.mono ?_
 rintro E w2 ⟨vc, rfl, hown, hbc⟩
 have hstr := (raw_own (L := l.map fun x => mkB x.1) hown)
 have HRn := Lib.hid hstr.row
 obtain ⟨ac, cc2, e2, _, _⟩ := hstr.row.len
 rw [List.length_map, Hln.out] at e2
 subst e2
 have HB2 := Lib.hid (HB1.out.trans (hbc.mono HB1.out.size))
 have Hob2 := Lib.hid (Hob1.out.keepJ (KeepT.of hbc))
 have BX2 := Lib.hid (below_block hbc BX.out)
 clear hown hstr hbc HCl Hob1 BX HB1
 go_wp2_with fail
 go_loopg [1, 13] ln (fun k u1 u13 wr => ∃ (j q' : Nat), j + k = ln ∧ u1 = .pointer (some ⟨q', 0, none⟩) ∧ u13 = .int .i64 (j : Int) ∧ Hid (ObR (JvR m T) T wr q' (pruneO p (l.take j) ++ l.drop j)) ∧ Hid (Below w2.heap.size w2 wr))
 case atStart => exact ⟨0, q, by omega, rfl, rfl, Lib.hid (by simpa [pruneO] using Hob2.out), Lib.hid (Below.refl _ _)⟩
 case round =>
  clear Hob2
  obtain ⟨j, q', hjk, rfl, rfl, HO, HB⟩ := hrel
  have HBr := Lib.hid (HB2.out.trans (HB.out.mono HB2.out.size))
  cases gk with
  | zero =>
   have hjl : ln = j := by omega
   subst hjl
   have q9 : ¬ (ln : Int) < (ln : Int) := by omega
   have htk : l.take ln = l := List.take_of_length_le (by rw [Hln.out]; exact Nat.le_refl _)
   have hdk : l.drop ln = [] := List.drop_of_length_le (by rw [Hln.out]; exact Nat.le_refl _)
   have HO2 : Hid (ObR (JvR m T) T wr q' RES) := Lib.hid (by have := HO.out; rw [htk, hdk, List.append_nil] at this; rw [← HRES.out]; exact this)
   clear htk hdk HO
   go_wp2_with fail
   go_ret
   exact ⟨q', m, rfl, HO2.out, trivial, KeepT.of HBr.out, HB0.out.trans (HBr.out.mono HB0.out.size)⟩
  | succ k =>
   have hjl : j < ln := by omega
   obtain ⟨y, hy⟩ : ∃ y, l[j]? = some y := ⟨l[j]'(by rw [Hln.out]; exact hjl), List.getElem?_eq_getElem _⟩
   obtain ⟨bk, ok, ck, hv1, _, _, hbs1, hcell1⟩ := HRn.out.form (by rw [List.length_map, Hln.out]; omega) (by omega)
   injection hv1 with u1 u2 u3
   subst u1
   clear u2 u3
   obtain ⟨ds1, _, hcc1, hR1⟩ := hcell1 j (mkB y.1) (by rw [List.getElem?_map, hy]; rfl)
   obtain rfl : ds1 = [.string (mkB y.1)] := hR1
   have e0 : wr.cell? ⟨bk, ok + j, none⟩ = some (.string (mkB y.1)) := (HB.out.cell (p := ⟨bk, ok + j, none⟩) hbs1).trans (by simpa using hcc1 0 _ rfl)
   have q1 : (0 : Int) ≤ (j : Int) := by omega
   have q2 : (j : Int) < (ln : Int) := by omega
   have bx := below_block HB.out BX2.out
   have HFd := Lib.hid (schField_any p.kind fa fn fc na nn nc p.extra p.items p.least p.most ea en ec p.deflt p.fields (mkB y.1) wr (HP.out.fields.keep stays_field (keeps_below (HB0.out.trans (HBr.out.mono HB0.out.size)))) Hfl8.out)
   have hps := prune_step (p := p) Hsrt.out hy
   obtain ⟨O, hO⟩ : ∃ O, fieldL p.fields (mkB y.1) = O := ⟨_, rfl⟩
   rw [hO] at HFd hps
   have Hps := Lib.hid hps
   have hLen : (pruneO p (l.take j) ++ l.drop j).length ≤ 1048575 := by
    rw [List.length_append, List.length_drop]
    have h1 : (pruneO p (l.take j)).length ≤ (l.take j).length := List.length_filter_le _ _
    rw [List.length_take] at h1
    have := Hln.out
    omega
   have HLen := Lib.hid hLen
   obtain ⟨ex, hex⟩ : ∃ b, p.extra = b := ⟨_, rfl⟩
   have Hex := Lib.hid hex
   have HTr : Hid (∀ b ∈ T, b < wr.heap.size) := Lib.hid (fun b hb => Nat.lt_of_lt_of_le (HT.out b hb) HBr.out.size)
   clear hcell1 hcc1 hy hbs1 hO hps hLen hex
   cases O with
   | some kk =>
    go_wp2_with (refine wpList_load_row (by rfl) _ _ (by rfl) gp (by rfl) _ _ _ _ bx Tryz.underlying73 rfl (by exact Tryz.sizePart) ?_)
    refine HFd.out.mono ?_
    rintro E w3 ⟨rfl, hbd⟩
    have HO3 : Hid (ObR (JvR m T) T w3 q' (pruneO p (l.take (j + 1)) ++ l.drop (j + 1))) := Lib.hid (by rw [Hps.out.1 (.inl rfl)]; exact HO.out.keepJ (KeepT.of hbd))
    have HB3 := Lib.hid (HB.out.trans (hbd.mono HB.out.size))
    clear hbd HFd e0 HO HB HBr bx
    go_wp2_with fail
    go_roundg k
    case measure => omega
    case rel => exact ⟨j + 1, q', by omega, rfl, by go_num, HO3, HB3⟩
   | none =>
    go_wp2_with (refine wpList_load_row (by rfl) _ _ (by rfl) gp (by rfl) _ _ _ _ bx Tryz.underlying73 rfl (by exact Tryz.sizePart) ?_)
    refine HFd.out.mono ?_
    rintro E w3 ⟨rfl, hbd⟩
    have HB3 := Lib.hid (HB.out.trans (hbd.mono HB.out.size))
    have HO3 := Lib.hid (HO.out.keepJ (KeepT.of hbd))
    have bx3 := below_block hbd bx
    have HT3 : Hid (∀ b ∈ T, b < w3.heap.size) := Lib.hid (fun b hb => Nat.lt_of_lt_of_le (HTr.out b hb) hbd.size)
    have cc := fun i => cell_block bx3 i
    rw [Hex.out] at cc
    clear hbd HFd e0 HO HB HBr bx bx3
    cases ex with
    | true =>
     have HO4 : Hid (ObR (JvR m T) T w3 q' (pruneO p (l.take (j + 1)) ++ l.drop (j + 1))) := Lib.hid (by rw [Hps.out.1 (.inr Hex.out)]; exact HO3.out)
     go_wp2_with fail
     go_roundg k
     case measure => omega
     case rel => exact ⟨j + 1, q', by omega, rfl, by go_num, HO4, HB3⟩
    | false =>
     have HW := Lib.hid (without_any (x := y.1) HO3.out HT3.out HLen.out)
     rw [Hps.out.2 (by rw [Hex.out]; simp)] at HW
     go_wp2_with fail
     refine HW.out.mono ?_
     rintro E w4 ⟨q4, rfl, ho4, hb4⟩
     have HO4 := Lib.hid ho4
     have HB4 := Lib.hid (HB3.out.trans (hb4.mono HB3.out.size))
     clear ho4 hb4 HW cc
     go_wp2_with fail
     go_roundg k
     case measure => omega
     case rel => exact ⟨j + 1, q4, by omega, rfl, by go_num, HO4, HB4⟩
end Sch
end Go.Proofs.YtnmhjabihfhobaaGreatDoor
/- schema.through: its contract. -/
namespace Go.Proofs.YtnmhjabihfhobaaGreatDoor
namespace Sch
open Go.RowKit
open JP (JV Bs)

theorem store_valS {w : World} {B g n c i : Nat} {e : TypeId} {xs : List Value} {v : Value} (h : OwnAt RVal 1 w B e (.slice (some ⟨g, 0, none⟩) n c) xs) (hi : i < xs.length) (hv : v.oneCell' = true) :
  ∃ w3, (storeCells ⟨g, i, none⟩ [v]).run Tryz.prog w = .ok () w3 ∧ OwnAt RVal 1 w3 B e (.slice (some ⟨g, 0, none⟩) n c) (xs.set i v) ∧ Touch g w w3 := by
 obtain ⟨css, hc1, hc2, hc3, hc4⟩ := h
 have h : OwnAt RVal 1 w B e (.slice (some ⟨g, 0, none⟩) n c) xs := ⟨css, hc1, hc2, hc3, hc4⟩
 obtain ⟨o1, o2⟩ := h.storeElem flat_val hi (cs := [v]) rfl (x := v) ⟨rfl, hv⟩
 have hle : xs.length ≤ c := by
  rcases h.form with ⟨h5, _⟩ | ⟨g', c', h5, _, _, h6, _⟩
  ·cases h5
  ·cases h5; exact h6
 have ht := h.there (o := i) (m := 1) (by omega)
 have e1 : w.setCells g (i * 1) [v] = w.setCell ⟨g, i, none⟩ v := by rw [Nat.mul_one]; rfl
 rw [e1] at o1 o2
 refine ⟨_, ?_, o1, o2⟩
 have h9 := run_storeCells_cells (P := Tryz.prog) g i [v] 0 w (fun j hj => by
  obtain rfl : j = 0 := by simpa using hj
  exact (ht 0 (by omega)).1) (fun j hj => by
  obtain rfl : j = 0 := by simpa using hj
  exact (ht 0 (by omega)).2) (fun u hu => by rw [List.mem_singleton.1 hu]; exact hv)
 rw [h9]; rfl
theorem own_keepT {α : Type} {R : Rd α} {k B : Nat} {e : TypeId} {v : Value} {l : List α} {G : List Nat} {w W : World} (hf : Flat R) (h : OwnAt R k w B e v l) (hk : KeepT G w W) (hne : ∀ q, v.ownBlock = some q → q ∉ G) : OwnAt R k W B e v l := by
 have h0 := h
 obtain ⟨css, h1, h2, h3, h4⟩ := h
 refine ⟨css, h1, h2, ⟨h3.1, ?_⟩, fun j cs y hcs hy => hf _ _ _ _ (h4 j cs y hcs hy)⟩
 rcases h3.2 with h5 | ⟨q, cap, cur, rfl, hB, hh, hr⟩
 ·exact .inl h5
 ·exact .inr ⟨q, cap, cur, rfl, hB, (hk.block q (h0.at rfl).2.1 (hne q rfl)).trans hh, hr⟩
theorem KeepT.touch {T : List Nat} {g : Nat} {w w' : World} (h : Touch g w w') (hg : g ∈ T) : KeepT T w w' := KeepT.but (But.touch h) hg
def ValsJ (m : Nat) (T : List Nat) (w : World) (xs : List Value) (l : List JV) : Prop := xs.length = l.length ∧ ∀ (t : Nat) (v : Value) (x : JV), xs[t]? = some v → l[t]? = some x → JvAt m T w v x
theorem ValsJ.keepT {m : Nat} {T : List Nat} {w w' : World} {xs : List Value} {l : List JV} (h : ValsJ m T w xs l) (hk : KeepT T w w') : ValsJ m T w' xs l := ⟨h.1, fun t v x h1 h2 => (h.2 t v x h1 h2).keepT hk⟩
theorem ValsJ.ups {m n : Nat} {T : List Nat} {w : World} {xs : List Value} {l : List JV} (h : ValsJ m T w xs l) (hm : m ≤ n) : ValsJ n T w xs l := ⟨h.1, fun t v x h1 h2 => (h.2 t v x h1 h2).ups hm⟩
theorem ValsJ.set {m : Nat} {T : List Nat} {w : World} {xs : List Value} {l : List JV} {j : Nat} {u : Value} {y : JV} (h : ValsJ m T w xs l) (hu : JvAt m T w u y) : ValsJ m T w (xs.set j u) (l.set j y) := by
 refine ⟨by rw [List.length_set, List.length_set]; exact h.1, fun t v x h1 h2 => ?_⟩
 rw [List.getElem?_set] at h1 h2
 by_cases e : j = t
 ·rw [if_pos e] at h1 h2
  split at h1
  ·split at h2
   ·cases h1; cases h2; exact hu
   ·cases h2
  ·cases h1
 ·rw [if_neg e] at h1 h2
  exact h.2 t v x h1 h2
theorem list_set {A B : List JV} {y z : JV} : (A ++ y :: B).set A.length z = A ++ z :: B := by
 induction A with
 | nil => rfl
 | cons a r ih => rw [List.cons_append, List.length_cons, List.set_cons_succ, ih]; rfl
theorem put_mid {n : Bs} {x v : JV} : ∀ {A B : Flds}, (∀ a ∈ A, a.1 < n) → JP.put n v (A ++ (n, x) :: B) = A ++ (n, v) :: B
 | [], B, _ => by rw [List.nil_append, JP.put, if_neg (List.lt_irrefl n), if_pos rfl]; rfl
 | (m, u) :: r, B, h => by
  have h1 := h (m, u) (List.mem_cons_self ..)
  rw [List.cons_append, JP.put, if_pos h1, put_mid fun a ha => h a (List.mem_cons_of_mem _ ha)]; rfl
def MadeV {σ : Type} (w0 : World) (G T : List Nat) (I : σ → World → Prop) (x : JV) (c : σ) (w : World) (e : Ending) (w' : World) : Prop :=
 ∃ u m', e = .returned u ∧ JvAt m' T w' u x ∧ I c w' ∧ KeepT G w w' ∧ Below w0.heap.size w0 w'
def ThruIn {σ : Type} (S : List GPart) (sv : Value) (w0 : World) (G : List Nat) (mk : GPart → Flds → σ → Flds × σ) (I : σ → World → Prop) (pot : σ → Nat) (Good : σ → Prop) (f : FuncId) (caps : Array Value) (n : Nat) : Prop :=
 ∀ (i m : Nat) (T : List Nat) (v : Value) (x : JV) (c : σ) (w : World), i < S.length → S.length - i ≤ n → (∀ g ∈ G, g ∈ T) → (∀ b ∈ T, b < w.heap.size) → JvAt m T w v x → I c w → JP.size x + pot c ≤ 1000000 → Good (thruC S mk n (partAt S (i : Int)) x c).2 → Below w0.heap.size w0 w →
  Calls Tryz.prog 39 #[sv, .int .i64 (i : Int), v, .func (.func f) #[] caps] w (MadeV w0 G T I (thruC S mk n (partAt S (i : Int)) x c).1 (thruC S mk n (partAt S (i : Int)) x c).2 w)
structure Keeps3 {σ : Type} (w0 : World) (G : List Nat) (mk : GPart → Flds → σ → Flds × σ) (I : σ → World → Prop) (pot : σ → Nat) (Good : σ → Prop) : Prop where
 below : ∀ c w w', I c w → Below w.heap.size w w' → I c w'
 touch : ∀ c g w w', I c w → Touch g w w' → g ∉ G → w0.heap.size ≤ g → I c w'
 low : ∀ b ∈ G, w0.heap.size ≤ b
 size : ∀ p l c, JP.sizeF (mk p l c).1 + pot (mk p l c).2 ≤ JP.sizeF l + pot c
 down : ∀ p l c, Good (mk p l c).2 → Good c
end Sch
end Go.Proofs.YtnmhjabihfhobaaGreatDoor
/- schema.through: its walk. -/
namespace Go.Proofs.YtnmhjabihfhobaaGreatDoor
namespace Sch
open Go.RowKit
open JP (JV Bs)

set_option maxRecDepth 100000 in
set_option maxHeartbeats 12800000 in
theorem through_step {σ : Type} {S : List GPart} {sa : Option Addr} {sn sc : Nat} {w0 : World} {G : List Nat} {mk : GPart → Flds → σ → Flds × σ} {I : σ → World → Prop} {pot : σ → Nat} {Good : σ → Prop} {f : FuncId} {caps : Array Value}
  (enter : ∀ (a : Array Value) (w : World), (callFunc f a).run Tryz.prog w = .ok (.enter f a) w) (hgood : GoodS S) (hlies : Lies S (.slice sa sn sc) w0) (k3 : Keeps3 w0 G mk I pot Good) (mk1 : Makes S w0 G mk I pot Good f caps)
  (n : Nat) (ih : ThruIn S (.slice sa sn sc) w0 G mk I pot Good f caps n) : ThruIn S (.slice sa sn sc) w0 G mk I pot Good f caps (n + 1) := by
 intro i m T v x c w hi hn hGT hT hv hI hz hgo hb
 obtain ⟨b, ob, p, fa, fn, fc, na, nn, nc, ea, en, ec, hsa, hsn, hp⟩ := hlies.part hi
 subst hsa
 have hgp := hgood.2.2 i p hp.at_
 have hsm := hlies.small p (List.mem_of_getElem? hp.at_)
 rw [partAt_of hp.at_] at hgo ⊢
 have ep := enter
 have hp0 : ∀ (j : Nat) (u : Value), w0.cell? ⟨b, ob + i * 9 + j, none⟩ = some u → w.cell? ⟨b, ob + i * 9 + j, none⟩ = some u := fun j u h => (hb.cell (p := ⟨b, _, none⟩) hp.blk).trans h
 have e0 : w.cell? ⟨b, ob + i * 9, none⟩ = _ := hp0 0 _ hp.c0
 have e1 := hp0 1 _ hp.c1
 have e2 := hp0 2 _ hp.c2
 have e3 := hp0 3 _ hp.c3
 have e4 := hp0 4 _ hp.c4
 have e5 := hp0 5 _ hp.c5
 have e6 := hp0 6 _ hp.c6
 have e7 := hp0 7 _ hp.c7
 have e8 := hp0 8 _ hp.c8
 have q1 : (0 : Int) ≤ (i : Int) := by omega
 have q2 : (i : Int) < (sn : Int) := by omega
 obtain ⟨w2, hw2⟩ : ∃ w2, w2 = w.alloc (.cells #[.int .i64 p.kind, .slice fa fn fc, .slice na nn nc, .bool p.extra, .int .i64 p.items, .int .i64 p.least, .int .i64 p.most, .slice ea en ec, .string p.deflt] 73) := ⟨_, rfl⟩
 obtain ⟨g9, hg9⟩ : ∃ gp, gp = w.heap.size := ⟨_, rfl⟩
 have hb2 : Below w.heap.size w w2 := by rw [hw2]; exact (Below.refl _ w).alloc (Nat.le_refl _) _
 have hbox2 : w2.heap[g9]? = some (.cells #[.int .i64 p.kind, .slice fa fn fc, .slice na nn nc, .bool p.extra, .int .i64 p.items, .int .i64 p.least, .int .i64 p.most, .slice ea en ec, .string p.deflt] 73 (0, 0)) := by rw [hw2, hg9]; exact heap_alloc_new w _
 have n9 : g9 ∉ T := fun h => by have := hT g9 h; omega
 have N9 := Lib.hid n9
 have V2 := Lib.hid (hv.below hb2)
 have I2 := Lib.hid (k3.below c w w2 hI hb2)
 have B2 := Lib.hid (hb.trans (hb2.mono hb.size))
 have B02 := Lib.hid hb2
 have BX := Lib.hid hbox2
 have h9s : g9 < w2.heap.size := blk_lt hbox2
 have HT := Lib.hid hT
 have HGT := Lib.hid hGT
 have HP := Lib.hid hp
 have HGp := Lib.hid hgp
 have Hsm := Lib.hid hsm
 have HIh := Lib.hid ih
 have HMk := Lib.hid mk1
 have HK3 := Lib.hid k3
 have Hn := Lib.hid hn
 have Hz := Lib.hid hz
 have HLies := Lib.hid hlies
 obtain ⟨RES, hRES⟩ : ∃ r, thruC S mk (n + 1) p x c = r := ⟨_, rfl⟩
 rw [hRES] at hgo ⊢
 have HRES := Lib.hid hRES
 have HGo := Lib.hid hgo
 clear hRES hi hn hGT hT hv hI hz hgo hb hgood hlies k3 mk1 ih hp hgp hsm hp0 hb2 hbox2 hsn n9 enter
 go_enter Tryz.func39, Tryz.ntmps39
 go_upto_region 2 with fail
 rw [← hw2]
 rw [← hg9]
 clear hw2 hg9 e0 e1 e2 e3 e4 e5 e6 e7 e8 q1 q2
 have c8 := fun i => cell_block BX.out i
 obtain ⟨KX, hKX⟩ : ∃ k, JP.kind x = k := ⟨_, rfl⟩
 have HKd := Lib.hid (fun (w' : World) (hb' : Below w2.heap.size w2 w') => kind_any ((V2.out.below hb').fresh (T' := []) (fun b hb => by cases hb)))
 rw [hKX] at HKd
 have HKX := Lib.hid hKX
 clear hKX
 refine wp_region_hold 4 (fun w' => Below w2.heap.size w2 w') (by kernel_rfl) (by kernel_rfl) ?_ ?_
 ·exact (Below.refl w2.heap.size w2).drew
 simp only [List.take_succ_cons, List.take_zero, List.drop_succ_cons, List.drop_zero]
 (first | (refine wpHold_pure (v := ?_) (by rfl) (fun w => ?_) ?_; rotate_left; focus (first | (go_simp; done) | (go_simp; with_reducible rfl))) | (refine wpHold_skip ?_ ?_; focus (go_simp; done)) | (refine wpHold_pure' (v := ?_) ?_ (fun w => ?_) ?_; rotate_left; focus (go_simp; done); focus (first | (go_simp; done) | (go_simp; with_reducible rfl)))); try simp only [Act.put, List.setIfInBounds_toArray, List.set_cons_zero, List.set_cons_succ]
 refine wpHold_call (v := .int .i64 KX) (f := 35) (args := #[v]) (by rfl) (fun w' => ?_) (fun w' hI => ?_) ?_
 ·go_simp
  done
 ·exact (HKd.out w' hI).mono fun e w'' ⟨h1, h2⟩ => ⟨h1, by rw [h2]; exact hI⟩
 try simp only [Act.put, List.setIfInBounds_toArray, List.set_cons_zero, List.set_cons_succ]
 (first | (refine wpHold_pure (v := ?_) (by rfl) (fun w => ?_) ?_; rotate_left; focus (first | (go_simp; done) | (go_simp; with_reducible rfl))) | (refine wpHold_skip ?_ ?_; focus (go_simp; done)) | (refine wpHold_pure' (v := ?_) ?_ (fun w => ?_) ?_; rotate_left; focus (go_simp; done); focus (first | (go_simp; done) | (go_simp; with_reducible rfl)))); try simp only [Act.put, List.setIfInBounds_toArray, List.set_cons_zero, List.set_cons_succ]
 refine wpHold_read (v := .int .i64 p.kind) (by rfl) (fun w' hI => ?_) ?_
 ·have d8 := fun i => (hI.cell (p := ⟨g9, i, none⟩) h9s).trans (c8 i)
  go_simp
  done
 try simp only [Act.put, List.setIfInBounds_toArray, List.set_cons_zero, List.set_cons_succ]
 refine wpHold_nil ?_
 intro w3 hb3
 have V3 := Lib.hid (V2.out.below hb3)
 have I3 := Lib.hid (HK3.out.below c w2 w3 I2.out hb3)
 have B3 := Lib.hid (B2.out.trans (hb3.mono B2.out.size))
 have B03 := Lib.hid (B02.out.trans (hb3.mono B02.out.size))
 have BX3 := Lib.hid (below_block hb3 BX.out)
 have HT3 : Hid (∀ b ∈ T, b < w3.heap.size) := Lib.hid (fun b hb => by have h1 := HT.out b hb; have h2 := B02.out.size; have h3 := hb3.size; omega)
 clear hb3 V2 I2 B2 BX c8 HKd h9s B02
 have Hret : Hid (RES = (x, c) → MadeV w0 G T I RES.1 RES.2 w (.returned v) w3) := Lib.hid (fun h => ⟨v, m, rfl, by rw [h]; exact V3.out, by rw [h]; exact I3.out, KeepT.of B03.out, B3.out⟩)
 by_cases hk : KX = p.kind
 case neg =>
  have qk : (KX != p.kind) = true := by rw [bne_iff_ne]; exact hk
  have HM := Lib.hid (Hret.out (by rw [← HRES.out, thruC, if_pos (by rw [HKX.out]; exact hk)]))
  clear hk
  go_wp2_with fail
  go_ret
  exact HM.out
 case pos =>
  have qk : (KX != p.kind) = false := by rw [hk]; simp
  have hkx : JP.kind x = p.kind := HKX.out.trans hk
  have Hkx := Lib.hid hkx
  have Hbody : Hid (RES = bodyC S mk (thruC S mk n) p x c) := Lib.hid (by rw [← HRES.out, thruC, if_neg (fun h => h hkx)])
  clear hk hkx HRES
  cases m with
  | zero => exact absurd V3.out (by intro h; cases h)
  | succ m =>
  cases x with
  | nul =>
   obtain rfl : v = .nilIface := V3.out
   obtain ⟨g1, g2, g3, g4, g5⟩ := as_nil
   have HM := Lib.hid (Hret.out Hbody.out)
   go_wp2_with fail
   go_ret
   exact HM.out
  | bool b9 =>
   obtain rfl : v = .iface 4 (.bool b9) := V3.out
   obtain ⟨g1, g2, g3, g4, g5⟩ := as_bool (.bool b9)
   have HM := Lib.hid (Hret.out Hbody.out)
   go_wp2_with fail
   go_ret
   exact HM.out
  | num k9 =>
   obtain ⟨rfl, _, _⟩ := V3.out
   obtain ⟨g1, g2, g3, g4, g5⟩ := as_int64 (.int .i64 k9)
   have HM := Lib.hid (Hret.out Hbody.out)
   go_wp2_with fail
   go_ret
   exact HM.out
  | str s9 =>
   obtain rfl : v = .iface 9 (.string (mkB s9)) := V3.out
   obtain ⟨g1, g2, g3, g4, g5⟩ := as_string (.string (mkB s9))
   have HM := Lib.hid (Hret.out Hbody.out)
   go_wp2_with fail
   go_ret
   exact HM.out
  | list l =>
   as_aux_lemma =>
   clear Hret
   obtain ⟨u, rfl, hrow, _⟩ := V3.out
   obtain ⟨au, cu, rfl, _, _⟩ := hrow.len
   obtain ⟨ln, hln⟩ : ∃ m, l.length = m := ⟨_, rfl⟩
   obtain ⟨g1, g2, g3, g4, g5⟩ := as_list (.slice au l.length cu)
   obtain ⟨xs0, x1, x2, x3⟩ := hrow.raw (one_jv m T)
   have hxs : ValsJ m T w3 xs0 l := ⟨x1, fun t v x h1 h2 => by obtain ⟨v', e, h⟩ := x3 t v x h1 h2; cases e; exact h⟩
   have hsize : JP.size (.list l) = 1 + JP.sizeL l := by rw [JP.size]
   have hlong := sizeL_long l
   have hlnb : ln ≤ 1000000 := by have := Hz.out; omega
   obtain ⟨hit1, hit2⟩ := HGp.out.items (by have := Hkx.out; exact this.symm)
   obtain ⟨ki, hki⟩ : ∃ ki : Nat, p.items = (ki : Int) := ⟨p.items.toNat, by omega⟩
   rw [hki] at hit1 hit2
   have hkl : ki < S.length := by omega
   have hkr : S.length - ki ≤ n := by have := Hn.out; omega
   have Hkl := Lib.hid hkl
   have Hkr := Lib.hid hkr
   have Hki := Lib.hid hki
   have Hln := Lib.hid hln
   obtain ⟨F, hF⟩ : ∃ F, F = thruC S mk n (partAt S (ki : Int)) := ⟨_, rfl⟩
   have HF := Lib.hid hF
   have Hb2 : Hid (RES = (.list (mapC F l c).1, (mapC F l c).2)) := Lib.hid (by rw [Hbody.out, hF, ← hki]; rfl)
   have hdn : ∀ x c, Good (F x c).2 → Good c := fun x c h => by rw [hF] at h; exact thruC_down HK3.out.down _ _ _ _ h
   have hszF : ∀ x c, JP.size (F x c).1 + pot (F x c).2 ≤ JP.size x + pot c := fun x c => by rw [hF]; exact thruC_size HK3.out.size _ _ _ _
   have HgoL : Hid (∀ j, Good (mapC F (l.take j) c).2) := Lib.hid (fun j => mapC_downTake hdn l j c (by have := HGo.out; rw [Hb2.out] at this; exact this))
   have HszL := Lib.hid (fun j => mapC_sizeL (pot := pot) hszF (l.take j) c)
   have HSz : Hid (JP.sizeL l + pot c ≤ 999999) := Lib.hid (by have := Hz.out; show _ ≤ _; omega)
   have HCl := Lib.hid (cloneVal_any (.slice au l.length cu) xs0 w3 x2 (by rw [x1]; omega))
   have HX := Lib.hid hxs
   rw [hln] at HCl g1 g2 g3 g4 g5 ⊢
   clear hrow x1 x2 x3 hxs hsize hlong hit1 hit2 hki hkl hkr hln hF hdn hszF Hbody HGo Hkx
   go_wp2_with fail
   refine HCl.out.mono ?_
   rintro E w4 ⟨v9, rfl, hown, hbc⟩
   have hlx : xs0.length = ln := HX.out.1.trans Hln.out
   obtain ⟨Tn, hT1, hT2⟩ : ∃ Tn : List Nat, (∀ b ∈ Tn, w3.heap.size ≤ b ∧ b < w4.heap.size) ∧ ∀ q, v9.ownBlock = some q → q ∈ Tn := by
    cases hq : v9.ownBlock with
    | none => exact ⟨[], (fun b hb => (by cases hb)), (fun q h => (by cases h))⟩
    | some q => exact ⟨[q], (fun b hb => (by rw [List.mem_singleton.1 hb]; exact ⟨(hown.at hq).1, (hown.at hq).2.1⟩)), (fun q' h => (by cases h; exact List.mem_singleton.2 rfl))⟩
   obtain ⟨a9, c9, e9, _, _⟩ := hown.row.len
   rw [hlx] at e9
   subst e9
   have HTn := Lib.hid hT1
   have HTo := Lib.hid hT2
   have HO0 := Lib.hid hown
   have HX0 : Hid (ValsJ m (Tn ++ T) w4 xs0 l) := Lib.hid ⟨HX.out.1, fun t v x h1 h2 => ((HX.out.2 t v x h1 h2).fresh (T' := Tn ++ T) (fun b hb => (List.mem_append.1 hb).elim (fun h => .inr (hT1 b h).1) .inl)).below hbc⟩
   have HI0 := Lib.hid (HK3.out.below c w3 w4 I3.out hbc)
   have HB4 := Lib.hid (B3.out.trans (hbc.mono B3.out.size))
   have HK4 : Hid (KeepT G w3 w4) := Lib.hid (KeepT.of hbc)
   have HTl : Hid (∀ b ∈ Tn ++ T, b < w4.heap.size) := Lib.hid (fun b hb => (List.mem_append.1 hb).elim (fun h => (hT1 b h).2) (fun h => by have := HT3.out b h; have := hbc.size; omega))
   clear hown hbc hT1 hT2 HCl HX hlx V3 I3
   go_wp2_with fail
   go_loopg [40] ln (fun k u40 wr => ∃ (j : Nat) (cc : σ) (xs : List Value) (mm : Nat), j + k = ln ∧ u40 = .int .i64 (j : Int) ∧ Hid (cc = (mapC F (l.take j) c).2) ∧ Hid (OwnAt RVal 1 wr w3.heap.size 53 (.slice a9 ln c9) xs) ∧ Hid (ValsJ mm (Tn ++ T) wr xs ((mapC F (l.take j) c).1 ++ l.drop j)) ∧ Hid (I cc wr) ∧ Hid (KeepT G w3 wr) ∧ Hid (Below w0.heap.size w0 wr) ∧ Hid (w4.heap.size ≤ wr.heap.size))
   case atStart => exact ⟨0, c, xs0, m, by omega, rfl, Lib.hid rfl, HO0, Lib.hid (by simpa [mapC] using HX0.out), HI0, HK4, HB4, Lib.hid (Nat.le_refl _)⟩
   case round =>
    clear HO0 HX0 HI0 HK4 HB4
    obtain ⟨j, cc, xs, mm, hjk, rfl, Hcc, HO, HX, HI, HK, HB, HZ⟩ := hrel
    cases gk with
    | zero =>
     have hjl : ln = j := by omega
     subst hjl
     have q9 : ¬ (ln : Int) < (ln : Int) := by omega
     have htk : l.take ln = l := List.take_of_length_le (by rw [Hln.out]; exact Nat.le_refl _)
     have hdk : l.drop ln = [] := List.drop_of_length_le (by rw [Hln.out]; exact Nat.le_refl _)
     have hX := HX.out
     rw [htk, hdk, List.append_nil] at hX
     have hcc := Hcc.out
     rw [htk] at hcc
     have HM : Hid (MadeV w0 G T I RES.1 RES.2 w (.returned (.iface 49 (.slice a9 ln c9))) wr) := Lib.hid (by
      rw [Hb2.out]
      refine ⟨_, mm + 1, rfl, ⟨.slice a9 ln c9, rfl, ?_, fun _ b hb hm => ?_⟩, by rw [← hcc]; exact HI.out, (KeepT.of B03.out).trans HK.out, HB.out⟩
      ·exact HO.out.row.ofRaw hX.1 fun t u y h1 h2 => ⟨u, rfl, (hX.2 t u y h1 h2).fresh (fun b hb => .inl (List.mem_append_right _ hb))⟩
      ·have h1 := (HTn.out b (HTo.out b hb)).1
       have h2 := HT3.out b hm
       omega)
     clear htk hdk hX hcc HO HX HI HK HB
     go_wp2_with fail
     go_ret
     exact HM.out
    | succ k =>
     have hjl : j < ln := by omega
     obtain ⟨y, hy⟩ : ∃ y, l[j]? = some y := ⟨l[j]'(by rw [Hln.out]; exact hjl), List.getElem?_eq_getElem _⟩
     have hA : (mapC F (l.take j) c).1.length = j := by rw [mapC_len, List.length_take, Hln.out]; omega
     have hd : l.drop j = y :: l.drop (j + 1) := by
      obtain ⟨hj, hy2⟩ := List.getElem?_eq_some_iff.1 hy
      rw [List.drop_eq_getElem_cons hj, hy2]
     have hxl : xs.length = ln := by
      rw [HX.out.1, List.length_append, hA, List.length_drop, Hln.out]; omega
     obtain ⟨vy, hvy⟩ : ∃ vy, xs[j]? = some vy := ⟨xs[j]'(by rw [hxl]; exact hjl), List.getElem?_eq_getElem _⟩
     have hjy : JvAt mm (Tn ++ T) wr vy y := HX.out.2 j vy y hvy (by rw [List.getElem?_append_right (by omega), hA, Nat.sub_self, hd]; rfl)
     rcases HO.out.form with ⟨_, h0⟩ | ⟨gl, cl, hv9, hBl, hgl, _, _⟩
     ·rw [h0] at hxl; simp at hxl; omega
     injection hv9 with u1 u2 u3
     subst u1
     obtain ⟨bk, ok, ck, hv1, _, _, hbs1, hcell1⟩ := HO.out.row.form (by rw [hxl]; omega) (by omega)
     injection hv1 with u4 u5 u6
     injection u4 with u4
     injection u4 with u7 u8 u9
     subst u7
     subst u8
     clear u2 u3 u5 u6 u9
     obtain ⟨ds1, _, hcc1, hR1⟩ := hcell1 j vy hvy
     obtain ⟨hR1, _⟩ := hR1
     subst hR1
     have e0 : wr.cell? ⟨gl, j, none⟩ = some vy := by simpa using hcc1 0 _ rfl
     have q1 : (0 : Int) ≤ (j : Int) := by omega
     have q2 : (j : Int) < (ln : Int) := by omega
     have h9w : w3.heap[g9]? = some (.cells #[.int .i64 p.kind, .slice fa fn fc, .slice na nn nc, .bool p.extra, .int .i64 p.items, .int .i64 p.least, .int .i64 p.most, .slice ea en ec, .string p.deflt] 73 (0, 0)) := BX3.out
     have n9G : g9 ∉ G := fun h => N9.out (HGT.out g9 h)
     have bx := (HK.out.block g9 (blk_lt h9w) n9G).trans h9w
     have c4 : wr.cell? ⟨g9, 4, none⟩ = some (.int .i64 (ki : Int)) := by have := cell_block bx 4; rw [Hki.out] at this; exact this
     have hgG : gl ∉ G := fun h => by have h1 := HT3.out gl (HGT.out gl h); omega
     have hmt := mapC_take (f := F) hy c
     rw [← Hcc.out] at hmt
     have hgoj := HgoL.out (j + 1)
     rw [hmt] at hgoj
     have HIy := HIh.out ki mm (Tn ++ T) vy y cc wr Hkl.out Hkr.out (fun g hg => List.mem_append_right _ (HGT.out g hg)) (fun b hb => Nat.lt_of_lt_of_le (HTl.out b hb) HZ.out) hjy HI.out (by
      have h1 := HszL.out j
      rw [← Hcc.out] at h1
      have h2 := sizeL_here hy
      have h3 := HSz.out
      omega) (by rw [← HF.out]; exact hgoj) HB.out
     rw [← HF.out] at HIy
     have HIy := Lib.hid HIy
     have HgG := Lib.hid hgG
     have Hmt := Lib.hid hmt
     have HA := Lib.hid hA
     have Hd := Lib.hid hd
     have Hxl := Lib.hid hxl
     have hgTn : gl ∈ Tn ++ T := List.mem_append_left _ (HTo.out gl rfl)
     have HgT := Lib.hid hgTn
     clear hcell1 hcc1 hy hbs1 hvy hjy h9w n9G bx hgG hmt hgoj hA hd hxl hgTn
     go_wp2_with fail
     refine HIy.out.mono ?_
     rintro E w5 ⟨u, m5, rfl, hu, hI5, hk5, hb5⟩
     obtain ⟨C5, hC5⟩ : ∃ c, (F y cc).2 = c := ⟨_, rfl⟩
     rw [hC5] at hI5
     have hv1 : u.oneCell' = true := one_jv m5 (Tn ++ T) w5 [u] _ ⟨u, rfl, hu⟩ u (List.mem_singleton.2 rfl)
     have hkT : KeepT (Tn ++ T) wr w5 := hk5.mono (fun b hb => .inl (List.mem_append_right _ (HGT.out b hb)))
     have hO5 := own_keepT flat_val HO.out hk5 (fun q hq => by cases hq; exact HgG.out)
     obtain ⟨w6, hst, hO6, t6⟩ := store_valS hO5 (i := j) (by rw [Hxl.out]; exact hjl) hv1
     have hkt := KeepT.touch t6 HgT.out
     have HX6 : Hid (ValsJ (max mm m5) (Tn ++ T) w6 (xs.set j u) ((mapC F (l.take (j + 1)) c).1 ++ l.drop (j + 1))) := Lib.hid (by
      have h1 := (((HX.out.keepT hkT).keepT hkt).ups (Nat.le_max_left mm m5)).set (j := j) ((hu.keepT hkt).ups (Nat.le_max_right mm m5))
      rw [Hd.out] at h1
      have h2 := list_set (A := (mapC F (l.take j) c).1) (B := l.drop (j + 1)) (y := y) (z := (F y cc).1)
      rw [HA.out] at h2
      rw [h2] at h1
      rw [Hmt.out, List.append_assoc]
      exact h1)
     have HI6 := Lib.hid (HK3.out.touch C5 gl w5 w6 hI5 t6 HgG.out (by have h1 := B3.out.size; omega))
     have HK6 : Hid (KeepT G w3 w6) := Lib.hid (by
      have h1 : KeepT (gl :: G) w3 w6 := ((HK.out.trans hk5).mono (fun b hb => .inl (List.mem_cons_of_mem _ hb))).trans (KeepT.touch t6 (List.mem_cons_self ..))
      exact h1.mono fun b hb => by
       rcases List.mem_cons.1 hb with rfl | h
       ·exact .inr hBl
       ·exact .inl h)
     have HB6 := Lib.hid (t6.below hb5 (by have h1 := B3.out.size; omega))
     have HZ6 : Hid (w4.heap.size ≤ w6.heap.size) := Lib.hid (by have h1 := HZ.out; have h2 := hk5.size; have h3 := t6.size; show _ ≤ _; omega)
     have Hcc6 : Hid (C5 = (mapC F (l.take (j + 1)) c).2) := Lib.hid (by rw [Hmt.out, hC5])
     have HO6 := Lib.hid hO6
     have Hst := Lib.hid hst
     clear hu hI5 hk5 hb5 hC5 hkT hO5 hst hO6 t6 hkt HIy HO HX HI HK HB HZ Hcc
     go_wp2_with fail
     rw [Hst.out]
     go_wp2_with fail
     go_roundg k
     case measure => omega
     case rel => exact ⟨j + 1, C5, xs.set j u, max mm m5, by omega, by go_num, Hcc6, HO6, HX6, HI6, HK6, HB6, HZ6⟩
  | obj l =>
   as_aux_lemma =>
   clear Hret
   obtain ⟨q, rfl, hob⟩ := V3.out
   obtain ⟨g1, g2, g3, g4, g5⟩ := as_obj (.pointer (some ⟨q, 0, none⟩))
   have hsize : JP.size (.obj l) = 1 + JP.sizeF l := by rw [JP.size]
   have hz1 : JP.sizeF l + pot c ≤ 999999 := by have := Hz.out; omega
   obtain ⟨F, hF⟩ : ∃ F, F = kidC p (fun k => thruC S mk n (partAt S k)) := ⟨_, rfl⟩
   obtain ⟨l1, hl1⟩ : ∃ l1, (mk p l c).1 = l1 := ⟨_, rfl⟩
   obtain ⟨c1, hc1⟩ : ∃ c1, (mk p l c).2 = c1 := ⟨_, rfl⟩
   have Hb2 : Hid (RES = (.obj (mapC F l1 c1).1, (mapC F l1 c1).2)) := Lib.hid (by rw [Hbody.out, hF, ← hl1, ← hc1]; rfl)
   have hdn : ∀ x c, Good (F x c).2 → Good c := fun x c h => by rw [hF] at h; exact kidC_down (G := Good) (fun k x c h => thruC_down (G := Good) HK3.out.down n (partAt S k) x c h) x c h
   have hszF : ∀ x c, JP.size (F x c).1.2 + pot (F x c).2 ≤ JP.size x.2 + pot c := fun x c => by rw [hF]; exact kidC_size (fun k x c => thruC_size HK3.out.size _ _ _ _) x c
   have hgoR : Good (mapC F l1 c1).2 := by have := HGo.out; rw [Hb2.out] at this; exact this
   have HgoL : Hid (∀ j, Good (mapC F (l1.take j) c1).2) := Lib.hid (fun j => mapC_downTake hdn l1 j c1 hgoR)
   have HszL := Lib.hid (fun j => mapC_sizeF (pot := pot) hszF (l1.take j) c1)
   have hs1 := HK3.out.size p l c
   rw [hl1, hc1] at hs1
   have HSz : Hid (JP.sizeF l1 + pot c1 ≤ 999999) := Lib.hid (by show _ ≤ _; omega)
   have HM1 := HMk.out i p b (ob + i * 9) fa fn fc na nn nc ea en ec T m q l c w3 HP.out HGT.out HT3.out hob I3.out (by omega) (by rw [hc1]; exact mapC_down hdn l1 c1 hgoR) B3.out
   rw [hl1, hc1] at HM1
   have HM1 := Lib.hid HM1
   have HFk : Hid (∀ y c k, fieldL p.fields (mkB y.1) = some k → F y c = ((y.1, (thruC S mk n (partAt S k) y.2 c).1), (thruC S mk n (partAt S k) y.2 c).2)) := Lib.hid (fun y c k h => by rw [hF]; unfold kidC; rw [h])
   have HFn : Hid (∀ y c, fieldL p.fields (mkB y.1) = none → F y c = (y, c)) := Lib.hid (fun y c h => by rw [hF]; unfold kidC; rw [h])
   have HFm : Hid (∀ r c, (mapC F r c).1.map (·.1) = r.map (·.1)) := Lib.hid (fun r c => by rw [hF]; exact mapC_names p _ r c)
   have Hfl8 := Lib.hid Hsm.out.1
   have bx := BX3.out
   clear hob hsize hz1 hF hl1 hc1 hdn hszF hgoR hs1 Hbody HGo Hkx I3 V3
   go_wp2_with (refine wpList_load_row (by rfl) _ _ (by rfl) g9 (by rfl) _ _ _ _ bx Tryz.underlying73 rfl (by exact Tryz.sizePart) ?_)
   refine HM1.out.mono ?_
   rintro E w4 ⟨q1, m1, rfl, ho1, hI1, hk1, hb1⟩
   have ho1' := ho1
   obtain ⟨_, hsrt, vn, vv, cn, cv, hrn, hon, hrv, _⟩ := ho1'
   obtain ⟨an, cn2, hne, _, _⟩ := hrn.len
   obtain ⟨ln, hln⟩ : ∃ m, l1.length = m := ⟨_, rfl⟩
   rw [List.length_map, hln] at hne
   subst hne
   have hlong := JP.sizeF_long l1
   have hlnb : ln ≤ 1000000 := by have := HSz.out; omega
   have HNm := Lib.hid (names_any q1 _ w4 cn)
   have HRn := Lib.hid hrn
   have Hon := Lib.hid hon
   have Hln := Lib.hid hln
   have Hsrt := Lib.hid hsrt
   have HO0 : Hid (ObR (JvR m1 T) T w4 q1 ((mapC F (l1.take 0) c1).1 ++ l1.drop 0)) := Lib.hid (by simpa [mapC] using ho1)
   have HI0 := Lib.hid hI1
   have HK34 := Lib.hid hk1
   have HB4 := Lib.hid hb1
   have n9G : g9 ∉ G := fun h => N9.out (HGT.out g9 h)
   have BX4 := Lib.hid ((hk1.block g9 (blk_lt BX3.out) n9G).trans BX3.out)
   have N9G := Lib.hid n9G
   have HT4 : Hid (∀ b ∈ T, b < w4.heap.size) := Lib.hid (fun b hb => Nat.lt_of_lt_of_le (HT3.out b hb) hk1.size)
   clear ho1 hI1 hk1 hb1 hsrt cn cv hrn hon hrv hln hlong HM1 bx n9G
   go_wp2_with fail
   refine HNm.out.mono ?_
   rintro E wz ⟨rfl, rfl⟩
   clear HNm
   go_wp2_with fail
   go_loopg [15, 67] ln (fun k u15 u67 wr => ∃ (j q' mm : Nat) (cc : σ), j + k = ln ∧ u15 = .pointer (some ⟨q', 0, none⟩) ∧ u67 = .int .i64 (j : Int) ∧ Hid (cc = (mapC F (l1.take j) c1).2) ∧ Hid (ObR (JvR mm T) T wr q' ((mapC F (l1.take j) c1).1 ++ l1.drop j)) ∧ Hid (I cc wr) ∧ Hid (KeepT G w4 wr) ∧ Hid (Below w0.heap.size w0 wr))
   case atStart => exact ⟨0, q1, m1, c1, by omega, rfl, rfl, Lib.hid rfl, HO0, HI0, Lib.hid (KeepT.refl _ _), HB4⟩
   case round =>
    clear HO0 HI0
    obtain ⟨j, q', mm, cc, hjk, rfl, rfl, Hcc, HO, HI, HK, HB⟩ := hrel
    cases gk with
    | zero =>
     have hjl : ln = j := by omega
     subst hjl
     have q9 : ¬ (ln : Int) < (ln : Int) := by omega
     have htk : l1.take ln = l1 := List.take_of_length_le (by rw [Hln.out]; exact Nat.le_refl _)
     have hdk : l1.drop ln = [] := List.drop_of_length_le (by rw [Hln.out]; exact Nat.le_refl _)
     have hO := HO.out
     rw [htk, hdk, List.append_nil] at hO
     have hcc := Hcc.out
     rw [htk] at hcc
     have HM : Hid (MadeV w0 G T I RES.1 RES.2 w (.returned (.iface 74 (.pointer (some ⟨q', 0, none⟩)))) wr) := Lib.hid (by
      rw [Hb2.out]
      exact ⟨_, mm + 1, rfl, ⟨q', rfl, hO⟩, by rw [← hcc]; exact HI.out, ((KeepT.of B03.out).trans HK34.out).trans HK.out, HB.out⟩)
     clear htk hdk hO hcc HO HI HK HB
     go_wp2_with fail
     go_ret
     exact HM.out
    | succ k =>
     have hjl : j < ln := by omega
     obtain ⟨y, hy⟩ : ∃ y, l1[j]? = some y := ⟨l1[j]'(by rw [Hln.out]; exact hjl), List.getElem?_eq_getElem _⟩
     have hA : (mapC F (l1.take j) c1).1.length = j := by rw [mapC_len, List.length_take, Hln.out]; omega
     have hd : l1.drop j = y :: l1.drop (j + 1) := by
      obtain ⟨hj, hy2⟩ := List.getElem?_eq_some_iff.1 hy
      rw [List.drop_eq_getElem_cons hj, hy2]
     have hEl : ((mapC F (l1.take j) c1).1 ++ l1.drop j).length = ln := by rw [List.length_append, hA, List.length_drop, Hln.out]; omega
     obtain ⟨bk, ok, ck, hv1, _, _, hbs1, hcell1⟩ := HRn.out.form (by rw [List.length_map, Hln.out]; omega) (by omega)
     injection hv1 with u1 u2 u3
     subst u1
     clear u2 u3
     obtain ⟨ds1, _, hcc1, hR1⟩ := hcell1 j (mkB y.1) (by rw [List.getElem?_map, hy]; rfl)
     obtain rfl : ds1 = [.string (mkB y.1)] := hR1
     have hbkT : bk ∉ T := Hon.out (fun e => by have := Hln.out; rw [e] at this; simp at this; omega) bk rfl
     have e0 : wr.cell? ⟨bk, ok + j, none⟩ = some (.string (mkB y.1)) := HK.out.cell (by simpa using hcc1 0 _ rfl) (fun h => hbkT (HGT.out bk h))
     have q1 : (0 : Int) ≤ (j : Int) := by omega
     have q2 : (j : Int) < (ln : Int) := by omega
     have bx := (HK.out.block g9 (blk_lt BX4.out) N9G.out).trans BX4.out
     have HFd := Lib.hid (schField_any p.kind fa fn fc na nn nc p.extra p.items p.least p.most ea en ec p.deflt p.fields (mkB y.1) wr (HP.out.fields.keep stays_field (keeps_below HB.out)) Hfl8.out)
     have hmt := mapC_take (f := F) hy c1
     rw [← Hcc.out] at hmt
     have hgoj := HgoL.out (j + 1)
     rw [hmt] at hgoj
     obtain ⟨O, hO⟩ : ∃ O, fieldL p.fields (mkB y.1) = O := ⟨_, rfl⟩
     rw [hO] at HFd
     have HOe := Lib.hid hO
     have Hmt := Lib.hid hmt
     have HA := Lib.hid hA
     have Hd := Lib.hid hd
     have HEl := Lib.hid hEl
     have Hgoj := Lib.hid hgoj
     have Hrest := Lib.hid (sizeF_rest hy)
     have HTr : Hid (∀ b ∈ T, b < wr.heap.size) := Lib.hid (fun b hb => Nat.lt_of_lt_of_le (HT4.out b hb) HK.out.size)
     clear hcell1 hcc1 hy hbs1 hbkT hmt hgoj hO hA hd hEl
     cases O with
     | none =>
      go_wp2_with (refine wpList_load_row (by rfl) _ _ (by rfl) g9 (by rfl) _ _ _ _ bx Tryz.underlying73 rfl (by exact Tryz.sizePart) ?_)
      refine HFd.out.mono ?_
      rintro E w5 ⟨rfl, hbd⟩
      have hFy := HFn.out y cc HOe.out
      have HO5 : Hid (ObR (JvR mm T) T w5 q' ((mapC F (l1.take (j + 1)) c1).1 ++ l1.drop (j + 1))) := Lib.hid (by
       rw [Hmt.out, hFy, List.append_assoc]
       have h1 := HO.out.keepJ (KeepT.of hbd)
       rw [Hd.out] at h1
       exact h1)
      have Hcc5 : Hid (cc = (mapC F (l1.take (j + 1)) c1).2) := Lib.hid (by rw [Hmt.out, hFy])
      have HI5 := Lib.hid (HK3.out.below cc wr w5 HI.out hbd)
      have HK5 := Lib.hid (HK.out.trans (KeepT.of hbd))
      have HB5 := Lib.hid (HB.out.trans (hbd.mono HB.out.size))
      clear hbd hFy HFd HO HI HK HB Hcc e0 bx
      go_wp2_with fail
      go_roundg k
      case measure => omega
      case rel => exact ⟨j + 1, q', mm, cc, by omega, rfl, by go_num, Hcc5, HO5, HI5, HK5, HB5⟩
     | some kk =>
      obtain ⟨f0, hf0, hf1⟩ := fieldL_part HOe.out
      obtain ⟨hk1, hk2⟩ := HGp.out.parts f0 hf0
      rw [hf1] at hk1 hk2
      obtain ⟨kn, hkn⟩ : ∃ kn : Nat, kk = (kn : Int) := ⟨kk.toNat, by omega⟩
      subst hkn
      have hkl : kn < S.length := by omega
      have hkr : S.length - kn ≤ n := by have := Hn.out; omega
      have Hkl := Lib.hid hkl
      have Hkr := Lib.hid hkr
      clear hf0 hf1 hk1 hk2 hkl hkr
      have HFy := Lib.hid (HFk.out y cc (kn : Int) HOe.out)
      go_wp2_with (refine wpList_load_row (by rfl) _ _ (by rfl) g9 (by rfl) _ _ _ _ bx Tryz.underlying73 rfl (by exact Tryz.sizePart) ?_)
      refine HFd.out.mono ?_
      rintro E w5 ⟨rfl, hbd⟩
      have HO5 := Lib.hid (HO.out.keepJ (KeepT.of hbd))
      have HI5 := Lib.hid (HK3.out.below cc wr w5 HI.out hbd)
      have HK5 := Lib.hid (HK.out.trans (KeepT.of hbd))
      have HB5 := Lib.hid (HB.out.trans (hbd.mono HB.out.size))
      have hs5 : wr.heap.size ≤ w5.heap.size := hbd.size
      have hget : JP.get y.1 ((mapC F (l1.take j) c1).1 ++ l1.drop j) = some y.2 := JP.get_memS HO5.out.2.1 (List.mem_append_right _ (by rw [Hd.out]; exact List.mem_cons_self ..))
      have HG := Lib.hid (get_any (x := y.1) HO5.out (by rw [HEl.out]; omega))
      rw [hget] at HG
      clear hbd hget HFd HO HI HK HB e0 bx
      go_wp2_with fail
      refine HG.out.mono ?_
      rintro E w6 ⟨vg, rfl, hvg, _, kd, rfl⟩
      have hbd := below_drewG w5.heap.size w5 kd
      obtain ⟨w7, hw7⟩ : ∃ u, w5.drewN kd = u := ⟨_, rfl⟩
      rw [hw7] at hbd ⊢
      have hvy := (hvg y.2 rfl).below hbd
      have HO7 := Lib.hid (HO5.out.keepJ (KeepT.of hbd))
      have HK7 := Lib.hid (HK5.out.trans (KeepT.of hbd))
      have HB7 := Lib.hid (HB5.out.trans (hbd.mono HB5.out.size))
      have hI7 := HK3.out.below cc w5 w7 HI5.out hbd
      have hs7 : wr.heap.size ≤ w7.heap.size := Nat.le_trans hs5 hbd.size
      have hfy := HFy.out
      have HIy := HIh.out kn mm T vg y.2 cc w7 Hkl.out Hkr.out HGT.out (fun b hb => Nat.lt_of_lt_of_le (HTr.out b hb) hs7) hvy hI7 (by
       have h1 := HszL.out j
       rw [← Hcc.out] at h1
       have h2 := Hrest.out
       have h3 := HSz.out
       omega) (by have := Hgoj.out; rw [hfy] at this; exact this) HB7.out
      obtain ⟨Y, hY⟩ : ∃ Y, (thruC S mk n (partAt S (kn : Int)) y.2 cc).1 = Y := ⟨_, rfl⟩
      obtain ⟨C8, hC8⟩ : ∃ Y, (thruC S mk n (partAt S (kn : Int)) y.2 cc).2 = Y := ⟨_, rfl⟩
      rw [hY, hC8] at HIy hfy
      have HIy := Lib.hid HIy
      have HFy2 := Lib.hid hfy
      clear hvg hbd hw7 hvy hI7 hfy hY hC8 HG HO5 HI5 HK5 HB5 HFy hs5 hs7
      go_wp2_with fail
      refine HIy.out.mono ?_
      rintro E w8 ⟨u, m8, rfl, hu, hI8, hk8, hb8⟩
      have hkT : KeepT T w7 w8 := hk8.mono (fun b hb => .inl (HGT.out b hb))
      have hO8 := (HO7.out.keepJ hkT).upsJ (Nat.le_max_left mm m8)
      have hT8 : ∀ b ∈ T, b < w8.heap.size := fun b hb => by
       have h1 := HTr.out b hb
       have h2 := HK7.out.size
       have h3 := HT4.out b hb
       have h4 := hk8.size
       omega
      have HW := with_any (x := y.1) hO8 (hu.ups (Nat.le_max_right mm m8)) hT8 (by rw [HEl.out]; omega)
      have hput : JP.put y.1 Y ((mapC F (l1.take j) c1).1 ++ l1.drop j) = (mapC F (l1.take (j + 1)) c1).1 ++ l1.drop (j + 1) := by
       have hsE := hO8.2.1
       unfold JP.Srt at hsE
       rw [Hd.out, List.pairwise_append] at hsE
       have h1 := put_mid (n := y.1) (x := y.2) (v := Y) (A := (mapC F (l1.take j) c1).1) (B := l1.drop (j + 1)) (fun a ha => hsE.2.2 a ha y (List.mem_cons_self ..))
       rw [Hd.out, Hmt.out, HFy2.out, List.append_assoc]
       exact h1
      rw [hput] at HW
      have HW := Lib.hid HW
      have HI8 := Lib.hid hI8
      have HK8 := Lib.hid (HK7.out.trans hk8)
      have HB8 := Lib.hid hb8
      have Hcc8 : Hid (C8 = (mapC F (l1.take (j + 1)) c1).2) := Lib.hid (by rw [Hmt.out, HFy2.out])
      clear hu hI8 hk8 hb8 hkT hO8 hT8 hput HIy HO7 HK7 HB7 Hcc
      go_wp2_with fail
      refine HW.out.mono ?_
      rintro E w9 ⟨q9, rfl, ho9, hb9⟩
      have HO9 := Lib.hid ho9
      have HI9 := Lib.hid (HK3.out.below C8 w8 w9 HI8.out hb9)
      have HK9 := Lib.hid (HK8.out.trans (KeepT.of hb9))
      have HB9 := Lib.hid (HB8.out.trans (hb9.mono HB8.out.size))
      clear ho9 hb9 HW HI8 HK8 HB8
      go_wp2_with fail
      go_roundg k
      case measure => omega
      case rel => exact ⟨j + 1, q9, max mm m8, C8, by omega, rfl, by go_num, Hcc8, HO9, HI9, HK9, HB9⟩
theorem through_any {σ : Type} {S : List GPart} {sa : Option Addr} {sn sc : Nat} {w0 : World} {G : List Nat} {mk : GPart → Flds → σ → Flds × σ} {I : σ → World → Prop} {pot : σ → Nat} {Good : σ → Prop} {f : FuncId} {caps : Array Value}
  (enter : ∀ (a : Array Value) (w : World), (callFunc f a).run Tryz.prog w = .ok (.enter f a) w) (hgood : GoodS S) (hlies : Lies S (.slice sa sn sc) w0) (k3 : Keeps3 w0 G mk I pot Good) (mk1 : Makes S w0 G mk I pot Good f caps) : ∀ n : Nat, ThruIn S (.slice sa sn sc) w0 G mk I pot Good f caps n
 | 0 => fun i m T v x c w hi hn => absurd hn (by omega)
 | n + 1 => through_step enter hgood hlies k3 mk1 n (through_any enter hgood hlies k3 mk1 n)
end Sch
end Go.Proofs.YtnmhjabihfhobaaGreatDoor
/- schema: what Fill hands in. -/
namespace Go.Proofs.YtnmhjabihfhobaaGreatDoor
open Go.RowKit
open JP (JV Bs)
namespace Sch

def CameAt (gc : Nat) (c : Nat) (w : World) : Prop := w.heap[gc]? = some (.cells #[.int .i64 (c : Int)] 3 (0, 0))
theorem fold_take {S : List GPart} {F : List GField} {j : Nat} {f : GField} (h : F[j]? = some f) (st : Flds × Nat) : (F.take (j + 1)).foldl (fillStepC S) st = fillStepC S ((F.take j).foldl (fillStepC S) st) f := by
 rw [List.take_add_one, h, Option.toList_some, List.foldl_append]; rfl
set_option maxRecDepth 100000 in
set_option maxHeartbeats 12800000 in
theorem makes_fill {S : List GPart} {sa : Option Addr} {sn sc : Nat} {w0 : World} (hgood : GoodS S) (hlies : Lies S (.slice sa sn sc) w0) (gs gc : Nat) (hgs : w0.heap[gs]? = some (.cells #[.slice sa sn sc] 38 (0, 0))) (hgc : w0.heap.size ≤ gc) :
  Makes S w0 [gc] (fillC S) (CameAt gc) potC (fun c => c ≤ 1099511627776) 48 #[.pointer (some ⟨gs, 0, none⟩), .pointer (some ⟨gc, 0, none⟩)] := by
 intro i p b0 o0 fa fn fc na nn nc ea en ec T m q l c w hp hGT hT hob hI hz hgo hb
 have hgp := hgood.2.2 i p hp.at_
 have hd200 : ∀ k, (partAt S k).deflt ≠ ByteArray.empty → JP.size (dfl S k) ≤ 200 := fun k h => (text_dfl hgood k h).2.1
 have hfn : p.fields.length = fn := hp.fl
 have hfn8 : fn ≤ 8 := by have := hgp.few.1; omega
 have hgcT : gc ∈ T := hGT gc (List.mem_singleton.2 rfl)
 obtain ⟨w1, hw1⟩ : ∃ w1, w1 = w.alloc (.cells #[.int .i64 p.kind, .slice fa fn fc, .slice na nn nc, .bool p.extra, .int .i64 p.items, .int .i64 p.least, .int .i64 p.most, .slice ea en ec, .string p.deflt] 73) := ⟨_, rfl⟩
 have hb1 : Below w.heap.size w w1 := by rw [hw1]; exact (Below.refl _ w).alloc (Nat.le_refl _) _
 obtain ⟨gp, hgp9⟩ : ∃ gp, gp = w.heap.size := ⟨_, rfl⟩
 have hbox : w1.heap[gp]? = some (.cells #[.int .i64 p.kind, .slice fa fn fc, .slice na nn nc, .bool p.extra, .int .i64 p.items, .int .i64 p.least, .int .i64 p.most, .slice ea en ec, .string p.deflt] 73 (0, 0)) := by rw [hw1, hgp9]; exact heap_alloc_new w _
 have BX := Lib.hid hbox
 have HGp := Lib.hid hgp
 have HP := Lib.hid hp
 have HT := Lib.hid hT
 have HgT := Lib.hid hgcT
 have HLies := Lib.hid hlies
 have HGood := Lib.hid hgood
 have HGs := Lib.hid hgs
 have Hd200 := Lib.hid hd200
 have Hfn := Lib.hid hfn
 have Hz := Lib.hid hz
 have HO1 := Lib.hid (hob.keepJ (KeepT.of hb1))
 have HI1 : Hid (CameAt gc c w1) := Lib.hid (below_block hb1 hI)
 have HB1 := Lib.hid (hb.trans (hb1.mono hb.size))
 have HK1 : Hid (KeepT [gc] w w1) := Lib.hid (KeepT.of hb1)
 have hgcw : gc < w1.heap.size := by have := blk_lt hI; have := hb1.size; omega
 have e9 : #[Value.agg #[.int .i64 p.kind, .slice fa fn fc, .slice na nn nc, .bool p.extra, .int .i64 p.items, .int .i64 p.least, .int .i64 p.most, .slice ea en ec, .string p.deflt], .pointer (some ⟨q, 0, none⟩)] ++ #[.pointer (some ⟨gs, 0, none⟩), .pointer (some ⟨gc, 0, none⟩)] = #[Value.agg #[.int .i64 p.kind, .slice fa fn fc, .slice na nn nc, .bool p.extra, .int .i64 p.items, .int .i64 p.least, .int .i64 p.most, .slice ea en ec, .string p.deflt], .pointer (some ⟨q, 0, none⟩), .pointer (some ⟨gs, 0, none⟩), .pointer (some ⟨gc, 0, none⟩)] := rfl
 rw [e9]
 obtain ⟨RES, hRES⟩ : ∃ r, fillC S p l c = r := ⟨_, rfl⟩
 rw [hRES] at hgo ⊢
 have HRES : Hid (p.fields.foldl (fillStepC S) (l, c) = RES) := Lib.hid hRES
 have hup : ∀ j, ((p.fields.take j).foldl (fillStepC S) (l, c)).2 ≤ 1099511627776 := fun j => by
  have h1 := (foldC_up S (p.fields.drop j) ((p.fields.take j).foldl (fillStepC S) (l, c))).1
  rw [← List.foldl_append, List.take_append_drop] at h1
  rw [HRES.out] at h1
  omega
 have Hup := Lib.hid hup
 clear e9 hgp hd200 hfn hgcT hb1 hbox hp hGT hT hob hI hz hgo hb hRES hup hlies hgood hgs
 go_enter Tryz.func48, Tryz.ntmps48
 go_upto_region 1 with fail
 rw [← hw1]
 rw [← hgp9]
 clear hw1 hgp9
 have cc := fun i => cell_block BX.out i
 go_wp2_with fail
 clear cc
 go_loopg [1, 16] fn (fun k u1 u16 wr => ∃ (j q' mm : Nat) (st : Flds × Nat), j + k = fn ∧ u1 = .pointer (some ⟨q', 0, none⟩) ∧ u16 = .int .i64 (j : Int) ∧ Hid (st = (p.fields.take j).foldl (fillStepC S) (l, c)) ∧ Hid (ObR (JvR mm T) T wr q' st.1) ∧ Hid (CameAt gc st.2 wr) ∧ Hid (KeepT [gc] w wr) ∧ Hid (Below w0.heap.size w0 wr) ∧ Hid (w1.heap.size ≤ wr.heap.size))
 case atStart => exact ⟨0, q, m, (l, c), by omega, rfl, rfl, Lib.hid rfl, HO1, HI1, HK1, HB1, Lib.hid (Nat.le_refl _)⟩
 case round =>
  clear HO1 HI1 HK1 HB1
  obtain ⟨j, q', mm, st, hjk, rfl, rfl, Hst, HO, HI, HK, HB, HZ⟩ := hrel
  cases gk with
  | zero =>
   have hjl : fn = j := by omega
   subst hjl
   have q9 : ¬ (fn : Int) < (fn : Int) := by omega
   have hst := Hst.out
   rw [List.take_of_length_le (by rw [Hfn.out]; exact Nat.le_refl _), HRES.out] at hst
   have HM : Hid (MadeO w0 [gc] T (CameAt gc) RES.1 RES.2 w (.returned (.pointer (some ⟨q', 0, none⟩))) wr) := Lib.hid ⟨q', mm, rfl, by rw [← hst]; exact HO.out, by rw [← hst]; exact HI.out, HK.out, HB.out⟩
   clear hst HO HI HK HB
   go_wp2_with fail
   go_ret
   exact HM.out
  | succ k =>
   have hjl : j < fn := by omega
   obtain ⟨f, hf⟩ : ∃ f, p.fields[j]? = some f := ⟨p.fields[j]'(by rw [Hfn.out]; exact hjl), List.getElem?_eq_getElem _⟩
   obtain ⟨bk, ok, ck, hv1, _, _, hbs1, hcell1⟩ := HP.out.fields.form (by rw [Hfn.out]; omega) (by omega)
   injection hv1 with u1 u2 u3
   subst u1
   clear u2 u3
   obtain ⟨ds1, _, hcc1, hds1, _⟩ := hcell1 j f hf
   subst hds1
   have e0 : wr.cell? ⟨bk, ok + j * 2, none⟩ = some (.string f.name) := (HB.out.cell (p := ⟨bk, _, none⟩) hbs1).trans (by simpa using hcc1 0 _ rfl)
   have e1 : wr.cell? ⟨bk, ok + j * 2 + 1, none⟩ = some (.int .i64 f.part) := (HB.out.cell (p := ⟨bk, _, none⟩) hbs1).trans (hcc1 1 _ rfl)
   have q1 : (0 : Int) ≤ (j : Int) := by omega
   have q2 : (j : Int) < (fn : Int) := by omega
   have hps := HGp.out.parts f (List.mem_of_getElem? hf)
   have hft := fold_take (S := S) hf (l, c)
   rw [← Hst.out] at hft
   obtain ⟨pn, hpn⟩ : ∃ pn : Nat, f.part = (pn : Int) := ⟨f.part.toNat, by omega⟩
   rw [hpn] at e1 hps
   have hpl : pn < S.length := by omega
   obtain ⟨b2, o2, p2, fa2, fn2, fc2, na2, nn2, nc2, ea2, en2, ec2, hsa, hsn9, hp2⟩ := HLies.out.part hpl
   have q3 : (0 : Int) ≤ (pn : Int) := by omega
   have q4 : (pn : Int) < (sn : Int) := by omega
   have hpa : partAt S f.part = p2 := by rw [hpn]; exact partAt_of hp2.at_
   have hds := (HLies.out.small p2 (List.mem_of_getElem? hp2.at_)).2.2.2.2
   obtain ⟨DV, hDV⟩ : ∃ v, dfl S f.part = v := ⟨_, rfl⟩
   have hdf : (JP.readL p2.deflt.data.toList).1 = DV := by rw [← hDV]; unfold dfl; rw [hpa]
   have hsk : skips S st.1 f = ((JP.get f.name.data.toList st.1).isSome || decide (p2.deflt = ByteArray.empty)) := by unfold skips hasN; rw [hpa]
   have hszl : JP.sizeF st.1 + potC st.2 ≤ 1000000 := by
    have h1 : JP.sizeF st.1 + potC st.2 ≤ JP.sizeF l + potC c := by
     have h3 := foldC_size Hd200.out (p.fields.take j) (l, c)
     rw [← Hst.out] at h3
     exact h3
    have h2 := Hz.out
    omega
   have hlen : st.1.length ≤ 1000000 := by have := JP.sizeF_long st.1; omega
   have hupj := Hup.out j
   rw [← Hst.out] at hupj
   obtain ⟨L, C, rfl⟩ : ∃ L C, st = (L, C) := ⟨st.1, st.2, rfl⟩
   dsimp only at hsk hlen hupj hszl
   have hst9 : fillStepC S (L, C) f = if skips S L f = true then (L, C) else (if C + 1 ≤ 1000 then JP.put f.name.data.toList (dfl S f.part) L else L, C + 1) := rfl
   rw [hDV, hsk] at hst9
   obtain ⟨NX, hNX⟩ : ∃ x, fillStepC S (L, C) f = x := ⟨_, rfl⟩
   rw [hNX] at hft hst9
   obtain ⟨w5, hw5⟩ : ∃ w5, w5 = wr.alloc (.cells #[.string f.name, .int .i64 (pn : Int)] 89) := ⟨_, rfl⟩
   obtain ⟨gf, hgf⟩ : ∃ gf, gf = wr.heap.size := ⟨_, rfl⟩
   have b5 : w5.heap[gf]? = some (.cells #[.string f.name, .int .i64 (pn : Int)] 89 (0, 0)) := by rw [hw5, hgf]; exact heap_alloc_new wr _
   have hb5 : Below wr.heap.size wr w5 := by rw [hw5]; exact (Below.refl _ _).alloc (Nat.le_refl _) _
   have ho5 := HO.out.keepJ (KeepT.of hb5)
   have HG := get_any (x := f.name.data.toList) ho5 (by show L.length ≤ _; omega)
   rw [mkB_of] at HG
   obtain ⟨GO, hGO⟩ : ∃ g, JP.get f.name.data.toList L = g := ⟨_, rfl⟩
   have hGO' : JP.get f.name.data.toList (L, C).1 = GO := hGO
   rw [hGO'] at HG
   rw [hGO] at hst9
   have HG := Lib.hid HG
   have HO5 := Lib.hid ho5
   have HI5 : Hid (CameAt gc C w5) := Lib.hid (below_block hb5 HI.out)
   have HK5 := Lib.hid (HK.out.trans (KeepT.of hb5))
   have HB5 := Lib.hid (HB.out.trans (hb5.mono HB.out.size))
   have HZ5 : Hid (w1.heap.size ≤ w5.heap.size) := Lib.hid (Nat.le_trans HZ.out hb5.size)
   have F5 := Lib.hid b5
   have ngf : gf ≠ gc := by have := HZ.out; omega
   have Hft := Lib.hid hft
   have HNXe := Lib.hid hst9
   have HP2 := Lib.hid hp2
   have Hhs := Lib.hid hdf
   have Hds := Lib.hid hds
   have dd := fun i => cell_block b5 i
   subst hsa
   clear hcell1 hcc1 hbs1 hf hps hft hpn hpl hsn9 hp2 hpa hds hDV hdf hsk hszl hst9 hNX b5 hb5 ho5 hGO hGO' HO HI HK HB HZ Hst
   go_upto_region 4 with fail
   rw [← hw5, ← hgf]
   clear hw5 hgf e0 e1 q1 q2
   go_wp2_with fail
   refine HG.out.mono ?_
   rintro E w6 ⟨vg, rfl, _, _, kd, rfl⟩
   have hbd := below_drewG w5.heap.size w5 kd
   obtain ⟨w7, hw7⟩ : ∃ u, w5.drewN kd = u := ⟨_, rfl⟩
   rw [hw7] at hbd ⊢
   have HO7 := Lib.hid (HO5.out.keepJ (KeepT.of hbd))
   have HI7 : Hid (CameAt gc C w7) := Lib.hid (below_block hbd HI5.out)
   have HK7 := Lib.hid (HK5.out.trans (KeepT.of hbd))
   have HB7 := Lib.hid (HB5.out.trans (hbd.mono HB5.out.size))
   have HZ7 : Hid (w1.heap.size ≤ w7.heap.size) := Lib.hid (Nat.le_trans HZ5.out hbd.size)
   have F7 := Lib.hid (below_block hbd F5.out)
   clear dd hbd hw7 HG HO5 HI5 HK5 HB5 HZ5 F5
   have dd := fun i => cell_block F7.out i
   have s0 : w7.cell? ⟨gs, 0, none⟩ = some (.slice (some ⟨b2, o2, none⟩) sn sc) := (HB7.out.cell (p := ⟨gs, _, none⟩) (blk_lt HGs.out)).trans (cell_block HGs.out 0)
   have s8 : w7.cell? ⟨b2, o2 + pn * 9 + 8, none⟩ = some (.string p2.deflt) := (HB7.out.cell (p := ⟨b2, _, none⟩) HP2.out.blk).trans HP2.out.c8
   have skip : (GO.isSome || decide (p2.deflt = ByteArray.empty)) = true → Hid ((L, C) = (p.fields.take (j + 1)).foldl (fillStepC S) (l, c)) := fun h => Lib.hid (by rw [Hft.out, HNXe.out, if_pos h])
   cases GO with
   | some z =>
    have Hst2 := skip rfl
    clear skip
    go_wp2_with fail
    go_roundg k
    case measure => omega
    case rel => exact ⟨j + 1, q', mm, (L, C), by omega, rfl, by go_num, Hst2, HO7, HI7, HK7, HB7, HZ7⟩
   | none =>
    by_cases hd : p2.deflt = ByteArray.empty
    ·have t1 : p2.deflt.toList = [] := by rw [hd, ByteArray.toList_eq]; rfl
     have t2 : p2.deflt.toList.isEmpty = true := by rw [t1]; rfl
     have Hst2 := skip (by rw [hd]; rfl)
     clear skip hd
     go_wp2_with fail
     go_roundg k
     case measure => omega
     case rel => exact ⟨j + 1, q', mm, (L, C), by omega, rfl, by go_num, Hst2, HO7, HI7, HK7, HB7, HZ7⟩
    ·have t1 : p2.deflt.toList.isEmpty = false := by
      cases h : p2.deflt.toList with
      | nil => exact absurd (toList_inj (h.trans (show ([] : List UInt8) = ByteArray.empty.toList by rw [ByteArray.toList_eq]; rfl))) hd
      | cons _ _ => rfl
     have t2 : (!p2.deflt.toList.isEmpty) = true := by rw [t1]; rfl
     have hns : ¬ (((none : Option JV).isSome || decide (p2.deflt = ByteArray.empty)) = true) := by rw [decide_eq_false hd]; simp
     have hnx := HNXe.out
     rw [if_neg hns] at hnx
     have Hnx := Lib.hid hnx
     have c0 : w7.cell? ⟨gc, 0, none⟩ = some (.int .i64 (C : Int)) := cell_block HI7.out 0
     have z0 : w7.frozen? ⟨gc, 0, none⟩ = false := free_block HI7.out 0
     obtain ⟨w8, hw8⟩ : ∃ w8, w8 = w7.setCell ⟨gc, 0, none⟩ (.int .i64 ((C : Int) + 1)) := ⟨_, rfl⟩
     obtain ⟨t81, t82⟩ := touch_setCell (i := 0) (v := .int .i64 ((C : Int) + 1)) HI7.out
     rw [← hw8] at t81 t82
     have hi8 : w8.heap[gc]? = some (.cells #[.int .i64 ((C + 1 : Nat) : Int)] 3 (0, 0)) := t81
     have HI8 : Hid (CameAt gc (C + 1) w8) := Lib.hid hi8
     have HO8 := Lib.hid (HO7.out.keepJ (KeepT.touch t82 HgT.out))
     have HK8 : Hid (KeepT [gc] w w8) := Lib.hid (HK7.out.trans (KeepT.touch t82 (List.mem_singleton.2 rfl)))
     have HB8 := Lib.hid (t82.below HB7.out hgc)
     have HZ8 : Hid (w1.heap.size ≤ w8.heap.size) := Lib.hid (by rw [t82.size]; exact HZ7.out)
     have F8 := Lib.hid (t82.block F7.out ngf)
     have c08 : w8.cell? ⟨gc, 0, none⟩ = some (.int .i64 ((C : Int) + 1)) := cell_block hi8 0
     clear skip hns hnx hd t81 t82 hi8 HI7 HO7 HK7 HB7 HZ7 F7
     go_upto_region 7 with fail
     rw [← hw8]
     clear hw8 c0 z0 s0 s8 dd t1 t2
     have dd := fun i => cell_block F8.out i
     have s0 : w8.cell? ⟨gs, 0, none⟩ = some (.slice (some ⟨b2, o2, none⟩) sn sc) := (HB8.out.cell (p := ⟨gs, _, none⟩) (blk_lt HGs.out)).trans (cell_block HGs.out 0)
     have s8 : w8.cell? ⟨b2, o2 + pn * 9 + 8, none⟩ = some (.string p2.deflt) := (HB8.out.cell (p := ⟨b2, _, none⟩) HP2.out.blk).trans HP2.out.c8
     by_cases hc : C + 1 ≤ 1000
     ·have qc : (C : Int) + 1 ≤ 1000 := by omega
      have Hst2 : Hid ((JP.put f.name.data.toList DV L, C + 1) = (p.fields.take (j + 1)).foldl (fillStepC S) (l, c)) := Lib.hid (by rw [Hft.out, Hnx.out, if_pos hc])
      have HRd := Lib.hid (read_low p2.deflt w8 Hds.out)
      rw [Hhs.out] at HRd
      clear hc
      go_wp2_with fail
      refine HRd.out.mono ?_
      rintro E w9 ⟨v, rfl, ⟨nj, hj⟩, hb9⟩
      have hT8 : ∀ b ∈ T, b < w8.heap.size := fun b hb => by
       have h1 := HT.out b hb
       have h2 := HK8.out.size
       omega
      have hjT := hj T hT8
      have ho9 := (HO8.out.keepJ (KeepT.of hb9)).upsJ (Nat.le_max_left mm nj)
      have HW := with_any (x := f.name.data.toList) ho9 (hjT.ups (Nat.le_max_right mm nj)) (fun b hb => Nat.lt_of_lt_of_le (hT8 b hb) hb9.size) (by show L.length ≤ _; omega)
      rw [mkB_of] at HW
      have HW := Lib.hid HW
      have HI9 : Hid (CameAt gc (C + 1) w9) := Lib.hid (below_block hb9 HI8.out)
      have HK9 := Lib.hid (HK8.out.trans (KeepT.of hb9))
      have HB9 := Lib.hid (HB8.out.trans (hb9.mono HB8.out.size))
      have HZ9 : Hid (w1.heap.size ≤ w9.heap.size) := Lib.hid (Nat.le_trans HZ8.out hb9.size)
      have F9 := Lib.hid (below_block hb9 F8.out)
      clear dd hj hT8 hjT ho9 hb9 HRd HI8 HO8 HK8 HB8 HZ8 F8 s0 s8 c08
      have dd := fun i => cell_block F9.out i
      go_wp2_with fail
      refine HW.out.mono ?_
      rintro E w10 ⟨q10, rfl, ho10, hb10⟩
      have HO10 := Lib.hid ho10
      have HI10 : Hid (CameAt gc (C + 1) w10) := Lib.hid (below_block hb10 HI9.out)
      have HK10 := Lib.hid (HK9.out.trans (KeepT.of hb10))
      have HB10 := Lib.hid (HB9.out.trans (hb10.mono HB9.out.size))
      have HZ10 : Hid (w1.heap.size ≤ w10.heap.size) := Lib.hid (Nat.le_trans HZ9.out hb10.size)
      clear dd ho10 hb10 HW HI9 HK9 HB9 HZ9 F9
      go_wp2_with fail
      go_roundg k
      case measure => omega
      case rel => exact ⟨j + 1, q10, max mm nj, (JP.put f.name.data.toList DV L, C + 1), by omega, rfl, by go_num, Hst2, HO10, HI10, HK10, HB10, HZ10⟩
     ·have qc : ¬ (C : Int) + 1 ≤ 1000 := by omega
      have Hst2 : Hid ((L, C + 1) = (p.fields.take (j + 1)).foldl (fillStepC S) (l, c)) := Lib.hid (by rw [Hft.out, Hnx.out, if_neg hc])
      clear hc
      go_wp2_with fail
      go_roundg k
      case measure => omega
      case rel => exact ⟨j + 1, q', mm, (L, C + 1), by omega, rfl, by go_num, Hst2, HO8, HI8, HK8, HB8, HZ8⟩
end Sch
end Go.Proofs.YtnmhjabihfhobaaGreatDoor
/- schema: Fill: how large what is filled is; filled again; plain. -/
namespace Go.Proofs.YtnmhjabihfhobaaGreatDoor
open Go.RowKit
open JP (JV Bs)
namespace Sch

theorem fold_sameC (s : List GPart) : ∀ (F : List GField) (l : Flds) (c : Nat), (∀ f ∈ F, skips s l f = true) → F.foldl (fillStepC s) (l, c) = (l, c)
 | [], _, _, _ => rfl
 | f :: r, l, c, h => by
  have e : fillStepC s (l, c) f = (l, c) := by unfold fillStepC; rw [if_pos (h f (List.mem_cons_self ..))]
  rw [List.foldl_cons, e]
  exact fold_sameC s r l c fun g hg => h g (List.mem_cons_of_mem _ hg)
theorem mapC_id {α : Type} {f : α → Nat → α × Nat} : ∀ (l : List α) (c : Nat), (∀ x ∈ l, ∀ c, f x c = (x, c)) → mapC f l c = (l, c)
 | [], _, _ => rfl
 | x :: r, c, h => by
  rw [mapC, h x (List.mem_cons_self ..) c]
  dsimp only
  rw [mapC_id r c fun y hy => h y (List.mem_cons_of_mem _ hy)]
theorem thru_again (s : List GPart) : ∀ (n : Nat) (p : GPart) (v : JV) (c : Nat), thruC s (fillC s) n p (fillV s n p v) c = (fillV s n p v, c)
 | 0, _, _, _ => rfl
 | n + 1, p, v, c => by
  have ih := thru_again s n
  unfold fillV at ih ⊢
  rw [thruV, thruC]
  by_cases hk : JP.kind v ≠ p.kind
  ·rw [if_pos hk, if_pos hk]
  ·rw [if_neg hk, kind_bodyT, if_neg hk]
   cases v with
   | list l =>
    have h := mapC_id (f := thruC s (fillC s) n (partAt s p.items)) (l.map (thruV s (fillO s) n (partAt s p.items))) c (fun x hx c => by
     obtain ⟨y, _, rfl⟩ := List.mem_map.1 hx
     exact ih _ y c)
    show (JV.list (mapC _ (l.map _) c).1, (mapC _ (l.map _) c).2) = _
    rw [h]; rfl
   | obj l =>
    have h0 : fillC s p ((fillO s p l).map (kidV p fun k => thruV s (fillO s) n (partAt s k))) c = ((fillO s p l).map (kidV p fun k => thruV s (fillO s) n (partAt s k)), c) := fold_sameC s _ _ _ fun f hf => by
     have h := fold_full s p.fields l f hf
     unfold skips hasN at h ⊢
     rw [get_mapK, Option.isSome_map]
     exact h
    have h := mapC_id (f := kidC p fun k => thruC s (fillC s) n (partAt s k)) ((fillO s p l).map (kidV p fun k => thruV s (fillO s) n (partAt s k))) c (fun x hx c => by
     obtain ⟨y, _, rfl⟩ := List.mem_map.1 hx
     unfold kidC
     rw [kidV_name]
     unfold kidV
     cases hf : fieldL p.fields (mkB y.1) with
     | none => rfl
     | some k => dsimp only; rw [ih])
    show (JV.obj (mapC _ (fillC s p _ c).1 (fillC s p _ c).2).1, (mapC _ (fillC s p _ c).1 (fillC s p _ c).2).2) = _
    rw [h0]
    dsimp only
    rw [h]; rfl
   | _ => rfl
theorem foldC_more (s : List GPart) : ∀ (F : List GField) (st : Flds × Nat), JP.sizeF st.1 + aC (F.foldl (fillStepC s) st).2 ≤ JP.sizeF (F.foldl (fillStepC s) st).1 + aC st.2
 | [], _ => Nat.le_refl _
 | f :: r, st => by
  have h1 := foldC_more s r (fillStepC s st f)
  rw [List.foldl_cons]
  have h2 : JP.sizeF st.1 + aC (fillStepC s st f).2 ≤ JP.sizeF (fillStepC s st f).1 + aC st.2 := by
   unfold fillStepC
   by_cases hs : skips s st.1 f = true
   ·rw [if_pos hs]; exact Nat.le_refl _
   ·rw [if_neg hs]
    have hg : JP.get f.name.data.toList st.1 = none := by
     unfold skips hasN at hs
     have := hs
     cases h : JP.get f.name.data.toList st.1 with
     | none => rfl
     | some z => rw [h] at this; simp at this
    dsimp only
    by_cases hc : st.2 + 1 ≤ 1000
    ·rw [if_pos hc, JP.put_size _ _ _ hg]
     have := JP.size_pos (dfl s f.part)
     unfold aC
     omega
    ·rw [if_neg hc]
     unfold aC
     omega
  omega
theorem mapC_more {α β : Type} {f : α → Nat → β × Nat} {z : α → Nat} {z' : β → Nat} (hf : ∀ x c, z x + aC (f x c).2 ≤ z' (f x c).1 + aC c) : ∀ (l : List α) (c : Nat), (l.map z).sum + aC (mapC f l c).2 ≤ ((mapC f l c).1.map z').sum + aC c
 | [], c => Nat.le_refl _
 | x :: r, c => by
  have h1 := hf x c
  have h2 := mapC_more hf r (f x c).2
  rw [mapC, List.map_cons, List.sum_cons, List.map_cons, List.sum_cons]
  dsimp only
  omega
theorem thruC_more (s : List GPart) : ∀ (n : Nat) (p : GPart) (v : JV) (c : Nat), JP.size v + aC (thruC s (fillC s) n p v c).2 ≤ JP.size (thruC s (fillC s) n p v c).1 + aC c
 | 0, _, _, _ => Nat.le_refl _
 | n + 1, p, v, c => by
  have ih := thruC_more s n
  rw [thruC]
  split
  ·exact Nat.le_refl _
  ·cases v with
   | list l =>
    have := mapC_more (z := JP.size) (z' := JP.size) (fun x c => ih (partAt s p.items) x c) l c
    rw [sum_sizeL, sum_sizeL] at this
    show JP.size (.list l) + aC (mapC _ l c).2 ≤ JP.size (.list _) + _
    rw [JP.size, JP.size]
    omega
   | obj l =>
    have h1 := foldC_more s p.fields (l, c)
    have h2 := mapC_more (z := fun y : Bs × JV => JP.size y.2) (z' := fun y : Bs × JV => JP.size y.2) (f := kidC p fun j => thruC s (fillC s) n (partAt s j)) (fun y c => by
     unfold kidC
     split
     ·exact ih _ _ _
     ·exact Nat.le_refl _) (fillC s p l c).1 (fillC s p l c).2
    rw [sum_sizeF, sum_sizeF] at h2
    have h1' : JP.sizeF l + aC (fillC s p l c).2 ≤ JP.sizeF (fillC s p l c).1 + aC c := h1
    show JP.size (.obj l) + aC (mapC _ _ _).2 ≤ JP.size (.obj _) + _
    rw [JP.size, JP.size]
    omega
   | _ => exact Nat.le_refl _
def KT : Nat := 2100000
theorem foldC_len {s : List GPart} (hd : ∀ k, (partAt s k).deflt ≠ ByteArray.empty → (JP.text (dfl s k)).length ≤ 2000) : ∀ (F : List GField) (st : Flds × Nat), (∀ f ∈ F, f.name.size ≤ 1048576) → JP.lenF (F.foldl (fillStepC s) st).1 + KT * aC st.2 ≤ JP.lenF st.1 + KT * aC (F.foldl (fillStepC s) st).2
 | [], _, _ => Nat.le_refl _
 | f :: r, st, hF => by
  have h1 := foldC_len hd r (fillStepC s st f) (fun g hg => hF g (List.mem_cons_of_mem _ hg))
  have hn := hF f (List.mem_cons_self ..)
  rw [List.foldl_cons]
  have h2 : JP.lenF (fillStepC s st f).1 + KT * aC st.2 ≤ JP.lenF st.1 + KT * aC (fillStepC s st f).2 := by
   unfold fillStepC
   by_cases hs : skips s st.1 f = true
   ·rw [if_pos hs]; exact Nat.le_refl _
   ·rw [if_neg hs]
    have hs2 : hasN st.1 f = false ∧ (partAt s f.part).deflt ≠ ByteArray.empty := by
     unfold skips at hs
     simpa using hs
    have hg : JP.get f.name.data.toList st.1 = none := by
     have := hs2.1
     unfold hasN at this
     simpa using this
    have h3 := hd f.part hs2.2
    have h4 := JP.quote_bound f.name.data.toList
    have h5 : f.name.data.toList.length = f.name.size := Array.length_toList
    dsimp only
    by_cases hc : st.2 + 1 ≤ 1000
    ·rw [if_pos hc, JP.put_len _ _ _ hg]
     unfold aC KT
     omega
    ·rw [if_neg hc]
     unfold aC KT
     omega
  omega
theorem mapC_len2 {α β : Type} {f : α → Nat → β × Nat} {z : α → Nat} {z' : β → Nat} (hf : ∀ x c, z' (f x c).1 + KT * aC c ≤ z x + KT * aC (f x c).2) : ∀ (l : List α) (c : Nat), ((mapC f l c).1.map z').sum + KT * aC c ≤ (l.map z).sum + KT * aC (mapC f l c).2
 | [], c => Nat.le_refl _
 | x :: r, c => by
  have h1 := hf x c
  have h2 := mapC_len2 hf r (f x c).2
  rw [mapC, List.map_cons, List.sum_cons, List.map_cons, List.sum_cons]
  dsimp only
  omega
theorem sum_lenL : ∀ l : List JV, (l.map fun x => (JP.text x).length + 1).sum = JP.lenL l
 | [] => rfl
 | x :: r => by rw [List.map_cons, List.sum_cons, JP.lenL, sum_lenL r]
theorem sum_lenF : ∀ l : Flds, (l.map fun y => (JP.quote y.1).length + 1 + (JP.text y.2).length + 1).sum = JP.lenF l
 | [] => rfl
 | (n, x) :: r => by rw [List.map_cons, List.sum_cons, JP.lenF, sum_lenF r]
theorem list_text (l : List JV) : (JP.text (.list l)).length = if l = [] then 2 else JP.lenL l + 1 := by
 by_cases h : l = []
 ·subst h; rfl
 ·rw [if_neg h]; exact JP.list_len_eq l h
theorem obj_text (l : Flds) : (JP.text (.obj l)).length = if l = [] then 2 else JP.lenF l + 1 := by
 by_cases h : l = []
 ·subst h; rfl
 ·rw [if_neg h]; exact JP.obj_len_eq l h
theorem thruC_len {s : List GPart} (hd : ∀ k, (partAt s k).deflt ≠ ByteArray.empty → (JP.text (dfl s k)).length ≤ 2000) (hF : ∀ k, ∀ f ∈ (partAt s k).fields, f.name.size ≤ 1048576) : ∀ (n : Nat) (k : Int) (v : JV) (c : Nat), (JP.text (thruC s (fillC s) n (partAt s k) v c).1).length + KT * aC c ≤ (JP.text v).length + KT * aC (thruC s (fillC s) n (partAt s k) v c).2
 | 0, _, _, _ => Nat.le_refl _
 | n + 1, k, v, c => by
  have ih := thruC_len hd hF n
  rw [thruC]
  split
  ·exact Nat.le_refl _
  ·cases v with
   | list l =>
    have h1 := mapC_len2 (z := fun x => (JP.text x).length + 1) (z' := fun x => (JP.text x).length + 1) (f := thruC s (fillC s) n (partAt s (partAt s k).items)) (fun x c => by have := ih (partAt s k).items x c; omega) l c
    rw [sum_lenL, sum_lenL] at h1
    have h2 := mapC_len (thruC s (fillC s) n (partAt s (partAt s k).items)) l c
    show (JP.text (.list (mapC _ l c).1)).length + _ ≤ _ + KT * aC (mapC _ l c).2
    rw [list_text, list_text]
    by_cases hl : l = []
    ·subst hl
     rw [if_pos rfl, if_pos (show (mapC _ [] c).1 = [] from rfl)]
     exact Nat.le_refl _
    ·rw [if_neg hl, if_neg (fun e => hl (List.eq_nil_of_length_eq_zero (by rw [← h2, e]; rfl)))]
     omega
   | obj l =>
    have h1 : JP.lenF (fillC s (partAt s k) l c).1 + KT * aC c ≤ JP.lenF l + KT * aC (fillC s (partAt s k) l c).2 := foldC_len hd (partAt s k).fields (l, c) (hF k)
    have h3 := mapC_len2 (z := fun y : Bs × JV => (JP.quote y.1).length + 1 + (JP.text y.2).length + 1) (z' := fun y : Bs × JV => (JP.quote y.1).length + 1 + (JP.text y.2).length + 1) (f := kidC (partAt s k) fun j => thruC s (fillC s) n (partAt s j)) (fun y c => by
     unfold kidC
     split
     ·rename_i j _
      have := ih j y.2 c
      dsimp only
      omega
     ·exact Nat.le_refl _) (fillC s (partAt s k) l c).1 (fillC s (partAt s k) l c).2
    rw [sum_lenF, sum_lenF] at h3
    show (JP.text (.obj (mapC _ _ _).1)).length + _ ≤ _ + KT * aC (mapC _ _ _).2
    rw [obj_text, obj_text]
    have h4 : (if l = [] then 2 else JP.lenF l + 1) ≥ JP.lenF l + 1 ∧ (if l = [] then 2 else JP.lenF l + 1) ≥ 2 := by
     by_cases hl : l = []
     ·subst hl; exact ⟨by decide, by decide⟩
     ·rw [if_neg hl]
      refine ⟨Nat.le_refl _, ?_⟩
      cases l with
      | nil => exact absurd rfl hl
      | cons y r => obtain ⟨m, x⟩ := y; rw [JP.lenF]; omega
    have h6 : aC c ≤ aC (mapC (kidC (partAt s k) fun j => thruC s (fillC s) n (partAt s j)) (fillC s (partAt s k) l c).1 (fillC s (partAt s k) l c).2).2 := by
     have h7 := thruC_up s (n + 1) (partAt s k) (.obj l) c
     have h8 : c ≤ (mapC (kidC (partAt s k) fun j => thruC s (fillC s) n (partAt s j)) (fillC s (partAt s k) l c).1 (fillC s (partAt s k) l c).2).2 := by
      rw [thruC] at h7
      split at h7
      ·contradiction
      ·exact h7
     unfold aC; omega
    split
    ·have h9 := Nat.mul_le_mul_left KT h6
     omega
    ·omega
   | _ => exact Nat.le_refl _
end Sch
end Go.Proofs.YtnmhjabihfhobaaGreatDoor
/- schema.Prune: its contract, and what SchemaPrunes asks. -/
namespace Go.Proofs.YtnmhjabihfhobaaGreatDoor
open Go.RowKit
open JP (JV Bs)
namespace Sch

def prunedV (S : List GPart) (d : Bs) : JV := thruV S pruneO S.length (partAt S 0) (JP.readL d).1
def pruneT (S : List GPart) (d : Bs) : Bs := if bothE S d = 0 then JP.text (prunedV S d) else []
theorem pruned_fit {S : List GPart} {d : Bs} (h : bothE S d = 0) : JP.Fit (prunedV S d) := (prune_less S _ _ _).fit (JP.read_fit' (both_ok h).2)
theorem keeps_prune (w0 : World) : Keeps3 (σ := Unit) w0 [] pruneC (fun _ _ => True) (fun _ => 0) (fun _ => True) where
 below := fun _ _ _ h _ => h
 touch := fun _ _ _ _ h _ _ _ => h
 low := fun b hb => by cases hb
 size := fun p l c => by
  have h : ∀ r : Flds, JP.sizeF (pruneO p r) ≤ JP.sizeF r := fun r => by
   unfold pruneO
   induction r with
   | nil => exact Nat.le_refl _
   | cons y r ih =>
    obtain ⟨m, x⟩ := y
    by_cases hq : ((fieldL p.fields (mkB m)).isSome || p.extra) = true
    ·rw [List.filter_cons_of_pos (p := fun y : Bs × JV => (fieldL p.fields (mkB y.1)).isSome || p.extra) hq, JP.sizeF, JP.sizeF]; omega
    ·rw [List.filter_cons_of_neg (p := fun y : Bs × JV => (fieldL p.fields (mkB y.1)).isSome || p.extra) hq, JP.sizeF]; omega
  have := h l
  show JP.sizeF (pruneO p l) + 0 ≤ JP.sizeF l + 0
  omega
 down := fun _ _ _ h => h
def PruneAt (S : List GPart) (d : Bs) (w : World) (e : Ending) (w' : World) : Prop := e = .returned (.tuple #[.string (mkB (pruneT S d)), .int .i64 (bothE S d)]) ∧ Below w.heap.size w w'
set_option maxRecDepth 100000 in
set_option maxHeartbeats 3200000 in
theorem prune_any {S : List GPart} {sa : Option Addr} {sn sc : Nat} {w : World} (hlies : Lies S (.slice sa sn sc) w) (hS : S.length ≤ 1048576) (d : ByteArray) (hd : d.size ≤ 1048576) :
  Calls Tryz.prog 19 #[.slice sa sn sc, .string d] w (PruneAt S d.data.toList w) := by
 have HB := Lib.hid (both_any hlies hS d hd)
 unfold PruneAt
 have hno : bothE S d.data.toList ≠ 0 → pruneT S d.data.toList = [] := fun h => by unfold pruneT; rw [if_neg h]
 have hyes : bothE S d.data.toList = 0 → pruneT S d.data.toList = JP.text (prunedV S d.data.toList) := fun h => by unfold pruneT; rw [if_pos h]
 have hok := @both_ok S d.data.toList
 have hpf := @pruned_fit S d.data.toList
 have hpv : prunedV S d.data.toList = thruV S pruneO S.length (partAt S 0) (JP.readL d.data.toList).1 := rfl
 obtain ⟨PV, hPV⟩ : ∃ x, prunedV S d.data.toList = x := ⟨_, rfl⟩
 obtain ⟨PT, hPT⟩ : ∃ x, pruneT S d.data.toList = x := ⟨_, rfl⟩
 unfold BothAt at HB
 obtain ⟨b, hb⟩ : ∃ b, bothE S d.data.toList = b := ⟨_, rfl⟩
 rw [hb] at HB hno hyes hok hpf ⊢
 rw [hPT] at hno hyes ⊢
 rw [hPV] at hyes hpf hpv
 have HLies := Lib.hid hlies
 clear hlies hS hd hPV hPT hb
 by_cases h0 : b = 0
 ·subst h0
  obtain ⟨ok1, ok2⟩ := hok rfl
  have HGood := Lib.hid (check_good ok1).1
  have Hfit := Lib.hid (JP.read_fit' ok2)
  have HPF := Lib.hid (hpf rfl)
  have HT := Lib.hid (hyes rfl)
  obtain ⟨x, hx⟩ : ∃ x, (JP.readL d.data.toList).1 = x := ⟨_, rfl⟩
  rw [hx] at HB hpv Hfit
  have Hpv := Lib.hid hpv
  clear ok1 ok2 hok hno hyes hpf hpv hx
  go_enter Tryz.func19, Tryz.ntmps19
  go_wp2_with fail
  refine HB.out.mono ?_
  rintro E w5 ⟨v, rfl, hj, hb5⟩
  obtain ⟨nj, hj⟩ := hj trivial
  have hl5 := HLies.out.below hb5
  have hpos : 0 < S.length := HGood.out.1
  have hth := through_any (f := 40) (caps := #[]) (run_callFunc_body Tryz.func40 (by kernel_rfl) (by kernel_rfl)) HGood.out hl5 (keeps_prune w5) (makes_prune hl5.small) S.length 0 nj [] v x () w5 hpos (by omega) (fun g h => by cases h) (fun g h => by cases h) hj trivial (by
   have := Hfit.out.2.1
   show _ + 0 ≤ _; omega) trivial (Below.refl _ _)
  rw [show ((0 : Nat) : Int) = 0 from rfl, thruC_prune, ← Hpv.out] at hth
  have HTh := Lib.hid hth
  have HB5 := Lib.hid hb5
  have HE5 := Lib.hid (HLies.out.env.below hb5)
  clear hb5 hj hl5 hpos hth
  go_wp2_with fail
  refine HTh.out.mono ?_
  rintro E w6 ⟨u, m6, rfl, hu, _, _, hb6⟩
  have hte := tell_any m6 u PV w6 hu (by have := HPF.out.2.2.2; omega) (by have := HPF.out.2.1; omega) (HE5.out.1.below hb6)
  obtain ⟨t1, t2⟩ := JP.tell_fit HPF.out
  rw [t1, t2, ← HT.out] at hte
  have HTe := Lib.hid hte
  have HB6 := Lib.hid (HB5.out.trans (hb6.mono HB5.out.size))
  clear hu hb6 hte t1 t2
  go_wp2_with fail
  refine HTe.out.mono ?_
  rintro E w7 ⟨rfl, hb7⟩
  have HB7 := Lib.hid (HB6.out.trans (hb7.mono HB6.out.size))
  clear hb7
  go_wp2_with fail
  go_ret2
  exact ⟨rfl, HB7.out⟩
 ·have q : (b != 0) = true := by rw [bne_iff_ne]; exact h0
  have ht : PT = [] := hno h0
  subst ht
  clear h0 hok hno hyes hpf hpv
  go_enter Tryz.func19, Tryz.ntmps19
  go_wp2_with fail
  refine HB.out.mono ?_
  rintro E w1 ⟨v, rfl, _, hb⟩
  have HB1 := Lib.hid hb
  clear hb
  go_wp2_with fail
  go_ret2
  exact ⟨rfl, HB1.out⟩
theorem prunes_ok {S : List GPart} {d : Bs} (h : bothE S d = 0) : bothE S (pruneT S d) = 0 ∧ pruneT S (pruneT S d) = pruneT S d ∧ (∀ x ∈ faultsL S (pruneT S d), x.2 ≠ 6) ∧ JP.readL (pruneT S d) = (prunedV S d, 0) ∧ JP.size (prunedV S d) ≤ JP.size (JP.readL d).1 := by
 have hf := pruned_fit h
 have e1 : pruneT S d = JP.text (prunedV S d) := if_pos h
 have hr : JP.readL (pruneT S d) = (prunedV S d, 0) := by rw [e1]; exact JP.fit_read hf
 have hb : bothE S (pruneT S d) = 0 := by unfold bothE; rw [if_pos (both_ok h).1, hr]
 have ha : prunedV S (pruneT S d) = prunedV S d := by
  have : prunedV S (pruneT S d) = thruV S pruneO S.length (partAt S 0) (JP.readL (pruneT S d)).1 := rfl
  rw [this, hr]
  exact prune_again S _ _ _
 refine ⟨hb, ?_, ?_, hr, (prune_less S _ _ _).1⟩
 ·have : pruneT S (pruneT S d) = JP.text (prunedV S (pruneT S d)) := if_pos hb
  rw [this, ha, e1]
 ·intro x hx
  unfold faultsL at hx
  rw [if_pos hb, hr] at hx
  exact prune_known S S.length (partAt S 0) [] (JP.readL d).1 x hx
end Sch
end Go.Proofs.YtnmhjabihfhobaaGreatDoor
