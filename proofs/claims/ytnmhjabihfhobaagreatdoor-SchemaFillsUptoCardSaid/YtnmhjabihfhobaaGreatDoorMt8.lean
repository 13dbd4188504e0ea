/- Texts of ours joined. -/
import Derived.Deep.LoopGhost
import Derived.Deep.DeepCutAuto
import Derived.Lib.ItoaLen
import Derived.Test.YtnmhjabihfhobaaGreatDoorMt7
set_option linter.unusedVariables false
set_option linter.unusedSimpArgs false
namespace Go.Proofs.YtnmhjabihfhobaaGreatDoor
namespace Sch
open Go.RowKit
open JP (JV Bs)
/-- the Default of a part -/
def dfl (s : List GPart) (k : Int) : JV := (JP.readL (partAt s k).deflt.data.toList).1
def hasN (l : Flds) (f : GField) : Bool := (JP.get f.name.data.toList l).isSome
def skips (s : List GPart) (l : Flds) (f : GField) : Bool := hasN l f || decide ((partAt s f.part).deflt = ByteArray.empty)
def fillStep (s : List GPart) (l : Flds) (f : GField) : Flds := if skips s l f then l else JP.put f.name.data.toList (dfl s f.part) l
def fillO (s : List GPart) (p : GPart) (l : Flds) : Flds := p.fields.foldl (fillStep s) l
def fillV (s : List GPart) (n : Nat) (p : GPart) (v : JV) : JV := thruV s (fillO s) n p v
theorem step_keeps (s : List GPart) (a : Bs) (l : Flds) (f : GField) {c : JV} (h : JP.get a l = some c) : JP.get a (fillStep s l f) = some c := by
  unfold fillStep
  split
  · exact h
  · rename_i hs
    rw [JP.get_put, if_neg, h]
    intro e
    apply hs
    unfold skips hasN
    rw [← e, h]; rfl
theorem fold_keeps (s : List GPart) (a : Bs) {c : JV} : ∀ (F : List GField) (l : Flds), JP.get a l = some c → JP.get a (F.foldl (fillStep s) l) = some c
  | [], _, h => h
  | f :: r, l, h => fold_keeps s a r _ (step_keeps s a l f h)
theorem skips_keeps (s : List GPart) (F : List GField) (l : Flds) (f : GField) (h : skips s l f = true) : skips s (F.foldl (fillStep s) l) f = true := by
  unfold skips hasN at h ⊢
  rw [Bool.or_eq_true] at h ⊢
  refine h.imp (fun h => ?_) id
  obtain ⟨c, hc⟩ := Option.isSome_iff_exists.1 h
  rw [fold_keeps s _ F l hc]; rfl
theorem step_full (s : List GPart) (l : Flds) (f : GField) : skips s (fillStep s l f) f = true := by
  unfold fillStep
  split
  · assumption
  · unfold skips hasN
    rw [JP.get_put_same]; rfl
theorem fold_full (s : List GPart) : ∀ (F : List GField) (l : Flds), ∀ f ∈ F, skips s (F.foldl (fillStep s) l) f = true
  | [], _, _, h => by cases h
  | f :: r, l, g, h => by
    rcases List.mem_cons.1 h with rfl | h
    · exact skips_keeps s r _ _ (step_full s l g)
    · exact fold_full s r _ g h
theorem fold_srt (s : List GPart) : ∀ (F : List GField) (l : Flds), JP.Srt l → JP.Srt (F.foldl (fillStep s) l)
  | [], _, h => h
  | f :: r, l, h => fold_srt s r _ (by unfold fillStep; split; exact h; exact JP.put_srt h)
theorem get_mapK (a : Bs) (p : GPart) (rec : Int → JV → JV) : ∀ l : Flds, JP.get a (l.map (kidV p rec)) = (JP.get a l).map fun x => (kidV p rec (a, x)).2
  | [] => rfl
  | (m, x) :: r => by
    rw [List.map_cons]
    have e : (kidV p rec (m, x)).1 = m := kidV_name p rec (m, x)
    obtain ⟨u, hu⟩ : ∃ u, kidV p rec (m, x) = (m, u) := ⟨_, Prod.ext e rfl⟩
    rw [hu, JP.get, JP.get]
    by_cases h : m = a
    · subst h
      rw [if_pos rfl, if_pos rfl, Option.map_some, hu]
    · rw [if_neg h, if_neg h]
      exact get_mapK a p rec r
/-- what was there is there: a leaf as it was -/
theorem fill_at (s : List GPart) : ∀ (way : List Bs) (n : Nat) (p : GPart) (v c : JV), JP.atW v way = some c → ∃ c', JP.atW (fillV s n p v) way = some c' ∧ (JP.kind c ≠ 5 → JP.kind c ≠ 6 → c' = c)
  | [], n, p, v, c, h => by
    rw [JP.atW] at h ⊢
    obtain rfl := Option.some.inj h
    refine ⟨_, rfl, fun h5 h6 => ?_⟩
    unfold fillV
    cases n with
    | zero => rfl
    | succ n =>
      rw [thruV]
      split
      · rfl
      · cases v with
        | list l => exact absurd rfl h5
        | obj l => exact absurd rfl h6
        | _ => rfl
  | t :: r, n, p, v, c, h => by
    rw [JP.atW_cons] at h ⊢
    have same : ∃ c', ((JP.child v t).bind fun c => JP.atW c r) = some c' ∧ (JP.kind c ≠ 5 → JP.kind c ≠ 6 → c' = c) := ⟨c, h, fun _ _ => rfl⟩
    obtain ⟨d, hd, hc⟩ := Option.bind_eq_some_iff.1 h
    unfold fillV
    cases n with
    | zero => exact same
    | succ n =>
      rw [thruV]
      split
      · exact same
      · cases v with
        | list l =>
          have hd' : (JP.idx t l.length).bind (fun i => l[i]?) = some d := hd
          obtain ⟨i, hi, hx⟩ := Option.bind_eq_some_iff.1 hd'
          have e : JP.child (.list (l.map (thruV s (fillO s) n (partAt s p.items)))) t = some (thruV s (fillO s) n (partAt s p.items) d) := by
            show (JP.idx t (l.map _).length).bind (fun i => (l.map _)[i]?) = _
            rw [List.length_map, hi]
            show (l.map _)[i]? = _
            rw [List.getElem?_map, hx]; rfl
          show ∃ c', ((JP.child (.list (l.map (thruV s (fillO s) n (partAt s p.items)))) t).bind fun c => JP.atW c r) = some c' ∧ _
          rw [e]
          exact fill_at s r n _ d c hc
        | obj l =>
          have hd' : JP.get t l = some d := hd
          have e : JP.child (.obj ((fillO s p l).map (kidV p fun k => thruV s (fillO s) n (partAt s k)))) t = some (kidV p (fun k => thruV s (fillO s) n (partAt s k)) (t, d)).2 := by
            show JP.get t _ = _
            rw [get_mapK]
            unfold fillO
            rw [fold_keeps s t _ l hd']; rfl
          show ∃ c', ((JP.child (.obj ((fillO s p l).map (kidV p fun k => thruV s (fillO s) n (partAt s k)))) t).bind fun c => JP.atW c r) = some c' ∧ _
          rw [e]
          unfold kidV
          split
          · exact fill_at s r n _ d c hc
          · exact ⟨c, hc, fun _ _ => rfl⟩
        | _ => exact same
theorem part_cases (s : List GPart) (k : Int) : partAt s k = noPart ∨ s[k.toNat]? = some (partAt s k) := by
  unfold partAt
  cases h : s[k.toNat]? with
  | none => exact .inl rfl
  | some p => exact .inr rfl
end Sch
end Go.Proofs.YtnmhjabihfhobaaGreatDoor
namespace Go.Proofs.YtnmhjabihfhobaaGreatDoor
namespace Sch
open Go.RowKit
open JP (JV Bs)
theorem Tryz.sizePart : (Tryz.prog.info? 73).map (·.size) = some 9 := by kernel_rfl
theorem flat_take {α β : Type} {f : α → List β} {l : List α} {i : Nat} {y : α} (h : l[i]? = some y) : (l.take (i + 1)).flatMap f = (l.take i).flatMap f ++ f y := by
  rw [List.take_add_one, h, Option.toList_some, List.flatMap_append, List.flatMap_cons, List.flatMap_nil, List.append_nil]
theorem fieldL_part : ∀ {F : List GField} {n : ByteArray} {k : Int}, fieldL F n = some k → ∃ f ∈ F, f.part = k
  | [], _, _, h => by cases h
  | f :: r, n, k, h => by
    rw [fieldL] at h
    split at h
    · exact ⟨f, List.mem_cons_self .., Option.some.inj h⟩
    · obtain ⟨g, h1, h2⟩ := fieldL_part h
      exact ⟨g, List.mem_cons_of_mem _ h1, h2⟩
/-- the contract of 'value', for parts from some one on -/
def LookIn (S : List GPart) (sv : Value) (w0 : World) (n : Nat) : Prop := ∀ (g i m : Nat) (v wv : Value) (x : JV) (way : List Bs) (F : List GFault) (w : World), i < S.length → S.length - i ≤ n → JvAt m [] w0 v x → StrS w wv (way.map mkB) → LookAt g sv F w → Below w0.heap.size w0 w → w0.heap.size ≤ g →
    F.length + 16 * JP.size x ≤ 1000000 → (way.map fun s => s.length + 1).sum + (JP.text x).length + 30 * JP.deep x ≤ 20000 →
    Calls Tryz.prog 46 #[.pointer (some ⟨g, 0, none⟩), .int .i64 (i : Int), v, wv] w (LookSaid w0 g sv (F ++ (lookV S n (partAt S (i : Int)) way x).map told) w)
/-- the needs that are not there, the fields that nobody knows, what is within -/
def needF (way : List Bs) (l : Flds) (m : ByteArray) : List (List Bs × Int) := if (JP.get m.data.toList l).isSome = true then [] else [((way ++ [m.data.toList], 7) : List Bs × Int)]
def nameF (p : GPart) (way : List Bs) (y : Bs × JV) : List (List Bs × Int) := if (fieldL p.fields (mkB y.1)).isSome = true ∨ p.extra = true then [] else [((way ++ [y.1], 6) : List Bs × Int)]
def kidF (s : List GPart) (n : Nat) (p : GPart) (way : List Bs) (y : Bs × JV) : List (List Bs × Int) := match fieldL p.fields (mkB y.1) with
  | some k => lookV s n (partAt s k) (way ++ [y.1]) y.2
  | none => []
theorem body_obj (s : List GPart) (n : Nat) (p : GPart) (way : List Bs) (l : Flds) : bodyL s (lookV s n) p way (.obj l) = p.need.flatMap (needF way l) ++ (l.flatMap (nameF p way) ++ l.flatMap (kidF s n p way)) := rfl
theorem need_len (way : List Bs) (l : Flds) : ∀ k : List ByteArray, (k.flatMap (needF way l)).length ≤ k.length
  | [] => Nat.le_refl _
  | m :: r => by
    have ih := need_len way l r
    rw [List.flatMap_cons, List.length_append, List.length_cons]
    have : (needF way l m).length ≤ 1 := by unfold needF; split <;> simp
    omega
theorem name_len (p : GPart) (way : List Bs) : ∀ l : Flds, (l.flatMap (nameF p way)).length ≤ l.length
  | [] => Nat.le_refl _
  | m :: r => by
    have ih := name_len p way r
    rw [List.flatMap_cons, List.length_append, List.length_cons]
    have : (nameF p way m).length ≤ 1 := by unfold nameF; split <;> simp
    omega
/-- so many faults there can be -/
theorem look_len {s : List GPart} (hn : ∀ k, (partAt s k).need.length ≤ 8) : ∀ (n : Nat) (k : Int) (way : List Bs) (v : JV), (lookV s n (partAt s k) way v).length + 1 ≤ 16 * JP.size v
  | 0, _, _, v => by have := JP.size_pos v; rw [lookV]; simp; omega
  | n + 1, k, way, v => by
    have ih := look_len hn n
    have hz := JP.size_pos v
    rw [lookV]
    split
    · simp only [List.length_cons, List.length_nil]; omega
    · have hsp : ∀ z, (spanL (partAt s k) z way).length ≤ 2 := fun z => by unfold spanL; rw [List.length_append]; split <;> split <;> simp
      rw [List.length_append]
      have he : (if 0 < (partAt s k).enum.length ∧ enumHas (partAt s k) v = false then [((way, 19) : List Bs × Int)] else []).length ≤ 1 := by split <;> simp
      cases v with
      | nul => show _ + ([] : List (List Bs × Int)).length + 1 ≤ _; simp only [List.length_nil]; omega
      | bool b => show _ + ([] : List (List Bs × Int)).length + 1 ≤ _; simp only [List.length_nil]; omega
      | num b => have := hsp b; show _ + (spanL _ b way).length + 1 ≤ _; omega
      | str b => have := hsp b.length; show _ + (spanL _ (b.length : Nat) way).length + 1 ≤ _; omega
      | list l =>
        have h1 := hsp l.length
        have h2 : ∀ j : Nat, j ≤ l.length → ((List.range j).flatMap (fun (i : Nat) => lookV s n (partAt s (partAt s k).items) (way ++ [Lib.itoa (i : Int)]) ((l[i]?).getD .nul))).length + j ≤ 16 * JP.sizeL (l.take j) := fun j => by
          induction j with
          | zero => intro _; simp
          | succ j hj =>
            intro hjl
            have hj := hj (by omega)
            rw [List.range_succ, List.flatMap_append, List.length_append, List.flatMap_cons, List.flatMap_nil, List.append_nil, List.take_add_one, List.getElem?_eq_getElem (show j < l.length by omega), Option.toList_some, JP.sizeL_append, JP.sizeL, JP.sizeL]
            have := ih (partAt s k).items (way ++ [Lib.itoa (j : Int)]) l[j]
            show _ + (lookV s n _ _ l[j]).length + _ ≤ _
            omega
        have h3 := h2 l.length (Nat.le_refl _)
        rw [List.take_length] at h3
        show _ + (spanL _ (l.length : Nat) way ++ _).length + 1 ≤ 16 * JP.size (.list l)
        rw [List.length_append, JP.size]
        omega
      | obj l =>
        have h1 := need_len way l (partAt s k).need
        have h2 := name_len (partAt s k) way l
        have h4 := hn k
        have h3 : ∀ r : Flds, (r.flatMap (kidF s n (partAt s k) way)).length + r.length ≤ 16 * JP.sizeF r := fun r => by
          induction r with
          | nil => simp
          | cons y r hr =>
            obtain ⟨m, x⟩ := y
            rw [List.flatMap_cons, List.length_append, List.length_cons, JP.sizeF]
            have : (kidF s n (partAt s k) way (m, x)).length + 1 ≤ 16 * JP.size x := by
              unfold kidF
              split
              · exact ih _ _ _
              · have := JP.size_pos x; simp; omega
            omega
        have h5 := h3 l
        rw [body_obj, List.length_append, List.length_append, JP.size]
        omega
theorem kid_len {s : List GPart} (hn : ∀ k, (partAt s k).need.length ≤ 8) (n : Nat) (p : GPart) (way : List Bs) : ∀ r : Flds, (r.flatMap (kidF s n p way)).length + r.length ≤ 16 * JP.sizeF r
  | [] => by simp
  | (m, x) :: r => by
    have hr := kid_len hn n p way r
    rw [List.flatMap_cons, List.length_append, List.length_cons, JP.sizeF]
    have : (kidF s n p way (m, x)).length + 1 ≤ 16 * JP.size x := by
      unfold kidF
      split
      · exact look_len hn n _ _ _
      · have := JP.size_pos x; simp; omega
    omega
theorem sizeF_rest : ∀ {l : Flds} {j : Nat} {y : Bs × JV}, l[j]? = some y → JP.sizeF (l.take j) + JP.size y.2 + (l.length - j - 1) ≤ JP.sizeF l
  | [], _, _, h => by simp at h
  | (m, x) :: r, 0, y, h => by
    simp only [List.getElem?_cons_zero, Option.some.injEq] at h
    subst h
    have := JP.sizeF_long r
    rw [List.take_zero, JP.sizeF, JP.sizeF, List.length_cons]
    dsimp only
    omega
  | (m, x) :: r, j + 1, y, h => by
    rw [List.getElem?_cons_succ] at h
    have := sizeF_rest h
    rw [List.take_succ_cons, JP.sizeF, JP.sizeF, List.length_cons]
    omega
theorem total_mem {y : ByteArray} : ∀ {l : List ByteArray}, y ∈ l → y.size + 1 ≤ total l
  | [], h => by cases h
  | x :: r, h => by
    have e : total (x :: r) = x.size + 1 + total r := by unfold total; rw [List.map_cons, List.sum_cons]
    rw [e]
    rcases List.mem_cons.1 h with rfl | h
    · omega
    · have := total_mem h; omega
theorem need_few {s : List GPart} (h : GoodS s) (k : Int) : (partAt s k).need.length ≤ 8 := by
  rcases part_cases s k with e | e
  · rw [e]; exact Nat.zero_le _
  · exact (h.2.2 _ _ e).few.2.1
set_option maxRecDepth 100000 in
set_option maxHeartbeats 12800000 in
theorem object_any {S : List GPart} {sa : Option Addr} {sn sc : Nat} {w0 : World} (hgood : GoodS S) (hlies : Lies S (.slice sa sn sc) w0) (n : Nat) (ih : LookIn S (.slice sa sn sc) w0 n) (g i : Nat) (hi : S.length - i ≤ n + 1)
    (p : GPart) (b0 o0 : Nat) (fa : Option Addr) (fn fc : Nat) (na : Option Addr) (nn nc : Nat) (ea : Option Addr) (en ec : Nat) (hp : PartIn S w0 i p b0 o0 fa fn fc na nn nc ea en ec)
    (m q : Nat) (l : Flds) (hob : ObR (JvR m []) [] w0 q l) (wv : Value) (way : List Bs) (F : List GFault) (w : World) (hw : StrS w wv (way.map mkB)) (hL : LookAt g (.slice sa sn sc) F w) (hb : Below w0.heap.size w0 w) (hg0 : w0.heap.size ≤ g)
    (hF : F.length + 16 * JP.size (.obj l) ≤ 1000000) (ht : (way.map fun s => s.length + 1).sum + (JP.text (.obj l)).length + 30 * JP.deep (.obj l) ≤ 20000) :
    Calls Tryz.prog 82 #[.pointer (some ⟨g, 0, none⟩), .agg #[.int .i64 p.kind, .slice fa fn fc, .slice na nn nc, .bool p.extra, .int .i64 p.items, .int .i64 p.least, .int .i64 p.most, .slice ea en ec, .string p.deflt], .pointer (some ⟨q, 0, none⟩), wv] w (LookSaid w0 g (.slice sa sn sc) (F ++ (bodyL S (lookV S n) p way (.obj l)).map told) w) := by
  have hgp := hgood.2.2 i p hp.at_
  have hsm := hlies.small p (List.mem_of_getElem? hp.at_)
  have hsize : JP.size (.obj l) = 1 + JP.sizeF l := by rw [JP.size]
  have hlong := JP.sizeF_long l
  have hnd := hgp.few.2.1
  have hway := way_len2 way
  obtain ⟨asv, csv, esv, _⟩ := hw.1.row.len
  obtain ⟨wn, hwn⟩ : ∃ m, (way.map mkB).length = m := ⟨_, rfl⟩
  rw [hwn] at esv
  subst esv
  have hob0 := hob
  obtain ⟨_, hsrt, vn, vv, cn, cv, hrn, _, hrv, _⟩ := hob0
  obtain ⟨an, cn2, hne, _, _⟩ := hrn.len
  obtain ⟨ln, hln⟩ : ∃ m, l.length = m := ⟨_, rfl⟩
  rw [List.length_map, hln] at hne
  subst hne
  have hq0 : q < w0.heap.size := World.block_lt_of_cell? w0 _ cn
  have hE := hlies.env
  have hnl : p.need.length = nn := hp.nl
  have htn := hsm.2.1
  obtain ⟨w1, hw1⟩ : ∃ w1, w1 = w.alloc (.cells #[.int .i64 p.kind, .slice fa fn fc, .slice na nn nc, .bool p.extra, .int .i64 p.items, .int .i64 p.least, .int .i64 p.most, .slice ea en ec, .string p.deflt] 73) := ⟨_, rfl⟩
  have hb1 : Below w.heap.size w w1 := by rw [hw1]; exact (Below.refl _ w).alloc (Nat.le_refl _) _
  have hbox : w1.heap[w.heap.size]? = some (.cells #[.int .i64 p.kind, .slice fa fn fc, .slice na nn nc, .bool p.extra, .int .i64 p.items, .int .i64 p.least, .int .i64 p.most, .slice ea en ec, .string p.deflt] 73 (0, 0)) := by rw [hw1]; exact heap_alloc_new w _
  obtain ⟨gp, hgp2⟩ : ∃ gp, gp = w.heap.size := ⟨_, rfl⟩
  rw [← hgp2] at hbox
  have L1 := Lib.hid (hL.below hb1)
  have W1 := Lib.hid (hw.stays (StrKeep.below hb1))
  have B1 := Lib.hid (hb.trans (hb1.mono hb.size))
  have K0 := Lib.hid (StrKeep.below hb1)
  have Z1 : Hid (w.heap.size ≤ w1.heap.size) := Lib.hid hb1.size
  have BX := Lib.hid hbox
  have HI := Lib.hid hi
  have HGp := Lib.hid hgp
  have HP := Lib.hid hp
  have HIh := Lib.hid ih
  have HOb := Lib.hid hob
  have HRn := Lib.hid hrn
  have HCn := Lib.hid cn
  have Hln := Lib.hid hln
  have Hnl := Lib.hid hnl
  have HE := Lib.hid hE
  have Hsrt := Lib.hid hsrt
  have HGood := Lib.hid hgood
  have hlnb : ln ≤ 1048576 := by omega
  have hl9 : l.length ≤ 1048576 := by omega
  have Hl9 := Lib.hid hl9
  have hFl : F.length ≤ 1000000 := by omega
  have hnn : nn ≤ 8 := by omega
  have hws : (way.map fun s => s.length + 1).sum ≤ 20000 := by omega
  have Hlen2 : Hid (F.length + 16 * JP.sizeF l ≤ 999984) := Lib.hid (by show _ ≤ _; omega)
  have Htext : Hid ((way.map fun s => s.length + 1).sum + (JP.text (.obj l)).length + 30 * JP.deep (.obj l) ≤ 20000) := Lib.hid ht
  have Htn := Lib.hid htn
  have hfl8 : p.fields.length ≤ 1048576 := hsm.1
  have Hfl8 := Lib.hid hfl8
  clear hgp hsm hsize hlong hnd hwn hob hsrt hrn hrv cn cv hln hE hnl hb1 hbox hi hp ih hw hL hb hlies hgood hF hl9 htn hfl8
  rw [body_obj]
  obtain ⟨RES, hRES⟩ : ∃ r, (p.need.flatMap (needF way l) ++ (l.flatMap (nameF p way) ++ l.flatMap (kidF S n p way))) = r := ⟨_, rfl⟩
  have HRES := Lib.hid hRES
  rw [hRES]
  clear hRES
  go_enter Tryz.func82, Tryz.ntmps82
  go_upto_region 1 with fail
  rw [← hw1]
  rw [← hgp2]
  clear hw1 hgp2
  have cc := fun i => cell_block BX.out i
  go_wp2_with fail
  clear cc
  go_loopg [25] nn (fun k u25 wr => ∃ j : Nat, j + k = nn ∧ u25 = .int .i64 (j : Int) ∧ Hid (LookAt g (.slice sa sn sc) (F ++ ((p.need.take j).flatMap (needF way l)).map told) wr) ∧ Hid (Below w0.heap.size w0 wr) ∧ Hid (StrKeep w1 wr) ∧ Hid (w.heap.size ≤ wr.heap.size))
  case atStart => exact ⟨0, by omega, rfl, Lib.hid (by simpa using L1.out), B1, Lib.hid (StrKeep.refl _), Z1⟩
  case round =>
    obtain ⟨j, hjk, rfl, HL, HB, HK, HZ⟩ := hrel
    cases gk with
    | succ k =>
      have hjl : j < nn := by omega
      obtain ⟨y, hy⟩ : ∃ y, p.need[j]? = some y := ⟨p.need[j]'(by rw [Hnl.out]; exact hjl), List.getElem?_eq_getElem _⟩
      obtain ⟨bk, ok, ck, hv1, _, _, hbs1, hcell1⟩ := HP.out.need.row.form (by rw [Hnl.out]; omega) (by omega)
      injection hv1 with u1 u2 u3
      subst u1
      clear u2 u3
      obtain ⟨ds1, _, hcc1, hR1⟩ := hcell1 j y hy
      obtain rfl : ds1 = [.string y] := hR1
      have e9 : w0.cell? ⟨bk, ok + j, none⟩ = some (.string y) := by simpa using hcc1 0 _ rfl
      have e0 := (HB.out.cell (p := ⟨bk, ok + j, none⟩) hbs1).trans e9
      have q1 : (0 : Int) ≤ (j : Int) := by omega
      have q2 : (j : Int) < (nn : Int) := by omega
      have HG := Lib.hid (get_at (n := m) (x := y.data.toList) (HOb.out.keepT (R' := AtJ m w0) (KeepT.of HB.out) (fun _ _ h => h)) Hl9.out)
      rw [mkB_of] at HG
      have hys : y.size + 1 ≤ total p.need := total_mem (List.mem_of_getElem? hy)
      have Hst := Lib.hid (flat_take (f := needF way l) hy)
      have Hlk := Lib.hid (need_len way l (p.need.take j))
      have hys2 : y.size ≤ 1048576 := by have := Htn.out; omega
      obtain ⟨G, hG⟩ : ∃ G, JP.get y.data.toList l = G := ⟨_, rfl⟩
      rw [hG] at HG
      have HGe := Lib.hid hG
      clear hcell1 hcc1 hy e9 hbs1 hys hG
      cases G with
      | some z =>
        have Hnx : Hid (needF way l y = []) := Lib.hid (by unfold needF; rw [HGe.out]; rfl)
        go_wp2_with fail
        refine HG.out.mono ?_
        rintro E w2 ⟨vg, rfl, _, _, kd, rfl⟩
        have hbd := below_drewG wr.heap.size wr kd
        obtain ⟨w3, hw3⟩ : ∃ u, wr.drewN kd = u := ⟨_, rfl⟩
        rw [hw3] at hbd ⊢
        have HL3 : Hid (LookAt g (.slice sa sn sc) (F ++ ((p.need.take (j + 1)).flatMap (needF way l)).map told) w3) := Lib.hid (by rw [Hst.out, Hnx.out, List.append_nil]; exact HL.out.below hbd)
        have HB3 := Lib.hid (HB.out.trans (hbd.mono HB.out.size))
        have HK3 := Lib.hid (HK.out.trans (StrKeep.below hbd))
        have HZ3 : Hid (w.heap.size ≤ w3.heap.size) := Lib.hid (Nat.le_trans HZ.out hbd.size)
        clear hbd hw3 HG e0 HL HB HK HZ
        go_wp2_with fail
        go_roundg k
        case measure => omega
        case rel => exact ⟨j + 1, by omega, by go_num, HL3, HB3, HK3, HZ3⟩
      | none =>
        have Hnx : Hid (needF way l y = [(way ++ [y.data.toList], 7)]) := Lib.hid (by unfold needF; rw [HGe.out]; rfl)
        go_wp2_with fail
        refine HG.out.mono ?_
        rintro E w2 ⟨vg, rfl, _, _, kd, rfl⟩
        have hbd := below_drewG wr.heap.size wr kd
        obtain ⟨w3, hw3⟩ : ∃ u, wr.drewN kd = u := ⟨_, rfl⟩
        rw [hw3] at hbd ⊢
        have HW3 := Lib.hid (W1.out.stays (HK.out.trans (StrKeep.below hbd)))
        have HSt := Lib.hid (step_any (.slice asv wn csv) (way.map mkB) y w3 HW3.out.1 (by rw [List.length_map]; omega))
        have HL3 := Lib.hid (HL.out.below hbd)
        have HB3 := Lib.hid (HB.out.trans (hbd.mono HB.out.size))
        have HK3 := Lib.hid (HK.out.trans (StrKeep.below hbd))
        have HZ3 : Hid (w.heap.size ≤ w3.heap.size) := Lib.hid (Nat.le_trans HZ.out hbd.size)
        clear hbd hw3 HG e0 HL HB HK HZ HW3
        go_wp2_with fail
        refine HSt.out.mono ?_
        rintro E w4 ⟨v4, rfl, ho4, hb4⟩
        have em : way.map mkB ++ [y] = (way ++ [y.data.toList]).map mkB := by rw [List.map_append]; show _ = _ ++ [mkB _]; rw [mkB_of]
        rw [em] at ho4
        have HW4 := Lib.hid (strS_own ho4)
        have HL4 := Lib.hid (HL3.out.below hb4)
        have HB4 := Lib.hid (HB3.out.trans (hb4.mono HB3.out.size))
        have HK4 := Lib.hid (HK3.out.trans (StrKeep.below hb4))
        have HZ4 : Hid (w.heap.size ≤ w4.heap.size) := Lib.hid (Nat.le_trans HZ3.out hb4.size)
        clear ho4 hb4 em HSt HL3 HB3 HK3 HZ3
        have hFk : (F ++ ((p.need.take j).flatMap (needF way l)).map told).length ≤ 10000000 := by
          rw [List.length_append, List.length_map]
          have h1 := Hlk.out
          have h2 : (p.need.take j).length ≤ nn := by rw [List.length_take]; omega
          omega
        have HFa := Lib.hid (fault_any w0 g (.slice sa sn sc) v4 (F ++ ((p.need.take j).flatMap (needF way l)).map told) (way ++ [y.data.toList]) 7 w4 HL4.out HW4.out.1 (by rw [way_sum2, Array.length_toList]; show _ + (y.size + 1) ≤ _; omega) ⟨by decide, by decide⟩ hFk HB4.out hg0 HE.out)
        clear hFk
        go_wp2_with fail
        refine HFa.out.mono ?_
        rintro E w5 ⟨rfl, h1, h2, h3, h4⟩
        have HL5 : Hid (LookAt g (.slice sa sn sc) (F ++ ((p.need.take (j + 1)).flatMap (needF way l)).map told) w5) := Lib.hid (by rw [Hst.out, Hnx.out, List.map_append, ← List.append_assoc]; exact h1)
        have HB5 := Lib.hid h2
        have HK5 := Lib.hid (HK4.out.trans h3)
        have HZ5 : Hid (w.heap.size ≤ w5.heap.size) := Lib.hid (Nat.le_trans HZ4.out h4)
        clear h1 h2 h3 h4 HFa HW4 HL4 HB4 HK4 HZ4
        go_wp2_with fail
        go_roundg k
        case measure => omega
        case rel => exact ⟨j + 1, by omega, by go_num, HL5, HB5, HK5, HZ5⟩
    | zero =>
      have hjl : nn = j := by omega
      subst hjl
      have q9 : ¬ (nn : Int) < (nn : Int) := by omega
      have htk : p.need.take nn = p.need := List.take_of_length_le (by rw [Hnl.out]; exact Nat.le_refl _)
      rw [htk] at HL
      clear htk L1 Htn
      obtain ⟨F1, hF1⟩ : ∃ F1, F ++ (p.need.flatMap (needF way l)).map told = F1 := ⟨_, rfl⟩
      have hF1l : F1.length ≤ F.length + 8 := by
        rw [← hF1, List.length_append, List.length_map]
        have := need_len way l p.need
        have := Hnl.out
        omega
      rw [hF1] at HL
      have HF1 := Lib.hid hF1
      clear hF1
      have HNm := Lib.hid (names_any q _ wr ((HB.out.cell (p := ⟨q, 0, none⟩) hq0).trans HCn.out))
      obtain ⟨w2, hw2⟩ : ∃ w2, w2 = wr := ⟨_, rfl⟩
      rw [← hw2] at HL HB HK HZ HNm ⊢
      clear hw2
      go_wp2_with fail
      refine HNm.out.mono ?_
      rintro E wz ⟨rfl, rfl⟩
      clear HNm
      go_wp2_with fail
      go_loopg [46] ln (fun k u46 wr => ∃ j : Nat, j + k = ln ∧ u46 = .int .i64 (j : Int) ∧ Hid (LookAt g (.slice sa sn sc) (F1 ++ ((l.take j).flatMap (nameF p way)).map told) wr) ∧ Hid (Below w0.heap.size w0 wr) ∧ Hid (StrKeep w1 wr) ∧ Hid (w.heap.size ≤ wr.heap.size))
      case atStart => exact ⟨0, by omega, rfl, Lib.hid (by simpa using HL.out), HB, HK, HZ⟩
      case round =>
        clear HL HB HK HZ
        obtain ⟨j, hjk, rfl, HL, HB, HK, HZ⟩ := hrel
        cases gk with
        | succ k =>
          have hjl : j < ln := by omega
          obtain ⟨y, hy⟩ : ∃ y, l[j]? = some y := ⟨l[j]'(by rw [Hln.out]; exact hjl), List.getElem?_eq_getElem _⟩
          obtain ⟨bk, ok, ck, hv1, _, _, hbs1, hcell1⟩ := HRn.out.form (by rw [List.length_map, Hln.out]; omega) (by omega)
          injection hv1 with u1 u2 u3
          subst u1
          clear u2 u3
          obtain ⟨ds1, _, hcc1, hR1⟩ := hcell1 j (mkB y.1) (by rw [List.getElem?_map, hy]; rfl)
          obtain rfl : ds1 = [.string (mkB y.1)] := hR1
          have e9 : w0.cell? ⟨bk, ok + j, none⟩ = some (.string (mkB y.1)) := by simpa using hcc1 0 _ rfl
          have e0 := (HB.out.cell (p := ⟨bk, ok + j, none⟩) hbs1).trans e9
          have q1 : (0 : Int) ≤ (j : Int) := by omega
          have q2 : (j : Int) < (ln : Int) := by omega
          have bx := HK.out _ _ _ _ BX.out (by decide) (by decide)
          have cc := fun i => cell_block bx i
          have HFd := Lib.hid (fun (w' : World) (hb' : Below w0.heap.size w0 w') => schField_any p.kind fa fn fc na nn nc p.extra p.items p.least p.most ea en ec p.deflt p.fields (mkB y.1) w' (HP.out.fields.keep stays_field (keeps_below hb')) Hfl8.out)
          obtain ⟨O, hO⟩ : ∃ O, fieldL p.fields (mkB y.1) = O := ⟨_, rfl⟩
          rw [hO] at HFd
          have HO := Lib.hid hO
          clear hcell1 hcc1 e9 hbs1 hO
          have Hst := Lib.hid (flat_take (f := nameF p way) hy)
          have Hlk := Lib.hid (name_len p way (l.take j))
          have Hnm : Hid (y.1.length + 1 + (JP.text y.2).length + 2 ≤ JP.lenF l) := Lib.hid (JP.name_len (show l[j]? = some (y.1, y.2) from hy))
          have Hnt := Lib.hid (lenF_text l)
          clear hy
          obtain ⟨ex, hex⟩ : ∃ b, p.extra = b := ⟨_, rfl⟩
          have Hex := Lib.hid hex
          clear cc hex
          cases O with
          | some kk =>
            have Hnx : Hid (nameF p way y = []) := Lib.hid (by unfold nameF; rw [HO.out]; simp)
            go_wp2_with (refine wpList_load_row (by rfl) _ _ (by rfl) gp (by rfl) _ _ _ _ bx Tryz.underlying73 rfl (by exact Tryz.sizePart) ?_)
            refine (HFd.out wr HB.out).mono ?_
            rintro E w2 ⟨rfl, hbd⟩
            have HL3 := Lib.hid (HL.out.below hbd)
            have HB3 := Lib.hid (HB.out.trans (hbd.mono HB.out.size))
            have HK3 := Lib.hid (HK.out.trans (StrKeep.below hbd))
            have HZ3 : Hid (w.heap.size ≤ w2.heap.size) := Lib.hid (Nat.le_trans HZ.out hbd.size)
            clear hbd HFd e0 HL HB HK HZ bx
            have bx := HK3.out _ _ _ _ BX.out (by decide) (by decide)
            have cc := fun i => cell_block bx i
            have HL9 : Hid (LookAt g (.slice sa sn sc) (F1 ++ ((l.take (j + 1)).flatMap (nameF p way)).map told) w2) := Lib.hid (by rw [Hst.out, Hnx.out, List.append_nil]; exact HL3.out)
            go_wp2_with fail
            go_roundg k
            case measure => omega
            case rel => exact ⟨j + 1, by omega, by go_num, HL9, HB3, HK3, HZ3⟩
          | none =>
            go_wp2_with (refine wpList_load_row (by rfl) _ _ (by rfl) gp (by rfl) _ _ _ _ bx Tryz.underlying73 rfl (by exact Tryz.sizePart) ?_)
            refine (HFd.out wr HB.out).mono ?_
            rintro E w2 ⟨rfl, hbd⟩
            have HL3 := Lib.hid (HL.out.below hbd)
            have HB3 := Lib.hid (HB.out.trans (hbd.mono HB.out.size))
            have HK3 := Lib.hid (HK.out.trans (StrKeep.below hbd))
            have HZ3 : Hid (w.heap.size ≤ w2.heap.size) := Lib.hid (Nat.le_trans HZ.out hbd.size)
            clear hbd HFd e0 HL HB HK HZ bx
            have bx := HK3.out _ _ _ _ BX.out (by decide) (by decide)
            have cc := fun i => cell_block bx i
            rw [Hex.out] at cc
            cases ex with
            | true =>
              have Hnx : Hid (nameF p way y = []) := Lib.hid (by unfold nameF; rw [Hex.out]; simp)
              have HL9 : Hid (LookAt g (.slice sa sn sc) (F1 ++ ((l.take (j + 1)).flatMap (nameF p way)).map told) w2) := Lib.hid (by rw [Hst.out, Hnx.out, List.append_nil]; exact HL3.out)
              go_wp2_with fail
              go_roundg k
              case measure => omega
              case rel => exact ⟨j + 1, by omega, by go_num, HL9, HB3, HK3, HZ3⟩
            | false =>
              have Hnx : Hid (nameF p way y = [(way ++ [y.1], 6)]) := Lib.hid (by unfold nameF; rw [HO.out, Hex.out]; simp)
              have HW3 := Lib.hid (W1.out.stays HK3.out)
              have HSt := Lib.hid (step_any (.slice asv wn csv) (way.map mkB) (mkB y.1) w2 HW3.out.1 (by rw [List.length_map]; omega))
              go_wp2_with fail
              refine HSt.out.mono ?_
              rintro E w4 ⟨v4, rfl, ho4, hb4⟩
              have em : way.map mkB ++ [mkB y.1] = (way ++ [y.1]).map mkB := by rw [List.map_append]; rfl
              rw [em] at ho4
              have HW4 := Lib.hid (strS_own ho4)
              have HL4 := Lib.hid (HL3.out.below hb4)
              have HB4 := Lib.hid (HB3.out.trans (hb4.mono HB3.out.size))
              have HK4 := Lib.hid (HK3.out.trans (StrKeep.below hb4))
              have HZ4 : Hid (w.heap.size ≤ w4.heap.size) := Lib.hid (Nat.le_trans HZ3.out hb4.size)
              clear ho4 hb4 em HSt HL3 HB3 HK3 HZ3 HW3
              have hFk : (F1 ++ ((l.take j).flatMap (nameF p way)).map told).length ≤ 10000000 := by
                rw [List.length_append, List.length_map]
                have h1 := Hlk.out
                have h2 : (l.take j).length ≤ ln := by rw [List.length_take]; omega
                omega
              have HFa := Lib.hid (fault_any w0 g (.slice sa sn sc) v4 (F1 ++ ((l.take j).flatMap (nameF p way)).map told) (way ++ [y.1]) 6 w4 HL4.out HW4.out.1 (by rw [way_sum2]; have := Hnm.out; have := Hnt.out; have := Htext.out; omega) ⟨by decide, by decide⟩ hFk HB4.out hg0 HE.out)
              clear hFk
              go_wp2_with fail
              refine HFa.out.mono ?_
              rintro E w5 ⟨rfl, h1, h2, h3, h4⟩
              have HL5 : Hid (LookAt g (.slice sa sn sc) (F1 ++ ((l.take (j + 1)).flatMap (nameF p way)).map told) w5) := Lib.hid (by rw [Hst.out, Hnx.out, List.map_append, ← List.append_assoc]; exact h1)
              have HB5 := Lib.hid h2
              have HK5 := Lib.hid (HK4.out.trans h3)
              have HZ5 : Hid (w.heap.size ≤ w5.heap.size) := Lib.hid (Nat.le_trans HZ4.out h4)
              clear h1 h2 h3 h4 HFa HW4 HL4 HB4 HK4 HZ4 bx cc
              go_wp2_with fail
              go_roundg k
              case measure => omega
              case rel => exact ⟨j + 1, by omega, by go_num, HL5, HB5, HK5, HZ5⟩
        | zero =>
          have hjl : ln = j := by omega
          subst hjl
          have q9 : ¬ (ln : Int) < (ln : Int) := by omega
          have htk : l.take ln = l := List.take_of_length_le (by rw [Hln.out]; exact Nat.le_refl _)
          rw [htk] at HL
          clear htk
          obtain ⟨F2, hF2⟩ : ∃ F2, F1 ++ (l.flatMap (nameF p way)).map told = F2 := ⟨_, rfl⟩
          have hF2l : F2.length ≤ F.length + 8 + ln := by
            rw [← hF2, List.length_append, List.length_map]
            have := name_len p way l
            have := Hln.out
            omega
          rw [hF2] at HL
          have HF2 := Lib.hid hF2
          clear hF2
          have HNm := Lib.hid (names_any q _ wr ((HB.out.cell (p := ⟨q, 0, none⟩) hq0).trans HCn.out))
          obtain ⟨w2, hw2⟩ : ∃ w2, w2 = wr := ⟨_, rfl⟩
          rw [← hw2] at HL HB HK HZ HNm ⊢
          clear hw2
          go_wp2_with fail
          refine HNm.out.mono ?_
          rintro E wz ⟨rfl, rfl⟩
          clear HNm
          go_wp2_with fail
          clear q9 hjk
          go_loopg [72] ln (fun k u72 wr => ∃ j : Nat, j + k = ln ∧ u72 = .int .i64 (j : Int) ∧ Hid (LookAt g (.slice sa sn sc) (F2 ++ ((l.take j).flatMap (kidF S n p way)).map told) wr) ∧ Hid (Below w0.heap.size w0 wr) ∧ Hid (StrKeep w1 wr) ∧ Hid (w.heap.size ≤ wr.heap.size))
          case atStart => exact ⟨0, by omega, rfl, Lib.hid (by simpa using HL.out), HB, HK, HZ⟩
          case round =>
            clear HL HB HK HZ
            obtain ⟨j, hjk, rfl, HL, HB, HK, HZ⟩ := hrel
            cases gk with
            | succ k =>
              have hjl : j < ln := by omega
              obtain ⟨y, hy⟩ : ∃ y, l[j]? = some y := ⟨l[j]'(by rw [Hln.out]; exact hjl), List.getElem?_eq_getElem _⟩
              obtain ⟨bk, ok, ck, hv1, _, _, hbs1, hcell1⟩ := HRn.out.form (by rw [List.length_map, Hln.out]; omega) (by omega)
              injection hv1 with u1 u2 u3
              subst u1
              clear u2 u3
              obtain ⟨ds1, _, hcc1, hR1⟩ := hcell1 j (mkB y.1) (by rw [List.getElem?_map, hy]; rfl)
              obtain rfl : ds1 = [.string (mkB y.1)] := hR1
              have e9 : w0.cell? ⟨bk, ok + j, none⟩ = some (.string (mkB y.1)) := by simpa using hcc1 0 _ rfl
              have e0 := (HB.out.cell (p := ⟨bk, ok + j, none⟩) hbs1).trans e9
              have q1 : (0 : Int) ≤ (j : Int) := by omega
              have q2 : (j : Int) < (ln : Int) := by omega
              have bx := HK.out _ _ _ _ BX.out (by decide) (by decide)
              have cc := fun i => cell_block bx i
              have HFd := Lib.hid (fun (w' : World) (hb' : Below w0.heap.size w0 w') => schField_any p.kind fa fn fc na nn nc p.extra p.items p.least p.most ea en ec p.deflt p.fields (mkB y.1) w' (HP.out.fields.keep stays_field (keeps_below hb')) Hfl8.out)
              obtain ⟨O, hO⟩ : ∃ O, fieldL p.fields (mkB y.1) = O := ⟨_, rfl⟩
              rw [hO] at HFd
              have HO := Lib.hid hO
              clear hcell1 hcc1 e9 hbs1 hO
              have Hst := Lib.hid (flat_take (f := kidF S n p way) hy)
              have Hkl := Lib.hid (kid_len (need_few HGood.out) n p way (l.take j))
              have Hrest := Lib.hid (sizeF_rest hy)
              have Hnm : Hid (y.1.length + 1 + (JP.text y.2).length + 2 ≤ JP.lenF l) := Lib.hid (JP.name_len (show l[j]? = some (y.1, y.2) from hy))
              have Hnt := Lib.hid (lenF_text l)
              have hget := JP.get_at3 Hsrt.out hy
              have Hdp : Hid (JP.deep y.2 + 1 ≤ JP.deep (.obj l)) := Lib.hid (JP.child_len (v := .obj l) (s := y.1) hget).2.2
              clear hy cc
              cases O with
              | none =>
                have Hnx : Hid (kidF S n p way y = []) := Lib.hid (by unfold kidF; rw [HO.out])
                clear hget
                go_wp2_with (refine wpList_load_row (by rfl) _ _ (by rfl) gp (by rfl) _ _ _ _ bx Tryz.underlying73 rfl (by exact Tryz.sizePart) ?_)
                refine (HFd.out wr HB.out).mono ?_
                rintro E w2 ⟨rfl, hbd⟩
                have HL3 := Lib.hid (HL.out.below hbd)
                have HB3 := Lib.hid (HB.out.trans (hbd.mono HB.out.size))
                have HK3 := Lib.hid (HK.out.trans (StrKeep.below hbd))
                have HZ3 : Hid (w.heap.size ≤ w2.heap.size) := Lib.hid (Nat.le_trans HZ.out hbd.size)
                clear hbd HFd e0 HL HB HK HZ bx
                have bx := HK3.out _ _ _ _ BX.out (by decide) (by decide)
                have cc := fun i => cell_block bx i
                have HL9 : Hid (LookAt g (.slice sa sn sc) (F2 ++ ((l.take (j + 1)).flatMap (kidF S n p way)).map told) w2) := Lib.hid (by rw [Hst.out, Hnx.out, List.append_nil]; exact HL3.out)
                go_wp2_with fail
                go_roundg k
                case measure => omega
                case rel => exact ⟨j + 1, by omega, by go_num, HL9, HB3, HK3, HZ3⟩
              | some kk =>
                obtain ⟨f0, hf0, hf1⟩ := fieldL_part HO.out
                obtain ⟨hk1, hk2⟩ := HGp.out.parts f0 hf0
                rw [hf1] at hk1 hk2
                obtain ⟨kn, hkn⟩ : ∃ kn : Nat, kk = (kn : Int) := ⟨kk.toNat, by omega⟩
                subst hkn
                have hkl : kn < S.length := by omega
                have hkr : S.length - kn ≤ n := by have := HI.out; omega
                have Hkl2 := Lib.hid hkl
                have Hkr := Lib.hid hkr
                clear hf0 hf1 hk1 hk2 hkl hkr
                have Hnx : Hid (kidF S n p way y = lookV S n (partAt S (kn : Int)) (way ++ [y.1]) y.2) := Lib.hid (by unfold kidF; rw [HO.out])
                go_wp2_with (refine wpList_load_row (by rfl) _ _ (by rfl) gp (by rfl) _ _ _ _ bx Tryz.underlying73 rfl (by exact Tryz.sizePart) ?_)
                refine (HFd.out wr HB.out).mono ?_
                rintro E w2 ⟨rfl, hbd⟩
                have HL3 := Lib.hid (HL.out.below hbd)
                have HB3 := Lib.hid (HB.out.trans (hbd.mono HB.out.size))
                have HK3 := Lib.hid (HK.out.trans (StrKeep.below hbd))
                have HZ3 : Hid (w.heap.size ≤ w2.heap.size) := Lib.hid (Nat.le_trans HZ.out hbd.size)
                clear hbd HFd e0 HL HB HK HZ bx
                have bx := HK3.out _ _ _ _ BX.out (by decide) (by decide)
                have cc := fun i => cell_block bx i
                have HG := Lib.hid (get_at (n := m) (x := y.1) (HOb.out.keepT (R' := AtJ m w0) (KeepT.of HB3.out) (fun _ _ h => h)) Hl9.out)
                rw [hget] at HG
                clear hget bx cc
                go_wp2_with fail
                refine HG.out.mono ?_
                rintro E w8 ⟨vg, rfl, hvg, _, kd, rfl⟩
                have Hvg := Lib.hid (hvg y.2 rfl)
                have hbd := below_drewG w2.heap.size w2 kd
                obtain ⟨w3, hw3⟩ : ∃ u, w2.drewN kd = u := ⟨_, rfl⟩
                rw [hw3] at hbd ⊢
                have HL6 := Lib.hid (HL3.out.below hbd)
                have HB6 := Lib.hid (HB3.out.trans (hbd.mono HB3.out.size))
                have HK6 := Lib.hid (HK3.out.trans (StrKeep.below hbd))
                have HZ6 : Hid (w.heap.size ≤ w3.heap.size) := Lib.hid (Nat.le_trans HZ3.out hbd.size)
                clear hbd hw3 HG hvg HL3 HB3 HK3 HZ3
                have HW3 := Lib.hid (W1.out.stays HK6.out)
                have HSt := Lib.hid (step_any (.slice asv wn csv) (way.map mkB) (mkB y.1) w3 HW3.out.1 (by rw [List.length_map]; omega))
                go_wp2_with fail
                refine HSt.out.mono ?_
                rintro E w4 ⟨v4, rfl, ho4, hb4⟩
                have em : way.map mkB ++ [mkB y.1] = (way ++ [y.1]).map mkB := by rw [List.map_append]; rfl
                rw [em] at ho4
                have HW4 := Lib.hid (strS_own ho4)
                have HL4 := Lib.hid (HL6.out.below hb4)
                have HB4 := Lib.hid (HB6.out.trans (hb4.mono HB6.out.size))
                have HK4 := Lib.hid (HK6.out.trans (StrKeep.below hb4))
                have HZ4 : Hid (w.heap.size ≤ w4.heap.size) := Lib.hid (Nat.le_trans HZ6.out hb4.size)
                clear ho4 hb4 em HSt HL6 HB6 HK6 HZ6 HW3
                have HFa := Lib.hid (HIh.out g kn m vg v4 y.2 (way ++ [y.1]) (F2 ++ ((l.take j).flatMap (kidF S n p way)).map told) w4 Hkl2.out Hkr.out Hvg.out HW4.out HL4.out HB4.out hg0 (by
                  rw [List.length_append, List.length_map]
                  have h1 := Hkl.out
                  have h2 := Hrest.out
                  have h3 := Hln.out
                  have h4 := Hlen2.out
                  rw [List.length_take] at h1
                  omega) (by rw [way_sum2]; have := Hnm.out; have := Hnt.out; have := Htext.out; have := Hdp.out; omega))
                have bx : (0 : Nat) = 0 := rfl
                have cc : (0 : Nat) = 0 := rfl
                go_wp2_with fail
                refine HFa.out.mono ?_
                rintro E w5 ⟨rfl, h1, h2, h3, h4⟩
                have HL5 : Hid (LookAt g (.slice sa sn sc) (F2 ++ ((l.take (j + 1)).flatMap (kidF S n p way)).map told) w5) := Lib.hid (by rw [Hst.out, Hnx.out, List.map_append, ← List.append_assoc]; exact h1)
                have HB5 := Lib.hid h2
                have HK5 := Lib.hid (HK4.out.trans h3)
                have HZ5 : Hid (w.heap.size ≤ w5.heap.size) := Lib.hid (Nat.le_trans HZ4.out h4)
                clear h1 h2 h3 h4 HFa HW4 HL4 HB4 HK4 HZ4 bx cc
                go_wp2_with fail
                go_roundg k
                case measure => omega
                case rel => exact ⟨j + 1, by omega, by go_num, HL5, HB5, HK5, HZ5⟩
            | zero =>
              have hjl : ln = j := by omega
              subst hjl
              have q9 : ¬ (ln : Int) < (ln : Int) := by omega
              have htk : l.take ln = l := List.take_of_length_le (by rw [Hln.out]; exact Nat.le_refl _)
              rw [htk] at HL
              clear htk
              have HGo : Hid (LookAt g (.slice sa sn sc) (F ++ RES.map told) wr) := Lib.hid (by
                rw [← HRES.out, List.map_append, List.map_append, ← List.append_assoc, ← List.append_assoc, HF1.out, HF2.out]
                exact HL.out)
              have HKK := Lib.hid (K0.out.trans HK.out)
              clear HL HK
              go_wp2_with fail
              go_end0
              exact ⟨rfl, HGo.out, HB.out, HKK.out, HZ.out⟩
end Sch
end Go.Proofs.YtnmhjabihfhobaaGreatDoor
namespace Go.Proofs.YtnmhjabihfhobaaGreatDoor
namespace Sch
open Go.RowKit
open JP (JV Bs)
theorem itoaS_any (n : Int) (w : World) (b1 : -9223372036854775808 ≤ n) (b2 : n ≤ 9223372036854775807) (ht : TabOK w) : Calls Tryz.prog 81 #[.int .i64 n] w fun e w' => e = .returned (.string (mkB (Lib.itoa n))) ∧ Below w.heap.size w w' := by
  refine (Tryz.strconv_Itoa n b1 b2 w ht).mono ?_
  rintro e w' ⟨rfl, k, os, rfl⟩
  exact ⟨rfl, Lib.below_grow _ _ (Nat.le_refl _) _ _⟩
def enumF (p : GPart) (way : List Bs) (x : JV) : List (List Bs × Int) := if 0 < p.enum.length ∧ enumHas p x = false then [(way, 19)] else []
def itemF (s : List GPart) (n : Nat) (p : GPart) (way : List Bs) (l : List JV) (i : Nat) : List (List Bs × Int) := lookV s n (partAt s p.items) (way ++ [Lib.itoa (i : Int)]) ((l[i]?).getD .nul)
theorem look_succ (s : List GPart) (n : Nat) (p : GPart) (way : List Bs) (x : JV) (h : JP.kind x = p.kind) : lookV s (n + 1) p way x = enumF p way x ++ bodyL s (lookV s n) p way x := by
  rw [lookV, if_neg (fun e => e h)]; rfl
theorem item_take (s : List GPart) (n : Nat) (p : GPart) (way : List Bs) (l : List JV) (i : Nat) : (List.range (i + 1)).flatMap (itemF s n p way l) = (List.range i).flatMap (itemF s n p way l) ++ itemF s n p way l i := by
  rw [List.range_succ, List.flatMap_append, List.flatMap_cons, List.flatMap_nil, List.append_nil]
theorem item_len {s : List GPart} (hn : ∀ k, (partAt s k).need.length ≤ 8) (n : Nat) (p : GPart) (way : List Bs) (l : List JV) : ∀ j : Nat, j ≤ l.length → ((List.range j).flatMap (itemF s n p way l)).length + j ≤ 16 * JP.sizeL (l.take j)
  | 0, _ => by simp
  | j + 1, hjl => by
    have hj := item_len hn n p way l j (by omega)
    rw [item_take, List.length_append, List.take_add_one, List.getElem?_eq_getElem (show j < l.length by omega), Option.toList_some, JP.sizeL_append, JP.sizeL, JP.sizeL]
    have := look_len hn n p.items (way ++ [Lib.itoa (j : Int)]) l[j]
    have e : itemF s n p way l j = lookV s n (partAt s p.items) (way ++ [Lib.itoa (j : Int)]) l[j] := by unfold itemF; rw [List.getElem?_eq_getElem (show j < l.length by omega)]; rfl
    rw [e]
    omega
theorem sizeL_here : ∀ {l : List JV} {j : Nat} {y : JV}, l[j]? = some y → JP.sizeL (l.take j) + JP.size y ≤ JP.sizeL l
  | [], _, _, h => by simp at h
  | x :: r, 0, y, h => by
    simp only [List.getElem?_cons_zero, Option.some.injEq] at h
    subst h
    rw [List.take_zero, JP.sizeL, JP.sizeL]
    omega
  | x :: r, j + 1, y, h => by
    rw [List.getElem?_cons_succ] at h
    have := sizeL_here h
    rw [List.take_succ_cons, JP.sizeL, JP.sizeL]
    omega
theorem sizeL_long : ∀ l : List JV, l.length ≤ JP.sizeL l
  | [] => Nat.zero_le _
  | v :: r => by
    have := sizeL_long r
    have := JP.size_pos v
    rw [List.length_cons, JP.sizeL]; omega
theorem span_len (p : GPart) (z : Int) (way : List Bs) : (spanL p z way).length ≤ 2 := by unfold spanL; rw [List.length_append]; split <;> split <;> simp
set_option maxRecDepth 100000 in
set_option maxHeartbeats 12800000 in
theorem value_step {S : List GPart} {sa : Option Addr} {sn sc : Nat} {w0 : World} (hgood : GoodS S) (hlies : Lies S (.slice sa sn sc) w0) (n : Nat) (ih : LookIn S (.slice sa sn sc) w0 n) : LookIn S (.slice sa sn sc) w0 (n + 1) := by
  intro g i m v wv x way F w hi hn hv hw hL hb hg0 hF ht
  obtain ⟨b, ob, p, fa, fn, fc, na, nn, nc, ea, en, ec, hsa, hsn, hp⟩ := hlies.part hi
  subst hsa
  have hgp := hgood.2.2 i p hp.at_
  have hsm := hlies.small p (List.mem_of_getElem? hp.at_)
  rw [partAt_of hp.at_]
  obtain ⟨asv, csv, esv, _⟩ := hw.1.row.len
  obtain ⟨wn, hwn⟩ : ∃ m, (way.map mkB).length = m := ⟨_, rfl⟩
  rw [hwn] at esv
  subst esv
  have hxs := JP.size_pos x
  have hFl : F.length ≤ 1000000 := by omega
  have hws : (way.map fun s => s.length + 1).sum ≤ 20000 := by omega
  have htx : (JP.text x).length ≤ 20000 := by omega
  have hE := hlies.env
  have hgs := hL.lt
  have hm : v.cells = #[v] := by rcases jv_form hv with rfl | ⟨t, u, rfl⟩ <;> rfl
  unfold Value.cells at hm
  have Hm := Lib.hid hm
  clear hm
  -- the box of the value
  obtain ⟨w1, hw1⟩ : ∃ w1, w1 = w.alloc (.cells #[v] 53) := ⟨_, rfl⟩
  obtain ⟨g6, hg6⟩ : ∃ gp, gp = w.heap.size := ⟨_, rfl⟩
  have hb1 : Below w.heap.size w w1 := by rw [hw1]; exact (Below.refl _ w).alloc (Nat.le_refl _) _
  have hbox1 : w1.heap[g6]? = some (.cells #[v] 53 (0, 0)) := by rw [hw1, hg6]; exact heap_alloc_new w _
  have HB1 := hb.trans (hb1.mono hb.size)
  have hp0 : ∀ (j : Nat) (u : Value), w0.cell? ⟨b, ob + i * 9 + j, none⟩ = some u → w1.cell? ⟨b, ob + i * 9 + j, none⟩ = some u := fun j u h => (HB1.cell (p := ⟨b, _, none⟩) hp.blk).trans h
  have e0 : w1.cell? ⟨b, ob + i * 9, none⟩ = _ := hp0 0 _ hp.c0
  have e1 := hp0 1 _ hp.c1
  have e2 := hp0 2 _ hp.c2
  have e3 := hp0 3 _ hp.c3
  have e4 := hp0 4 _ hp.c4
  have e5 := hp0 5 _ hp.c5
  have e6 := hp0 6 _ hp.c6
  have e7 := hp0 7 _ hp.c7
  have e8 := hp0 8 _ hp.c8
  obtain ⟨fv, hg1, _⟩ := hL.below hb1
  have l0 := cell_block hg1 0
  have q1 : (0 : Int) ≤ (i : Int) := by omega
  have q2 : (i : Int) < (sn : Int) := by omega
  -- the box of the part
  obtain ⟨w2, hw2⟩ : ∃ w2, w2 = w1.alloc (.cells #[.int .i64 p.kind, .slice fa fn fc, .slice na nn nc, .bool p.extra, .int .i64 p.items, .int .i64 p.least, .int .i64 p.most, .slice ea en ec, .string p.deflt] 73) := ⟨_, rfl⟩
  obtain ⟨g8, hg8⟩ : ∃ gp, gp = w1.heap.size := ⟨_, rfl⟩
  have hb2 : Below w1.heap.size w1 w2 := by rw [hw2]; exact (Below.refl _ w1).alloc (Nat.le_refl _) _
  have hbox2 : w2.heap[g8]? = some (.cells #[.int .i64 p.kind, .slice fa fn fc, .slice na nn nc, .bool p.extra, .int .i64 p.items, .int .i64 p.least, .int .i64 p.most, .slice ea en ec, .string p.deflt] 73 (0, 0)) := by rw [hw2, hg8]; exact heap_alloc_new w1 _
  have hb12 : Below w.heap.size w w2 := hb1.trans (hb2.mono hb1.size)
  have L2 := Lib.hid (hL.below hb12)
  have W2 := Lib.hid (hw.stays (StrKeep.below hb12))
  have B2 := Lib.hid (hb.trans (hb12.mono hb.size))
  have K2 := Lib.hid (StrKeep.below hb12)
  have Z2 : Hid (w.heap.size ≤ w2.heap.size) := Lib.hid hb12.size
  have BX := Lib.hid hbox2
  have BV := Lib.hid (below_block hb2 hbox1)
  have h6s : g6 < w2.heap.size := blk_lt (below_block hb2 hbox1)
  have h8s : g8 < w2.heap.size := blk_lt hbox2
  have HV := Lib.hid hv
  have HE := Lib.hid hE
  have HP := Lib.hid hp
  have HGp := Lib.hid hgp
  have HGood := Lib.hid hgood
  have HLies := Lib.hid hlies
  have HIh := Lib.hid ih
  have Hn := Lib.hid hn
  have Hsm := Lib.hid hsm
  have HF := Lib.hid hF
  have Ht := Lib.hid ht
  obtain ⟨RES, hRES⟩ : ∃ r, lookV S (n + 1) p way x = r := ⟨_, rfl⟩
  have HRES := Lib.hid hRES
  rw [hRES]
  clear hRES hi hn hv hw hL hb hF ht hgood hlies ih hp hgp hsm hE hb1 hbox1 HB1 hp0 hb2 hbox2 hb12 hwn hsn
  go_enter Tryz.func46, Tryz.ntmps46
  go_upto_region 1 with fail
  rw [Hm.out]
  rw [← hw1]
  rw [← hg6]
  clear hw1 hg6 Hm
  go_upto_region 2 with fail
  rw [← hw2]
  rw [← hg8]
  clear hw2 hg8 e0 e1 e2 e3 e4 e5 e6 e7 e8 l0 hg1 q1 q2
  have c6 := cell_block BV.out 0
  have c8 := fun i => cell_block BX.out i
  obtain ⟨KX, hKX⟩ : ∃ k, JP.kind x = k := ⟨_, rfl⟩
  have HKd := Lib.hid (fun (w' : World) (hb' : Below w2.heap.size w2 w') => kind_any (HV.out.below (B2.out.trans (hb'.mono B2.out.size))))
  rw [hKX] at HKd
  have HKX := Lib.hid hKX
  clear hKX
  refine wp_region_hold 4 (fun w' => Below w2.heap.size w2 w') (by kernel_rfl) (by kernel_rfl) ?_ ?_
  · exact (Below.refl w2.heap.size w2).drew
  simp only [List.take_succ_cons, List.take_zero, List.drop_succ_cons, List.drop_zero]
  refine wpHold_read (v := v) (by rfl) (fun w' hI => ?_) ?_
  · have d6 := (hI.cell (p := ⟨g6, 0, none⟩) h6s).trans c6
    go_simp
    done
  try simp only [Act.put, List.setIfInBounds_toArray, List.set_cons_zero, List.set_cons_succ]
  refine wpHold_call (v := .int .i64 KX) (f := 35) (args := #[v]) (by rfl) (fun w' => ?_) (fun w' hI => ?_) ?_
  · go_simp
    done
  · exact (HKd.out w' hI).mono fun e w'' ⟨h1, h2⟩ => ⟨h1, by rw [h2]; exact hI⟩
  try simp only [Act.put, List.setIfInBounds_toArray, List.set_cons_zero, List.set_cons_succ]
  (first | (refine wpHold_pure (v := ?_) (by rfl) (fun w => ?_) ?_; rotate_left; focus (first | (go_simp; done) | (go_simp; with_reducible rfl))) | (refine wpHold_skip ?_ ?_; focus (go_simp; done)) | (refine wpHold_pure' (v := ?_) ?_ (fun w => ?_) ?_; rotate_left; focus (go_simp; done); focus (first | (go_simp; done) | (go_simp; with_reducible rfl)))); try simp only [Act.put, List.setIfInBounds_toArray, List.set_cons_zero, List.set_cons_succ]
  refine wpHold_read (v := .int .i64 p.kind) (by rfl) (fun w' hI => ?_) ?_
  · have d8 := fun i => (hI.cell (p := ⟨g8, i, none⟩) h8s).trans (c8 i)
    go_simp
    done
  try simp only [Act.put, List.setIfInBounds_toArray, List.set_cons_zero, List.set_cons_succ]
  refine wpHold_nil ?_
  intro w3 hb3
  have L3 := Lib.hid (L2.out.below hb3)
  have W3 := Lib.hid (W2.out.stays (StrKeep.below hb3))
  have B3 := Lib.hid (B2.out.trans (hb3.mono B2.out.size))
  have K3 := Lib.hid (K2.out.trans (StrKeep.below hb3))
  have Z3 : Hid (w.heap.size ≤ w3.heap.size) := Lib.hid (Nat.le_trans Z2.out hb3.size)
  have BX3 := Lib.hid (below_block hb3 BX.out)
  have BV3 := Lib.hid (below_block hb3 BV.out)
  clear hb3 L2 W2 B2 K2 Z2 BX BV c6 c8 HKd h6s h8s
  by_cases hk : KX = p.kind
  case neg =>
    have qk : (KX != p.kind) = true := by rw [bne_iff_ne]; exact hk
    have Hr : Hid (RES = [(way, 8)]) := Lib.hid (by rw [← HRES.out, lookV, if_pos (by rw [HKX.out]; exact hk)])
    have HFa := Lib.hid (fault_any w0 g (.slice (some ⟨b, ob, none⟩) sn sc) (.slice asv wn csv) F way 8 w3 L3.out W3.out.1 (by omega) ⟨by decide, by decide⟩ (by omega) B3.out hg0 HE.out)
    clear hk
    go_wp2_with fail
    refine HFa.out.mono ?_
    rintro E w4 ⟨rfl, h1, h2, h3, h4⟩
    have L4 := Lib.hid h1
    have B4 := Lib.hid h2
    have K4 := Lib.hid (K3.out.trans h3)
    have Z4 : Hid (w.heap.size ≤ w4.heap.size) := Lib.hid (Nat.le_trans Z3.out h4)
    clear h1 h2 h3 h4 HFa
    go_wp2_with fail
    go_end0
    exact ⟨rfl, by rw [Hr.out]; exact L4.out, B4.out, K4.out, Z4.out⟩
  case pos =>
    have qk : (KX != p.kind) = false := by rw [hk]; simp
    have hkx : JP.kind x = p.kind := HKX.out.trans hk
    have Hkx := Lib.hid hkx
    have Hsplit : Hid (RES = enumF p way x ++ bodyL S (lookV S n) p way x) := Lib.hid (by rw [← HRES.out]; exact look_succ S n p way x hkx)
    clear hk hkx HRES
    go_upto_region 4 with fail
    clear qk
    obtain ⟨bad, hbad⟩ : ∃ bb, (decide (0 < p.enum.length) && !enumHas p x) = bb := ⟨_, rfl⟩
    have c8 := fun i => cell_block BX3.out i
    go_cut [40] (fun u40 wx => u40 = .bool bad ∧ Hid (Below w3.heap.size w3 wx))
    case first =>
      by_cases h0 : en = 0
      · have q0 : ¬ (0 : Int) < (en : Int) := by omega
        have hbf : bad = false := by rw [← hbad, HP.out.el, h0]; rfl
        subst hbf
        clear hbad h0
        go_wp2_with fail
        go_meet
        exact ⟨rfl, Lib.hid (Below.refl _ _)⟩
      · have q0 : (0 : Int) < (en : Int) := by omega
        have hel := HP.out.el
        have hbf : bad = !enumHas p x := by rw [← hbad, decide_eq_true (show 0 < p.enum.length by omega)]; simp
        have HCap : Hid (CapV g6 x w3) := Lib.hid ⟨v, m, BV3.out, HV.out.below B3.out, HE.out.1.below B3.out⟩
        have HAn := Lib.hid (anyStr_any (f := 77) (cap := .pointer (some ⟨g6, 0, none⟩)) (Cap := CapV g6 x) (p := fun d => decide (JP.text x = JP.text (JP.readL d.data.toList).1)) (OK := fun d => d.size ≤ 1048576 ∧ readE d = 0) (run_callFunc_body Tryz.func77 (by kernel_rfl) (by kernel_rfl)) (capV_keep g6 x)
          (fun d w' _ hok hc => cloEnum_any g6 x htx d w' hok.1 hok.2 hc) (.slice ea en ec) p.enum w3 ((HP.out.enum.keep (keeps_below B3.out)).row) (by have := Hsm.out.2.2.1; omega) (fun d hd => ⟨Hsm.out.2.2.2.1 d hd, HGp.out.docs d hd⟩) HCap.out)
        have hany : (p.enum.any fun d => decide (JP.text x = JP.text (JP.readL d.data.toList).1)) = enumHas p x := rfl
        rw [hany] at HAn
        obtain ⟨eh, heh⟩ : ∃ e, enumHas p x = e := ⟨_, rfl⟩
        rw [heh] at HAn hbf
        subst hbf
        clear h0 hbad hany heh hel
        go_wp2_with fail
        refine HAn.out.mono ?_
        rintro E w4 ⟨rfl, hb4⟩
        have HB4 := Lib.hid hb4
        clear hb4
        go_wp2_with fail
        go_meet
        exact ⟨rfl, HB4⟩
    case rest =>
    obtain ⟨w4, hw4⟩ : ∃ w4, w4 = wc := ⟨_, rfl⟩
    rw [← hw4] at hcut ⊢
    clear hw4
    obtain ⟨rfl, HB4⟩ := hcut
    have L4 := Lib.hid (L3.out.below HB4.out)
    have W4 := Lib.hid (W3.out.stays (StrKeep.below HB4.out))
    have B4 := Lib.hid (B3.out.trans (HB4.out.mono B3.out.size))
    have K4 := Lib.hid (K3.out.trans (StrKeep.below HB4.out))
    have Z4 : Hid (w.heap.size ≤ w4.heap.size) := Lib.hid (Nat.le_trans Z3.out HB4.out.size)
    have BX4 := Lib.hid (below_block HB4.out BX3.out)
    have BV4 := Lib.hid (below_block HB4.out BV3.out)
    obtain ⟨F1, hF1⟩ : ∃ F1, F ++ (enumF p way x).map told = F1 := ⟨_, rfl⟩
    have hF1l : F1.length ≤ F.length + 1 := by
      rw [← hF1, List.length_append, List.length_map]
      have : (enumF p way x).length ≤ 1 := by unfold enumF; split <;> simp
      omega
    clear L3 W3 B3 K3 Z3 BX3 BV3 HB4 c8
    go_upto_if 40 with fail
    go_cut [] (fun wx => Hid (LookAt g (.slice (some ⟨b, ob, none⟩) sn sc) F1 wx) ∧ Hid (Below w0.heap.size w0 wx) ∧ Hid (StrKeep w4 wx) ∧ Hid (w.heap.size ≤ wx.heap.size))
    case first =>
      cases bad with
      | false =>
        have hef : enumF p way x = [] := by
          unfold enumF
          rw [if_neg]
          rintro ⟨h1, h2⟩
          rw [decide_eq_true h1, h2] at hbad
          cases hbad
        rw [hef] at hF1
        have hF1 : F = F1 := by simpa using hF1
        subst hF1
        clear hef hbad
        go_wp2_with fail
        go_meet
        exact ⟨L4, B4, Lib.hid (StrKeep.refl _), Z4⟩
      | true =>
        have hef : enumF p way x = [(way, 19)] := by
          unfold enumF
          rw [if_pos]
          rw [Bool.and_eq_true] at hbad
          exact ⟨of_decide_eq_true hbad.1, by simpa using hbad.2⟩
        have HF1 : Hid (F ++ [told (way, 19)] = F1) := Lib.hid (by rw [← hF1, hef]; rfl)
        have HFa := Lib.hid (fault_any w0 g (.slice (some ⟨b, ob, none⟩) sn sc) (.slice asv wn csv) F way 19 w4 L4.out W4.out.1 (by omega) ⟨by decide, by decide⟩ (by omega) B4.out hg0 HE.out)
        rw [HF1.out] at HFa
        clear hef hbad hF1
        go_wp2_with fail
        refine HFa.out.mono ?_
        rintro E w5 ⟨rfl, h1, h2, h3, h4⟩
        have Z5 : Hid (w.heap.size ≤ w5.heap.size) := Lib.hid (Nat.le_trans Z4.out h4)
        have L5 := Lib.hid h1
        have B5 := Lib.hid h2
        have K5 := Lib.hid h3
        clear h1 h2 h3 h4 HFa
        go_wp2_with fail
        go_meet
        exact ⟨L5, B5, K5, Z5⟩
    case rest =>
    obtain ⟨w5, hw5⟩ : ∃ w5, w5 = wc := ⟨_, rfl⟩
    rw [← hw5] at hcut ⊢
    clear hw5
    obtain ⟨L5, B5, K45, Z5⟩ := hcut
    have W5 := Lib.hid (W4.out.stays K45.out)
    have K5 := Lib.hid (K4.out.trans K45.out)
    have bx := K45.out _ _ _ _ BX4.out (by decide) (by decide)
    have bv := K45.out _ _ _ _ BV4.out (by decide) (by decide)
    have BX5 := Lib.hid bx
    have c6 := cell_block bv 0
    have HF1 := Lib.hid hF1
    have HRS : Hid (∀ w', LookAt g (.slice (some ⟨b, ob, none⟩) sn sc) (F1 ++ (bodyL S (lookV S n) p way x).map told) w' → LookAt g (.slice (some ⟨b, ob, none⟩) sn sc) (F ++ RES.map told) w') := Lib.hid (fun w' h => by
      rw [Hsplit.out, List.map_append, ← List.append_assoc, HF1.out]; exact h)
    clear L4 W4 B4 K4 Z4 BX4 BV4 K45 hF1 bv hbad
    cases m with
    | zero => exact absurd HV.out (by intro h; cases h)
    | succ m =>
    cases x with
    | nul =>
      obtain rfl : v = .nilIface := HV.out
      obtain ⟨g1, g2, g3, g4, g5⟩ := as_nil
      have HL5 := Lib.hid (HRS.out w5 (by show LookAt _ _ (F1 ++ [].map told) _; simpa using L5.out))
      clear bx
      go_wp2_with fail
      go_end0
      exact ⟨rfl, HL5.out, B5.out, K5.out, Z5.out⟩
    | bool b9 =>
      obtain rfl : v = .iface 4 (.bool b9) := HV.out
      obtain ⟨g1, g2, g3, g4, g5⟩ := as_bool (.bool b9)
      have HL5 := Lib.hid (HRS.out w5 (by show LookAt _ _ (F1 ++ [].map told) _; simpa using L5.out))
      clear bx
      go_wp2_with fail
      go_end0
      exact ⟨rfl, HL5.out, B5.out, K5.out, Z5.out⟩
    | num k0 =>
      obtain ⟨rfl, _, _⟩ := HV.out
      obtain ⟨g1, g2, g3, g4, g5⟩ := as_int64 (.int .i64 k0)
      have HSp := Lib.hid (span_any w0 g (.slice (some ⟨b, ob, none⟩) sn sc) (.slice asv wn csv) F1 way (k0) p (.slice fa fn fc) (.slice na nn nc) (.slice ea en ec) w5 L5.out W5.out (by omega) (by omega) B5.out hg0 HE.out)
      have HRS2 := HRS
      go_wp2_with (refine wpList_load_row (by rfl) _ _ (by rfl) g8 (by rfl) _ _ _ _ bx Tryz.underlying73 rfl (by exact Tryz.sizePart) ?_)
      refine HSp.out.mono ?_
      rintro E w6 ⟨rfl, h1, h2, h3, h4⟩
      have L6 := Lib.hid (HRS2.out w6 h1)
      have B6 := Lib.hid h2
      have K6 := Lib.hid (K5.out.trans h3)
      have Z6 : Hid (w.heap.size ≤ w6.heap.size) := Lib.hid (Nat.le_trans Z5.out h4)
      clear h1 h2 h3 h4 HSp bx
      go_wp2_with fail
      go_end0
      exact ⟨rfl, L6.out, B6.out, K6.out, Z6.out⟩
    | str s0 =>
      obtain rfl : v = .iface 9 (.string (mkB s0)) := HV.out
      have hsz : (mkB s0).size = s0.length := mkB_size s0
      obtain ⟨g1, g2, g3, g4, g5⟩ := as_string (.string (mkB s0))
      have HSp := Lib.hid (span_any w0 g (.slice (some ⟨b, ob, none⟩) sn sc) (.slice asv wn csv) F1 way ((s0.length : Nat)) p (.slice fa fn fc) (.slice na nn nc) (.slice ea en ec) w5 L5.out W5.out (by omega) (by omega) B5.out hg0 HE.out)
      obtain ⟨B0, hB0⟩ : ∃ b, mkB s0 = b := ⟨_, rfl⟩
      obtain ⟨z0, hz0⟩ : ∃ z, s0.length = z := ⟨_, rfl⟩
      rw [hz0] at HSp
      rw [hB0, hz0] at hsz
      have HB0 := Lib.hid hB0
      rw [hB0] at c6 g1 g2 g3 g4 g5
      have HRS2 : Hid (∀ w', LookAt g (.slice (some ⟨b, ob, none⟩) sn sc) (F1 ++ (spanL p z0 way).map told) w' → LookAt g (.slice (some ⟨b, ob, none⟩) sn sc) (F ++ RES.map told) w') := Lib.hid (fun w' h => HRS.out w' (by show LookAt _ _ (F1 ++ (spanL p (s0.length : Nat) way).map told) _; rw [hz0]; exact h))
      clear hB0 hz0
      go_wp2_with (refine wpList_load_row (by rfl) _ _ (by rfl) g8 (by rfl) _ _ _ _ bx Tryz.underlying73 rfl (by exact Tryz.sizePart) ?_)
      refine HSp.out.mono ?_
      rintro E w6 ⟨rfl, h1, h2, h3, h4⟩
      have L6 := Lib.hid (HRS2.out w6 h1)
      have B6 := Lib.hid h2
      have K6 := Lib.hid (K5.out.trans h3)
      have Z6 : Hid (w.heap.size ≤ w6.heap.size) := Lib.hid (Nat.le_trans Z5.out h4)
      clear h1 h2 h3 h4 HSp bx
      go_wp2_with fail
      go_end0
      exact ⟨rfl, L6.out, B6.out, K6.out, Z6.out⟩
    | obj l =>
      obtain ⟨q, rfl, hob⟩ := HV.out
      obtain ⟨g1, g2, g3, g4, g5⟩ := as_obj (.pointer (some ⟨q, 0, none⟩))
      have hen : enumF p way (.obj l) = [] := by
        unfold enumF
        rw [if_neg]
        rintro ⟨h1, _⟩
        rw [HGp.out.enums (.inr Hkx.out.symm)] at h1
        exact absurd h1 (by decide)
      have hFF : F = F1 := by have := HF1.out; rw [hen] at this; simpa using this
      have HOb := Lib.hid (object_any HGood.out HLies.out n HIh.out g i Hn.out p b (ob + i * 9) fa fn fc na nn nc ea en ec HP.out m q l hob (.slice asv wn csv) way F1 w5 W5.out L5.out B5.out hg0 (by rw [← hFF]; exact HF.out) Ht.out)
      clear hen hFF hob
      go_wp2_with (refine wpList_load_row (by rfl) _ _ (by rfl) g8 (by rfl) _ _ _ _ bx Tryz.underlying73 rfl (by exact Tryz.sizePart) ?_)
      refine HOb.out.mono ?_
      rintro E w6 ⟨rfl, h1, h2, h3, h4⟩
      have L6 := Lib.hid (HRS.out w6 h1)
      have B6 := Lib.hid h2
      have K6 := Lib.hid (K5.out.trans h3)
      have Z6 : Hid (w.heap.size ≤ w6.heap.size) := Lib.hid (Nat.le_trans Z5.out h4)
      clear h1 h2 h3 h4 HOb bx
      go_wp2_with fail
      go_end0
      exact ⟨rfl, L6.out, B6.out, K6.out, Z6.out⟩
    | list l =>
      obtain ⟨u, rfl, hrow, _⟩ := HV.out
      obtain ⟨au, cu, rfl, _, _⟩ := hrow.len
      obtain ⟨ln, hln⟩ : ∃ m, l.length = m := ⟨_, rfl⟩
      rw [hln] at c6 hrow
      have HRow := Lib.hid hrow
      obtain ⟨g1, g2, g3, g4, g5⟩ := as_list (.slice au ln cu)
      have hsize : JP.size (.list l) = 1 + JP.sizeL l := by rw [JP.size]
      have hlong := sizeL_long l
      have hlnb : ln ≤ 1000000 := by have := HF.out; omega
      have HSz : Hid (F.length + 16 + 16 * JP.sizeL l ≤ 1000000) := Lib.hid (by have := HF.out; show _ ≤ _; omega)
      obtain ⟨hit1, hit2⟩ := HGp.out.items (by have := Hkx.out; exact this.symm)
      obtain ⟨ki, hki⟩ : ∃ ki : Nat, p.items = (ki : Int) := ⟨p.items.toNat, by omega⟩
      rw [hki] at hit1 hit2
      have hkl : ki < S.length := by omega
      have hkr : S.length - ki ≤ n := by have := Hn.out; omega
      have Hkl := Lib.hid hkl
      have Hkr := Lib.hid hkr
      have Hki := Lib.hid hki
      have Hln := Lib.hid hln
      have HSp := Lib.hid (span_any w0 g (.slice (some ⟨b, ob, none⟩) sn sc) (.slice asv wn csv) F1 way (ln : Nat) p (.slice fa fn fc) (.slice na nn nc) (.slice ea en ec) w5 L5.out W5.out (by omega) (by omega) B5.out hg0 HE.out)
      obtain ⟨F2, hF2⟩ : ∃ F2, F1 ++ (spanL p (ln : Nat) way).map told = F2 := ⟨_, rfl⟩
      rw [hF2] at HSp
      have hF2l : F2.length ≤ F.length + 3 := by
        rw [← hF2, List.length_append, List.length_map]
        have := span_len p (ln : Nat) way
        omega
      have HRS2 : Hid (∀ w', LookAt g (.slice (some ⟨b, ob, none⟩) sn sc) (F2 ++ ((List.range l.length).flatMap (itemF S n p way l)).map told) w' → LookAt g (.slice (some ⟨b, ob, none⟩) sn sc) (F ++ RES.map told) w') := Lib.hid (fun w' h => HRS.out w' (by
        show LookAt _ _ (F1 ++ (spanL p (l.length : Nat) way ++ (List.range l.length).flatMap (itemF S n p way l)).map told) _
        rw [hln, List.map_append, ← List.append_assoc, hF2]
        rw [hln] at h
        exact h))
      clear hsize hlong hit1 hit2 hkl hkr hki hln hrow hF2 HRS HF1 Hsplit
      go_wp2_with (refine wpList_load_row (by rfl) _ _ (by rfl) g8 (by rfl) _ _ _ _ bx Tryz.underlying73 rfl (by exact Tryz.sizePart) ?_)
      refine HSp.out.mono ?_
      rintro E w6 ⟨rfl, h1, h2, h3, h4⟩
      have L6 := Lib.hid h1
      have B6 := Lib.hid h2
      have W6 := Lib.hid (W5.out.stays h3)
      have K6 := Lib.hid (K5.out.trans h3)
      have BX6 := Lib.hid (h3 _ _ _ _ BX5.out (by decide) (by decide))
      have Z6 : Hid (w.heap.size ≤ w6.heap.size) := Lib.hid (Nat.le_trans Z5.out h4)
      clear h1 h2 h3 h4 HSp bx L5 B5 W5 K5 BX5 Z5 c6
      go_wp2_with fail
      go_loopg [73] ln (fun k u73 wr => ∃ j : Nat, j + k = ln ∧ u73 = .int .i64 (j : Int) ∧ Hid (LookAt g (.slice (some ⟨b, ob, none⟩) sn sc) (F2 ++ ((List.range j).flatMap (itemF S n p way l)).map told) wr) ∧ Hid (Below w0.heap.size w0 wr) ∧ Hid (StrKeep w6 wr) ∧ Hid (w.heap.size ≤ wr.heap.size))
      case atStart => exact ⟨0, by omega, rfl, Lib.hid (by simpa using L6.out), B6, Lib.hid (StrKeep.refl _), Z6⟩
      case round =>
        clear L6 B6 Z6
        obtain ⟨j, hjk, rfl, HL, HB, HK, HZ⟩ := hrel
        cases gk with
        | zero =>
          have hjl : j = ln := by omega
          subst hjl
          have q9 : ¬ (j : Int) < (j : Int) := by omega
          have HGo := Lib.hid (HRS2.out wr (by rw [Hln.out]; exact HL.out))
          have HKK := Lib.hid (K6.out.trans HK.out)
          clear HL HK
          go_wp2_with fail
          go_end0
          exact ⟨rfl, HGo.out, HB.out, HKK.out, HZ.out⟩
        | succ k =>
          have hjl : j < ln := by omega
          obtain ⟨y, hy⟩ : ∃ y, l[j]? = some y := ⟨l[j]'(by rw [Hln.out]; exact hjl), List.getElem?_eq_getElem _⟩
          obtain ⟨bk, ok, ck, hv1, _, _, hbs1, hcell1⟩ := HRow.out.form (by rw [Hln.out]; omega) (by omega)
          injection hv1 with u1 u2 u3
          subst u1
          clear u2 u3
          obtain ⟨ds1, _, hcc1, vy, hds1, hvy⟩ := hcell1 j y hy
          subst hds1
          have e9 : w0.cell? ⟨bk, ok + j, none⟩ = some vy := by simpa using hcc1 0 _ rfl
          have e0 := (HB.out.cell (p := ⟨bk, ok + j, none⟩) hbs1).trans e9
          have q1 : (0 : Int) ≤ (j : Int) := by omega
          have q2 : (j : Int) < (ln : Int) := by omega
          have bx := HK.out _ _ _ _ BX6.out (by decide) (by decide)
          have BXr := Lib.hid bx
          have h8s : g8 < wr.heap.size := blk_lt bx
          have c8 := fun i => cell_block bx i
          have HVy := Lib.hid hvy
          have Hst := Lib.hid (item_take S n p way l j)
          have Hkl9 := Lib.hid (item_len (need_few HGood.out) n p way l j (by rw [Hln.out]; omega))
          have Hhere := Lib.hid (sizeL_here hy)
          have Htx : Hid ((JP.text y).length + 1 ≤ JP.lenL l) := Lib.hid (JP.mem_len hy).1
          have Hlt := Lib.hid (lenL_text l)
          have Hnx : Hid (itemF S n p way l j = lookV S n (partAt S (ki : Int)) (way ++ [Lib.itoa (j : Int)]) y) := Lib.hid (by unfold itemF; rw [hy, Hki.out]; rfl)
          have HWr := Lib.hid (W6.out.stays HK.out)
          have c4 : wr.cell? ⟨g8, 4, none⟩ = some (.int .i64 (ki : Int)) := by have := c8 4; rw [Hki.out] at this; exact this
          have hit := Lib.itoa_length_le (j : Int) (by omega) (by omega)
          have Hdp : Hid (JP.deep y + 1 ≤ JP.deep (.list l)) := Lib.hid (by rw [JP.deep]; have := (JP.mem_len hy).2.2; omega)
          clear hcell1 hcc1 hy e9 hbs1 hvy bx c8
          go_upto_region 19 with fail
          refine wp_region_relB 8 (fun ii U w' => match ii with
            | 0 => U 0 = .pointer (some ⟨g, 0, none⟩)
            | 1 => U 1 = .pointer (some ⟨g8, 4, none⟩)
            | 2 => U 2 = .int .i64 (ki : Int)
            | 3 => U 3 = vy
            | 4 => U 4 = .slice asv wn csv
            | 5 => U 5 = .int .i64 (j : Int)
            | 6 => U 6 = .string (mkB (Lib.itoa (j : Int)))
            | 7 => StrS w' (U 7) ((way ++ [Lib.itoa (j : Int)]).map mkB)
            | _ => True)
            (fun | 2 => [1] | 6 => [5] | 7 => [4, 6] | _ => []) (by kernel_rfl) (by kernel_rfl) ?_ ⟨?_, ?_, ?_, ?_, ?_, ?_, ?_, ?_, trivial⟩ ?_
          · intro jj U wa wb hb h
            match jj, h with
            | 0, h => exact h
            | 1, h => exact h
            | 2, h => exact h
            | 3, h => exact h
            | 4, h => exact h
            | 5, h => exact h
            | 6, h => exact h
            | 7, h => exact StrS.stays h (StrKeep.below hb)
            | _ + 8, h => trivial
          · intro y' w' hb hd
            refine owes_here (.pointer (some ⟨g, 0, none⟩)) (by rfl) ?_ rfl
            simp only [putAll, List.take_succ_cons, List.take_zero]
            go_simp
          · intro y' w' hb hd
            refine owes_here (.pointer (some ⟨g8, 4, none⟩)) (by rfl) ?_ rfl
            simp only [putAll, List.take_succ_cons, List.take_zero]
            go_simp
          · intro y' w' hb hd
            have h1 : y' 1 = .pointer (some ⟨g8, 4, none⟩) := hd 1 (by simp)
            have hb6 : Below wr.heap.size wr w' := (Below.refl wr.heap.size wr).drew.trans hb
            have d0 : w'.cell? ⟨g8, 4, none⟩ = some (.int .i64 (ki : Int)) := (hb6.cell (p := ⟨g8, _, none⟩) h8s).trans c4
            refine owes_here (.int .i64 (ki : Int)) (by rfl) ?_ rfl
            simp only [putAll, List.take_succ_cons, List.take_zero]
            go_simp
          · intro y' w' hb hd
            refine owes_here vy (by rfl) ?_ rfl
            simp only [putAll, List.take_succ_cons, List.take_zero]
            go_simp
          · intro y' w' hb hd
            refine owes_here (.slice asv wn csv) (by rfl) ?_ rfl
            simp only [putAll, List.take_succ_cons, List.take_zero]
            go_simp
          · intro y' w' hb hd
            refine owes_here (.int .i64 (j : Int)) (by rfl) ?_ rfl
            simp only [putAll, List.take_succ_cons, List.take_zero]
            go_simp
          · intro y' w' hb hd
            have h5 : y' 5 = .int .i64 (j : Int) := hd 5 (by simp)
            have hb6 : Below wr.heap.size wr w' := (Below.refl wr.heap.size wr).drew.trans hb
            have ht6 := (HE.out.1.below HB.out).below hb6
            refine owes_call 81 #[.int .i64 (j : Int)] (by rfl) ?_ ((itoaS_any (j : Int) w' (by omega) (by omega) ht6).mono ?_)
            · simp only [putAll, List.take_succ_cons, List.take_zero]
              go_simp
            · rintro _ w2 ⟨rfl, hb3⟩
              exact ⟨_, rfl, rfl, hb3⟩
          · intro y' w' hb hd
            have h4 : y' 4 = .slice asv wn csv := hd 4 (by simp)
            have h6 : y' 6 = .string (mkB (Lib.itoa (j : Int))) := hd 6 (by simp)
            have hb6 : Below wr.heap.size wr w' := (Below.refl wr.heap.size wr).drew.trans hb
            have hW' := HWr.out.stays (StrKeep.below hb6)
            refine owes_call 80 #[.slice asv wn csv, .string (mkB (Lib.itoa (j : Int)))] (by rfl) ?_ ((step_any (.slice asv wn csv) (way.map mkB) (mkB (Lib.itoa (j : Int))) w' hW'.1 (by rw [List.length_map]; have := way_len2 way; omega)).mono ?_)
            · simp only [putAll, List.take_succ_cons, List.take_zero]
              go_simp
            · rintro _ w2 ⟨v2, rfl, ho, hb3⟩
              refine ⟨v2, rfl, ?_, hb3⟩
              have em : way.map mkB ++ [mkB (Lib.itoa (j : Int))] = (way ++ [Lib.itoa (j : Int)]).map mkB := by rw [List.map_append]; rfl
              rw [em] at ho
              exact strS_own ho
          · intro y' w7 hb hR
            have h0 : y' 0 = .pointer (some ⟨g, 0, none⟩) := hR 0 (by omega)
            have h2 : y' 2 = .int .i64 (ki : Int) := hR 2 (by omega)
            have h3 : y' 3 = vy := hR 3 (by omega)
            have h7 : StrS w7 (y' 7) ((way ++ [Lib.itoa (j : Int)]).map mkB) := hR 7 (by omega)
            have hb6 : Below wr.heap.size wr w7 := (Below.refl wr.heap.size wr).drew.trans hb
            have HB7 := Lib.hid (HB.out.trans (hb6.mono HB.out.size))
            have HK7 := Lib.hid (HK.out.trans (StrKeep.below hb6))
            have HZ7 : Hid (w.heap.size ≤ w7.heap.size) := Lib.hid (Nat.le_trans HZ.out hb6.size)
            have HI := Lib.hid (HIh.out g ki m vy (y' 7) y (way ++ [Lib.itoa (j : Int)]) (F2 ++ ((List.range j).flatMap (itemF S n p way l)).map told) w7 Hkl.out Hkr.out HVy.out h7 (HL.out.below hb6) HB7.out hg0 (by
              rw [List.length_append, List.length_map]
              have h1 := Hkl9.out
              have h2 := Hhere.out
              have h4 := HSz.out
              omega) (by rw [way_sum2]; have := Htx.out; have := Hlt.out; have := Ht.out; have := Hdp.out; omega))
            obtain ⟨v7, hv7⟩ : ∃ v, y' 7 = v := ⟨_, rfl⟩
            rw [hv7] at HI
            clear hb hR hb6 h7 HL HB HK HZ HWr
            simp only [putAll, List.take_succ_cons, List.take_zero, List.drop_succ_cons, List.drop_zero]
            rw [h0, h2, h3, hv7]
            clear h0 h2 h3 hv7
            try simp only [Act.put, List.setIfInBounds_toArray, List.set_cons_zero, List.set_cons_succ]
            go_wp2_with fail
            refine HI.out.mono ?_
            rintro E w8 ⟨rfl, h1, h2, h3, h4⟩
            have HL8 : Hid (LookAt g (.slice (some ⟨b, ob, none⟩) sn sc) (F2 ++ ((List.range (j + 1)).flatMap (itemF S n p way l)).map told) w8) := Lib.hid (by rw [Hst.out, Hnx.out, List.map_append, ← List.append_assoc]; exact h1)
            have HB8 := Lib.hid h2
            have HK8 := Lib.hid (HK7.out.trans h3)
            have HZ8 : Hid (w.heap.size ≤ w8.heap.size) := Lib.hid (Nat.le_trans HZ7.out h4)
            clear h1 h2 h3 h4 HI
            go_wp2_with fail
            go_roundg k
            case measure => omega
            case rel => exact ⟨j + 1, by omega, by go_num, HL8, HB8, HK8, HZ8⟩
theorem value_any {S : List GPart} {sa : Option Addr} {sn sc : Nat} {w0 : World} (hgood : GoodS S) (hlies : Lies S (.slice sa sn sc) w0) : ∀ n : Nat, LookIn S (.slice sa sn sc) w0 n
  | 0 => fun g i m v wv x way F w hi hn => absurd hn (by omega)
  | n + 1 => value_step hgood hlies n (value_any hgood hlies n)
end Sch
end Go.Proofs.YtnmhjabihfhobaaGreatDoor
namespace Go.Proofs.YtnmhjabihfhobaaGreatDoor
namespace Sch
open Go.RowKit
open JP (JV Bs)
theorem text_dfl {s : List GPart} (hg : GoodS s) (k : Int) (h : (partAt s k).deflt ≠ ByteArray.empty) : JP.Fit (dfl s k) := by
  rcases part_cases s k with e | e
  · rw [e] at h; exact absurd rfl h
  · exact JP.read_fit' ((hg.2.2 _ _ e).deflt h)
def StC (A : Int) (S : List GPart) (sn i : Nat) (c : Int) : Prop := (c = A ∧ (A ≠ 0 ∨ ∀ j, i ≤ j → j < sn → badDef S j = false)) ∨ (A = 0 ∧ c = 19 ∧ (List.range sn).any (badDef S) = true)
set_option maxRecDepth 100000 in
set_option maxHeartbeats 12800000 in
theorem check_any {S : List GPart} {sa : Option Addr} {sn sc : Nat} {w : World} (hlies : Lies S (.slice sa sn sc) w) (hS : S.length ≤ 1048576) :
    Calls Tryz.prog 45 #[.slice sa sn sc] w fun e w' => e = .returned (.int .i64 (checkE S)) ∧ Below w.heap.size w w' := by
  obtain ⟨ah, ch, hv, hsc9, hmx⟩ := hlies.row.len
  injection hv with u1 hsn u3
  have hsc : sn ≤ sc := by omega
  clear u1 u3 hsc9 hmx
  have hsl : sn ≤ 1048576 := by omega
  have Hsn := Lib.hid hsn
  obtain ⟨w1, hw1⟩ : ∃ w1, w1 = w.alloc (.cells #[.int .i64 0] 123) := ⟨_, rfl⟩
  obtain ⟨g, hg⟩ : ∃ g, g = w.heap.size := ⟨_, rfl⟩
  have hb1 : Below w.heap.size w w1 := by rw [hw1]; exact (Below.refl _ w).alloc (Nat.le_refl _) _
  have hx : IsBad g w1 0 := by show w1.heap[g]? = _; rw [hw1, hg]; exact heap_alloc_new w _
  have hgs : w.heap.size ≤ g := by omega
  have H1 := Lib.hid hx
  have HB1 := Lib.hid hb1
  have HLies := Lib.hid hlies
  have HS := Lib.hid hS
  obtain ⟨t1, ht1⟩ : ∃ t, decide (0 < sn) = t := ⟨_, rfl⟩
  obtain ⟨t2, ht2⟩ : ∃ t, decide ((sn : Int) ≤ 30) = t := ⟨_, rfl⟩
  have e2 : decide (sn ≤ 30) = t2 := by rw [← ht2]; exact decide_eq_decide.2 ⟨fun h => by omega, fun h => by omega⟩
  obtain ⟨A, hA⟩ : ∃ a, runT 0 (allTs S) = a := ⟨_, rfl⟩
  obtain ⟨R, hR⟩ : ∃ a, checkE S = a := ⟨_, rfl⟩
  obtain ⟨b2, hb2⟩ : ∃ b, needE (needE 0 t1 1) t2 2 = b := ⟨_, rfl⟩
  have hA2 : runT b2 ((List.range sn).flatMap fun i => partTs S.length i (partAt S (i : Int))) = A := by
    rw [← hA, ← hb2]
    unfold allTs
    rw [runT_append, ← hsn, ht1, e2]; rfl
  have HA2 := Lib.hid hA2
  have HA := Lib.hid hA
  have HR : Hid ((if A ≠ 0 then A else if (List.range sn).any (badDef S) then 19 else 0) = R) := Lib.hid (by rw [← hR, ← hA, hsn]; rfl)
  have Hb2 := Lib.hid hb2
  rw [hR]
  clear hlies hS hb1 hx e2 hA hR hb2 hA2 hsn
  go_enter Tryz.func45, Tryz.ntmps45
  go_upto_region 2 with fail
  rw [← hw1]
  rw [← hg]
  clear hw1 hg
  go_wp2_with fail
  refine (need_any g 0 1 t1 w1 H1.out).mono ?_
  rintro E w2 ⟨rfl, h1, h2⟩
  have H2 := Lib.hid h1
  have K2 := Lib.hid h2
  clear h1 h2 H1 ht1
  go_wp2_with fail
  refine (need_any g _ 2 t2 w2 H2.out).mono ?_
  rintro E w3 ⟨rfl, h1, h2⟩
  rw [Hb2.out] at h1
  have H3 := Lib.hid h1
  have K3 := Lib.hid (K2.out.trans h2)
  clear h1 h2 H2 K2 ht2 Hb2
  go_wp2_with fail
  go_loopg [23] sn (fun k u23 wr => ∃ i : Nat, i + k = sn ∧ u23 = .int .i64 (i : Int) ∧ Hid (IsBad g wr (runT b2 ((List.range i).flatMap fun i => partTs S.length i (partAt S (i : Int))))) ∧ Hid (But g w1 wr))
  case atStart => exact ⟨0, by omega, rfl, Lib.hid (by simpa [runT] using H3.out), K3⟩
  case round =>
    clear H3 K3
    obtain ⟨i, hik, rfl, HI, HK⟩ := hrel
    cases gk with
    | succ k =>
      have hil : i < sn := by omega
      obtain ⟨bi, hbi⟩ : ∃ b, runT b2 ((List.range i).flatMap fun i => partTs S.length i (partAt S (i : Int))) = b := ⟨_, rfl⟩
      have Hnx : Hid (runT b2 ((List.range (i + 1)).flatMap fun i => partTs S.length i (partAt S (i : Int))) = runT bi (partTs S.length i (partAt S (i : Int)))) := Lib.hid (by rw [flat_range, runT_append, hbi])
      rw [hbi] at HI
      have c0 : wr.cell? ⟨g, 0, none⟩ = some (.int .i64 bi) := cell_block HI.out 0
      clear hbi
      by_cases hz : bi = 0
      · subst hz
        have HBr := Lib.hid (HK.out.below HB1.out HB1.out.size hgs)
        have HP := Lib.hid (part_any HLies.out g i 0 wr (by rw [← Hsn.out]; exact hil) HI.out HBr.out hgs)
        clear HBr
        go_wp2_with fail
        refine HP.out.mono ?_
        rintro E w4 ⟨rfl, h1, h2⟩
        have H4 : Hid (IsBad g w4 (runT b2 ((List.range (i + 1)).flatMap fun i => partTs S.length i (partAt S (i : Int))))) := Lib.hid (by rw [Hnx.out]; exact h1)
        have K4 := Lib.hid (HK.out.trans h2)
        clear h1 h2 HP c0
        go_wp2_with fail
        go_roundg k
        case measure => omega
        case rel => exact ⟨i + 1, by omega, by go_num, H4, K4⟩
      · have q0 : (bi == 0) = false := by rw [beq_eq_false_iff_ne]; exact hz
        have H4 : Hid (IsBad g wr (runT b2 ((List.range (i + 1)).flatMap fun i => partTs S.length i (partAt S (i : Int))))) := Lib.hid (by rw [Hnx.out, runT_stays hz]; exact HI.out)
        clear hz
        go_wp2_with fail
        go_roundg k
        case measure => omega
        case rel => exact ⟨i + 1, by omega, by go_num, H4, HK⟩
    | zero =>
      have hil : sn = i := by omega
      subst hil
      have q9 : ¬ (sn : Int) < (sn : Int) := by omega
      rw [HA2.out] at HI
      obtain ⟨w4, hw4⟩ : ∃ w, w = wr := ⟨_, rfl⟩
      rw [← hw4] at HI HK ⊢
      clear hw4 hik
      go_wp2_with fail
      clear q9
      go_loopg [5] sn (fun k u5 wr => ∃ (i : Nat) (z c : Int), i ≤ k ∧ i ≤ sn ∧ z + 1 = (i : Int) ∧ u5 = .int .i64 z ∧ Hid (IsBad g wr c) ∧ Hid (But g w1 wr) ∧ Hid (StC A S sn i c))
      case atStart => exact ⟨sn, (sn : Int) - 1, A, Nat.le_refl _, Nat.le_refl _, by omega, by go_num, HI, HK, Lib.hid (.inl ⟨rfl, .inr fun j h1 h2 => absurd h2 (Nat.not_lt.2 h1)⟩)⟩
      case round =>
        clear HI HK
        obtain ⟨i, z, c, hik, his, hzi, rfl, HI, HK, HSt⟩ := hrel
        have c0 : wr.cell? ⟨g, 0, none⟩ = some (.int .i64 c) := cell_block HI.out 0
        cases i with
        | zero =>
          obtain rfl : z = -1 := by omega
          have Hc : Hid (c = R) := Lib.hid (by
            rw [← HR.out]
            rcases HSt.out with ⟨h1, h2⟩ | ⟨h1, h2, h3⟩
            · by_cases hA : A ≠ 0
              · rw [if_pos hA]; exact h1
              · rw [if_neg hA, if_neg, h1, Decidable.not_not.1 hA]
                rw [List.any_eq_true]
                rintro ⟨j, h4, h5⟩
                rw [(h2.resolve_left hA) j (Nat.zero_le _) (List.mem_range.1 h4)] at h5
                cases h5
            · rw [if_neg (fun h => h h1), if_pos h3]; exact h2)
          have HBe := Lib.hid (HK.out.below HB1.out HB1.out.size hgs)
          have hc := Hc.out
          clear Hc HSt HR
          subst hc
          clear hzi
          go_wp2_with fail
          go_ret
          exact ⟨rfl, HBe.out⟩
        | succ i =>
          obtain rfl : z = (i : Int) := by omega
          have q1 : (0 : Int) ≤ (i : Int) := by omega
          by_cases hc : c = 0
          · subst hc
            have hA0 : A = 0 ∧ ∀ j, i + 1 ≤ j → j < sn → badDef S j = false := by
              rcases HSt.out with ⟨h1, h2⟩ | ⟨_, h2, _⟩
              · exact ⟨h1.symm, h2.resolve_left fun h => h h1.symm⟩
              · cases h2
            obtain ⟨rfl, hbad⟩ := hA0
            have hgood := good_of HA.out
            have hi : i < S.length := by rw [← Hsn.out]; omega
            have HGood := Lib.hid hgood
            obtain ⟨bk, ok, p, fa, fn, fc, na, nn, nc, ea, en, ec, hsa, hsn9, hp⟩ := HLies.out.part hi
            clear hsn9
            have HBr := Lib.hid (HK.out.below HB1.out HB1.out.size hgs)
            have e8 : wr.cell? ⟨bk, ok + i * 9 + 8, none⟩ = some (.string p.deflt) := (HBr.out.cell (p := ⟨bk, _, none⟩) hp.blk).trans hp.c8
            have hpa := partAt_of hp.at_
            have q2 : (i : Int) < (sn : Int) := by omega
            have hds := (HLies.out.small p (List.mem_of_getElem? hp.at_)).2.2.2.2
            have Hpa := Lib.hid hpa
            have Hbad := Lib.hid hbad
            have Hi := Lib.hid hi
            have HDef := Lib.hid (hgood.2.2 i p hp.at_).deflt
            subst hsa
            clear hgood hp hpa hbad hi HSt hzi
            by_cases hd : p.deflt = ByteArray.empty
            · have t1 : p.deflt.toList = [] := by rw [hd, ByteArray.toList_eq]; rfl
              have t2 : p.deflt.toList.isEmpty = true := by rw [t1]; rfl
              have HSt : Hid (StC 0 S sn i 0) := Lib.hid (.inl ⟨rfl, .inr fun j h1 h2 => by
                rcases Nat.lt_or_ge i j with h3 | h3
                · exact Hbad.out j h3 h2
                · obtain rfl : j = i := by omega
                  unfold badDef
                  rw [Hpa.out, hd]; simp⟩)
              clear hd HDef
              go_wp2_with fail
              go_roundg (gk - 1)
              case measure => omega
              case rel => exact ⟨i, (i : Int) - 1, 0, by omega, by omega, by omega, by go_num, HI, HK, HSt⟩
            · have t1 : p.deflt.toList.isEmpty = false := by
                cases h : p.deflt.toList with
                | nil => exact absurd (toList_inj (h.trans (show ([] : List UInt8) = ByteArray.empty.toList by rw [ByteArray.toList_eq]; rfl))) hd
                | cons _ _ => rfl
              have t2 : (!p.deflt.toList.isEmpty) = true := by rw [t1]; rfl
              have hre := HDef.out hd
              have hfit := JP.read_fit' (a := p.deflt.data.toList) hre
              have HRd := Lib.hid (read_any p.deflt wr hds)
              have Hd := Lib.hid hd
              obtain ⟨x, hx⟩ : ∃ x, (JP.readL p.deflt.data.toList).1 = x := ⟨_, rfl⟩
              rw [hx] at HRd hfit
              have Hx := Lib.hid hx
              have Hfit := Lib.hid hfit
              clear hd hre hfit hx HDef hds
              go_wp2_with fail
              refine HRd.out.mono ?_
              rintro E w5 ⟨v, rfl, ⟨nj, hj⟩, hb5⟩
              have H5 := Lib.hid (HI.out.below hb5)
              have K5 := Lib.hid (HK.out.trans (But.of hb5))
              have HB5 := Lib.hid (HBr.out.trans (hb5.mono HBr.out.size))
              obtain ⟨w6, hw6⟩ : ∃ w6, w6 = w5.alloc (.cells #[.slice (some ⟨bk, ok, none⟩) sn sc, .slice none 0 0] 84) := ⟨_, rfl⟩
              obtain ⟨g2, hg2⟩ : ∃ g2, g2 = w5.heap.size := ⟨_, rfl⟩
              have hb6 : Below w5.heap.size w5 w6 := by rw [hw6]; exact (Below.refl _ w5).alloc (Nat.le_refl _) _
              have hl6 : LookAt g2 (.slice (some ⟨bk, ok, none⟩) sn sc) [] w6 := ⟨.slice none 0 0, by rw [hw6, hg2]; exact heap_alloc_new w5 _, OwnAt.nil _⟩
              have hl5 := HLies.out.below HB5.out
              have HV := Lib.hid (value_any HGood.out hl5 S.length g2 i nj v (.slice none 0 0) x [] [] w6 Hi.out (by omega) hj (StrS.nil w6) hl6 hb6 (by omega) (by
                have := Hfit.out.2.1
                simp only [List.length_nil]; omega) (by
                have h1 : (JP.text x).length ≤ 2000 := Hfit.out.2.2.2
                have h2 : JP.deep x ≤ 10 := Hfit.out.2.2.1
                simp only [List.map_nil, List.sum_nil]; omega))
              have h5s : g < w5.heap.size := H5.out.lt
              have HB56 := Lib.hid hb6
              clear hb5 hb6 hl6 hl5 hj HRd HI HK HBr c0 e8
              go_upto_region 16 with fail
              rw [← hw6]
              rw [← hg2]
              clear hw6 hg2
              go_wp2_with fail
              refine HV.out.mono ?_
              rintro E w7 ⟨rfl, h1, h2, _, h4⟩
              obtain ⟨fv, hf1, hf2⟩ := h1
              have H7 := Lib.hid (show IsBad g w7 0 from (h2.block g h5s).trans H5.out)
              have K7 := Lib.hid (K5.out.trans (But.of h2))
              obtain ⟨fa2, fc2, e2, _⟩ := hf2.row.len
              obtain ⟨nf, hnf⟩ : ∃ n, (([] : List GFault) ++ (lookV S S.length (partAt S (i : Int)) [] x).map told).length = n := ⟨_, rfl⟩
              rw [hnf] at e2
              subst e2
              have hnf2 : nf = (faultsV S (i : Int) x).length := by
                rw [← hnf, List.nil_append, List.length_map]
                unfold faultsV
                with_reducible rfl
              have c1 := cell_block hf1 1
              obtain ⟨tz, htz⟩ : ∃ t, ((nf : Int) == 0) = t := ⟨_, rfl⟩
              have hbd : badDef S i = !tz := by
                unfold badDef
                rw [Hpa.out, Hx.out, decide_eq_true (Hd.out : p.deflt ≠ ByteArray.empty), ← htz]
                cases hq : faultsV S (i : Int) x with
                | nil => rw [hnf2, hq]; rfl
                | cons a r => rw [hnf2, hq]; rfl
              have Hbd := Lib.hid hbd
              have HN := Lib.hid (need_any g 0 19 tz w7 H7.out)
              clear h2 h4 hf1 hf2 hnf hnf2 HV hbd H5 K5 h5s
              go_wp2_with fail
              refine HN.out.mono ?_
              rintro E w8 ⟨rfl, h1, h2⟩
              have H8 := Lib.hid h1
              have K8 := Lib.hid (K7.out.trans h2)
              have HSt : Hid (StC 0 S sn i (needE 0 tz 19)) := Lib.hid (by
                cases tz with
                | true =>
                  refine .inl ⟨rfl, .inr fun j h1 h2 => ?_⟩
                  rcases Nat.lt_or_ge i j with h3 | h3
                  · exact Hbad.out j h3 h2
                  · obtain rfl : j = i := by omega
                    rw [Hbd.out]; rfl
                | false =>
                  refine .inr ⟨rfl, rfl, List.any_eq_true.2 ⟨i, List.mem_range.2 (by omega), ?_⟩⟩
                  rw [Hbd.out]; rfl)
              clear h1 h2 HN H7 K7 c1
              go_wp2_with fail
              go_roundg (gk - 1)
              case measure => omega
              case rel => exact ⟨i, (i : Int) - 1, needE 0 tz 19, by omega, by omega, by omega, by go_num, H8, K8, HSt⟩
          · have q0 : (c == 0) = false := by rw [beq_eq_false_iff_ne]; exact hc
            have Hc : Hid (c = R) := Lib.hid (by
              rw [← HR.out]
              rcases HSt.out with ⟨h1, h2⟩ | ⟨h1, h2, h3⟩
              · rw [if_pos (by rw [← h1]; exact hc)]; exact h1
              · rw [if_neg (fun h => h h1), if_pos h3]; exact h2)
            have HBe := Lib.hid (HK.out.below HB1.out HB1.out.size hgs)
            have hc2 := Hc.out
            clear Hc HSt HR hc
            subst hc2
            clear hzi
            go_wp2_with fail
            go_ret
            exact ⟨rfl, HBe.out⟩
end Sch
end Go.Proofs.YtnmhjabihfhobaaGreatDoor
namespace Go.Proofs.YtnmhjabihfhobaaGreatDoor
namespace Sch
open Go.RowKit
open JP (JV Bs)
/-- 'both' -/
def BothAt (S : List GPart) (d : Bs) (w : World) (e : Ending) (w' : World) : Prop := ∃ v, e = .returned (.tuple #[v, .int .i64 (bothE S d)]) ∧ (bothE S d = 0 → ∃ n, JvAt n [] w' v (JP.readL d).1) ∧ Below w.heap.size w w'
set_option maxRecDepth 100000 in
theorem both_any {S : List GPart} {sa : Option Addr} {sn sc : Nat} {w : World} (hlies : Lies S (.slice sa sn sc) w) (hS : S.length ≤ 1048576) (d : ByteArray) (hd : d.size ≤ 1048576) :
    Calls Tryz.prog 38 #[.slice sa sn sc, .string d] w (BothAt S d.data.toList w) := by
  have HC := Lib.hid (check_any hlies hS)
  have HR := Lib.hid (fun w' : World => read_any d w' hd)
  have hbe : bothE S d.data.toList = if checkE S = 0 then (JP.readL d.data.toList).2 else checkE S := rfl
  unfold BothAt
  obtain ⟨b, hb⟩ : ∃ b, bothE S d.data.toList = b := ⟨_, rfl⟩
  rw [hb] at hbe ⊢
  obtain ⟨c, hc⟩ : ∃ c, checkE S = c := ⟨_, rfl⟩
  rw [hc] at HC hbe
  clear hlies hS hd hb hc
  by_cases h0 : c = 0
  · subst h0
    rw [if_pos rfl] at hbe
    have Hbe := Lib.hid hbe
    clear hbe
    go_enter Tryz.func38, Tryz.ntmps38
    go_wp2_with fail
    refine HC.out.mono ?_
    rintro E w1 ⟨rfl, hb⟩
    have HB := Lib.hid hb
    clear hb
    go_wp2_with fail
    refine (HR.out w1).mono ?_
    rintro E w2 ⟨v, rfl, hj, hb⟩
    have HJ := Lib.hid hj
    have HB2 := Lib.hid (HB.out.trans (hb.mono HB.out.size))
    clear hb hj
    go_wp2_with fail
    go_ret2
    exact ⟨v, ret_pair Hbe.out.symm, fun _ => HJ.out, HB2.out⟩
  · rw [if_neg h0] at hbe
    have q : (c != 0) = true := by rw [bne_iff_ne]; exact h0
    have Hbe := Lib.hid hbe
    have H0 := Lib.hid h0
    clear hbe h0
    go_enter Tryz.func38, Tryz.ntmps38
    go_wp2_with fail
    refine HC.out.mono ?_
    rintro E w1 ⟨rfl, hb⟩
    have HB := Lib.hid hb
    clear hb
    go_wp2_with fail
    go_ret2
    exact ⟨_, ret_pair Hbe.out.symm, fun h => absurd (Hbe.out.symm.trans h) H0.out, HB.out⟩
end Sch
end Go.Proofs.YtnmhjabihfhobaaGreatDoor
namespace Go.Proofs.YtnmhjabihfhobaaGreatDoor
namespace Sch
open Go.RowKit
open JP (JV Bs)
section
variable {σ α β : Type}
def mapC (f : α → σ → β × σ) : List α → σ → List β × σ
  | [], c => ([], c)
  | x :: r, c => ((f x c).1 :: (mapC f r (f x c).2).1, (mapC f r (f x c).2).2)
theorem mapC_append (f : α → σ → β × σ) : ∀ (a b : List α) (c : σ), mapC f (a ++ b) c = ((mapC f a c).1 ++ (mapC f b (mapC f a c).2).1, (mapC f b (mapC f a c).2).2)
  | [], _, _ => rfl
  | x :: r, b, c => by
    rw [List.cons_append, mapC, mapC_append f r b]
    rfl
theorem mapC_len (f : α → σ → β × σ) : ∀ (a : List α) (c : σ), (mapC f a c).1.length = a.length
  | [], _ => rfl
  | x :: r, c => by rw [mapC, List.length_cons, List.length_cons, mapC_len f r]
theorem mapC_take {f : α → σ → β × σ} {l : List α} {i : Nat} {x : α} (h : l[i]? = some x) (c : σ) :
    mapC f (l.take (i + 1)) c = ((mapC f (l.take i) c).1 ++ [(f x (mapC f (l.take i) c).2).1], (f x (mapC f (l.take i) c).2).2) := by
  rw [List.take_add_one, h, Option.toList_some, mapC_append]
  rfl
def kidC (p : GPart) (rec : Int → JV → σ → JV × σ) (y : Bs × JV) (c : σ) : (Bs × JV) × σ := match fieldL p.fields (mkB y.1) with
  | some k => ((y.1, (rec k y.2 c).1), (rec k y.2 c).2)
  | none => (y, c)
theorem kidC_name (p : GPart) (rec : Int → JV → σ → JV × σ) (y : Bs × JV) (c : σ) : (kidC p rec y c).1.1 = y.1 := by
  unfold kidC; split <;> rfl
def bodyC (s : List GPart) (mk : GPart → Flds → σ → Flds × σ) (rec : GPart → JV → σ → JV × σ) (p : GPart) : JV → σ → JV × σ
  | .list l, c => (.list (mapC (rec (partAt s p.items)) l c).1, (mapC (rec (partAt s p.items)) l c).2)
  | .obj l, c => (.obj (mapC (kidC p fun k => rec (partAt s k)) (mk p l c).1 (mk p l c).2).1, (mapC (kidC p fun k => rec (partAt s k)) (mk p l c).1 (mk p l c).2).2)
  | v, c => (v, c)
def thruC (s : List GPart) (mk : GPart → Flds → σ → Flds × σ) : Nat → GPart → JV → σ → JV × σ
  | 0, _, v, c => (v, c)
  | n + 1, p, v, c => if JP.kind v ≠ p.kind then (v, c) else bodyC s mk (thruC s mk n) p v c
theorem mapC_names (p : GPart) (rec : Int → JV → σ → JV × σ) : ∀ (l : Flds) (c : σ), (mapC (kidC p rec) l c).1.map (·.1) = l.map (·.1)
  | [], _ => rfl
  | y :: r, c => by rw [mapC, List.map_cons, List.map_cons, mapC_names p rec r, kidC_name]
/-- what holds of what is counted at the end, and goes back -/
theorem mapC_down {G : σ → Prop} {f : α → σ → β × σ} (hf : ∀ x c, G (f x c).2 → G c) : ∀ (l : List α) (c : σ), G (mapC f l c).2 → G c
  | [], _, h => h
  | x :: r, c, h => by rw [mapC] at h; exact hf x c (mapC_down hf r _ h)
theorem mapC_downTake {G : σ → Prop} {f : α → σ → β × σ} (hf : ∀ x c, G (f x c).2 → G c) (l : List α) (i : Nat) (c : σ) (h : G (mapC f l c).2) : G (mapC f (l.take i) c).2 := by
  have e : l = l.take i ++ l.drop i := (List.take_append_drop i l).symm
  rw [e, mapC_append] at h
  exact mapC_down hf _ _ h
theorem kidC_down {G : σ → Prop} {p : GPart} {rec : Int → JV → σ → JV × σ} (hf : ∀ k x c, G (rec k x c).2 → G c) (y : Bs × JV) (c : σ) (h : G (kidC p rec y c).2) : G c := by
  unfold kidC at h
  split at h
  · exact hf _ _ _ h
  · exact h
theorem thruC_down {G : σ → Prop} {s : List GPart} {mk : GPart → Flds → σ → Flds × σ} (hm : ∀ p l c, G (mk p l c).2 → G c) : ∀ (n : Nat) (p : GPart) (v : JV) (c : σ), G (thruC s mk n p v c).2 → G c
  | 0, _, _, _, h => h
  | n + 1, p, v, c, h => by
    have ih := thruC_down (s := s) hm n
    rw [thruC] at h
    split at h
    · exact h
    · cases v with
      | list l => exact mapC_down (fun x c h => ih _ x c h) l c h
      | obj l => exact hm p l c (mapC_down (fun y c h => kidC_down (fun k x c h => ih _ x c h) y c h) _ _ h)
      | _ => exact h
/-- how large it gets: what is counted pays for what comes -/
theorem mapC_sizeL {pot : σ → Nat} {f : JV → σ → JV × σ} (hf : ∀ x c, JP.size (f x c).1 + pot (f x c).2 ≤ JP.size x + pot c) : ∀ (l : List JV) (c : σ), JP.sizeL (mapC f l c).1 + pot (mapC f l c).2 ≤ JP.sizeL l + pot c
  | [], _ => Nat.le_refl _
  | x :: r, c => by
    have h1 := hf x c
    have h2 := mapC_sizeL hf r (f x c).2
    rw [mapC, JP.sizeL, JP.sizeL]
    show _ + _ + pot (mapC f r (f x c).2).2 ≤ _
    omega
theorem mapC_sizeF {pot : σ → Nat} {f : Bs × JV → σ → (Bs × JV) × σ} (hf : ∀ x c, JP.size (f x c).1.2 + pot (f x c).2 ≤ JP.size x.2 + pot c) : ∀ (l : Flds) (c : σ), JP.sizeF (mapC f l c).1 + pot (mapC f l c).2 ≤ JP.sizeF l + pot c
  | [], _ => Nat.le_refl _
  | (n, x) :: r, c => by
    have h1 := hf (n, x) c
    have h2 := mapC_sizeF hf r (f (n, x) c).2
    obtain ⟨⟨m, u⟩, hm⟩ : ∃ z, (f (n, x) c).1 = z := ⟨_, rfl⟩
    rw [hm] at h1
    rw [mapC, hm, JP.sizeF, JP.sizeF]
    dsimp only at h1 ⊢
    omega
theorem kidC_size {pot : σ → Nat} {p : GPart} {rec : Int → JV → σ → JV × σ} (hf : ∀ k x c, JP.size (rec k x c).1 + pot (rec k x c).2 ≤ JP.size x + pot c) (y : Bs × JV) (c : σ) : JP.size (kidC p rec y c).1.2 + pot (kidC p rec y c).2 ≤ JP.size y.2 + pot c := by
  unfold kidC
  split
  · exact hf _ _ _
  · exact Nat.le_refl _
theorem thruC_size {pot : σ → Nat} {s : List GPart} {mk : GPart → Flds → σ → Flds × σ} (hm : ∀ p l c, JP.sizeF (mk p l c).1 + pot (mk p l c).2 ≤ JP.sizeF l + pot c) : ∀ (n : Nat) (p : GPart) (v : JV) (c : σ), JP.size (thruC s mk n p v c).1 + pot (thruC s mk n p v c).2 ≤ JP.size v + pot c
  | 0, _, _, _ => Nat.le_refl _
  | n + 1, p, v, c => by
    have ih := thruC_size (s := s) hm n
    rw [thruC]
    split
    · exact Nat.le_refl _
    · cases v with
      | list l =>
        have := mapC_sizeL (pot := pot) (fun x c => ih (partAt s p.items) x c) l c
        show JP.size (.list _) + pot (mapC _ l c).2 ≤ _
        rw [JP.size, JP.size]
        omega
      | obj l =>
        have h1 := hm p l c
        have h2 := mapC_sizeF (pot := pot) (fun y c => kidC_size (p := p) (fun k x c => ih (partAt s k) x c) y c) (mk p l c).1 (mk p l c).2
        show JP.size (.obj _) + pot (mapC _ _ _).2 ≤ _
        rw [JP.size, JP.size]
        omega
      | _ => exact Nat.le_refl _
end
/-- Fill counts what comes -/
def fillStepC (s : List GPart) (st : Flds × Nat) (f : GField) : Flds × Nat := if skips s st.1 f then st else (if st.2 + 1 ≤ 1000 then JP.put f.name.data.toList (dfl s f.part) st.1 else st.1, st.2 + 1)
def fillC (s : List GPart) (p : GPart) (l : Flds) (c : Nat) : Flds × Nat := p.fields.foldl (fillStepC s) (l, c)
theorem stepC_up (s : List GPart) (st : Flds × Nat) (f : GField) : st.2 ≤ (fillStepC s st f).2 ∧ (fillStepC s st f).2 ≤ st.2 + 1 := by
  unfold fillStepC
  split
  · exact ⟨Nat.le_refl _, Nat.le_succ _⟩
  · exact ⟨Nat.le_succ _, Nat.le_refl _⟩
theorem foldC_up (s : List GPart) : ∀ (F : List GField) (st : Flds × Nat), st.2 ≤ (F.foldl (fillStepC s) st).2 ∧ (F.foldl (fillStepC s) st).2 ≤ st.2 + F.length
  | [], _ => ⟨Nat.le_refl _, Nat.le_refl _⟩
  | f :: r, st => by
    have h1 := stepC_up s st f
    have h2 := foldC_up s r (fillStepC s st f)
    rw [List.foldl_cons, List.length_cons]
    omega
theorem foldC_fill (s : List GPart) : ∀ (F : List GField) (st : Flds × Nat), (F.foldl (fillStepC s) st).2 ≤ 1000 → (F.foldl (fillStepC s) st).1 = F.foldl (fillStep s) st.1
  | [], _, _ => rfl
  | f :: r, st, h => by
    rw [List.foldl_cons] at h
    have h1 := (foldC_up s r (fillStepC s st f)).1
    rw [List.foldl_cons, List.foldl_cons, foldC_fill s r _ h]
    congr 1
    unfold fillStepC at h1 ⊢
    unfold fillStep
    split
    · rfl
    · rename_i hs
      rw [if_neg hs] at h1
      dsimp only at h1 ⊢
      rw [if_pos]
      unfold fillStepC at h
      rw [if_neg hs] at h
      omega
theorem mapC_fill {α β : Type} {f : α → Nat → β × Nat} {g : α → β} (hu : ∀ x c, c ≤ (f x c).2) (h : ∀ x c, (f x c).2 ≤ 1000 → (f x c).1 = g x) : ∀ (l : List α) (c : Nat), (mapC f l c).2 ≤ 1000 → (mapC f l c).1 = l.map g
  | [], _, _ => rfl
  | x :: r, c, hc => by
    rw [mapC] at hc
    have h1 : (f x c).2 ≤ 1000 := mapC_down (G := fun c => c ≤ 1000) (fun x c h => Nat.le_trans (hu x c) h) r _ hc
    rw [mapC, List.map_cons, mapC_fill hu h r _ hc, h x c h1]
theorem thruC_up (s : List GPart) (n : Nat) (p : GPart) (v : JV) (c : Nat) : c ≤ (thruC s (fillC s) n p v c).2 :=
  thruC_down (G := fun d => d ≤ (thruC s (fillC s) n p v c).2) (s := s) (mk := fillC s) (fun p l c h => Nat.le_trans (foldC_up s p.fields (l, c)).1 h) n p v c (Nat.le_refl _)
theorem thruC_fill (s : List GPart) : ∀ (n : Nat) (p : GPart) (v : JV) (c : Nat), (thruC s (fillC s) n p v c).2 ≤ 1000 → (thruC s (fillC s) n p v c).1 = fillV s n p v
  | 0, _, _, _, _ => rfl
  | n + 1, p, v, c, h => by
    have ih := thruC_fill s n
    have up := thruC_up s n
    unfold fillV at ih ⊢
    rw [thruC] at h ⊢
    rw [thruV]
    split
    · rfl
    · rename_i hk
      rw [if_neg hk] at h
      cases v with
      | list l => exact congrArg JV.list (mapC_fill (fun x c => up _ x c) (fun x c h => ih _ x c h) l c h)
      | obj l =>
        have hk2 : ∀ (y : Bs × JV) (c : Nat), c ≤ (kidC p (fun k => thruC s (fillC s) n (partAt s k)) y c).2 := fun y c => by
          unfold kidC
          split
          · exact up _ _ _
          · exact Nat.le_refl _
        have h1 : (fillC s p l c).2 ≤ 1000 := mapC_down (G := fun c => c ≤ 1000) (fun y c h => Nat.le_trans (hk2 y c) h) _ _ h
        have h2 := mapC_fill (g := kidV p fun k => thruV s (fillO s) n (partAt s k)) hk2 (fun y c h => by
          unfold kidC at h ⊢
          unfold kidV
          cases hf : fieldL p.fields (mkB y.1) with
          | some k =>
            rw [hf] at h
            show (y.1, (thruC s (fillC s) n (partAt s k) y.2 c).1) = (y.1, _)
            rw [ih _ _ _ h]
          | none => rfl) (fillC s p l c).1 (fillC s p l c).2 h
        refine congrArg JV.obj (h2.trans ?_)
        have h3 : (fillC s p l c).1 = fillO s p l := foldC_fill s p.fields (l, c) h1
        rw [h3]
      | _ => rfl
/-- what is there for Defaults yet -/
def potC (c : Nat) : Nat := 200 * (1000 - min c 1000)
theorem foldC_size {s : List GPart} (hd : ∀ k, (partAt s k).deflt ≠ ByteArray.empty → JP.size (dfl s k) ≤ 200) : ∀ (F : List GField) (st : Flds × Nat), JP.sizeF (F.foldl (fillStepC s) st).1 + potC (F.foldl (fillStepC s) st).2 ≤ JP.sizeF st.1 + potC st.2
  | [], _ => Nat.le_refl _
  | f :: r, st => by
    refine Nat.le_trans (foldC_size hd r (fillStepC s st f)) ?_
    unfold fillStepC
    by_cases hs : skips s st.1 f = true
    · rw [if_pos hs]; exact Nat.le_refl _
    · rw [if_neg hs]
      have hs2 : hasN st.1 f = false ∧ (partAt s f.part).deflt ≠ ByteArray.empty := by
        unfold skips at hs
        simpa using hs
      have hg : JP.get f.name.data.toList st.1 = none := by
        have := hs2.1
        unfold hasN at this
        simpa using this
      have h2 := hd f.part hs2.2
      dsimp only
      by_cases hc : st.2 + 1 ≤ 1000
      · rw [if_pos hc, JP.put_size _ _ _ hg]
        unfold potC
        omega
      · rw [if_neg hc]
        unfold potC
        omega
theorem fillC_size {s : List GPart} (hd : ∀ k, (partAt s k).deflt ≠ ByteArray.empty → JP.size (dfl s k) ≤ 200) (p : GPart) (l : Flds) (c : Nat) : JP.sizeF (fillC s p l c).1 + potC (fillC s p l c).2 ≤ JP.sizeF l + potC c := foldC_size hd p.fields (l, c)
/-- how many come: no more than the values there are, and come, bear -/
def aC (c : Nat) : Nat := min c 1000
theorem mapC_many {α β : Type} {f : α → Nat → β × Nat} {z : α → Nat} (hf : ∀ x c, (f x c).2 + 1608 * aC c ≤ c + 8 * z x + 1608 * aC (f x c).2) : ∀ (l : List α) (c : Nat), (mapC f l c).2 + 1608 * aC c ≤ c + 8 * (l.map z).sum + 1608 * aC (mapC f l c).2
  | [], c => by simp [mapC]
  | x :: r, c => by
    have h1 := hf x c
    have h2 := mapC_many hf r (f x c).2
    rw [mapC, List.map_cons, List.sum_cons]
    dsimp only
    omega
theorem sum_sizeL : ∀ l : List JV, (l.map JP.size).sum = JP.sizeL l
  | [] => rfl
  | x :: r => by rw [List.map_cons, List.sum_cons, JP.sizeL, sum_sizeL r]
theorem sum_sizeF : ∀ l : Flds, (l.map fun y => JP.size y.2).sum = JP.sizeF l
  | [] => rfl
  | (n, x) :: r => by rw [List.map_cons, List.sum_cons, JP.sizeF, sum_sizeF r]
theorem thruC_many {s : List GPart} (hd : ∀ k, (partAt s k).deflt ≠ ByteArray.empty → JP.size (dfl s k) ≤ 200) (hF : ∀ k, (partAt s k).fields.length ≤ 8) : ∀ (n : Nat) (k : Int) (v : JV) (c : Nat), (thruC s (fillC s) n (partAt s k) v c).2 + 1608 * aC c ≤ c + 8 * JP.size v + 1608 * aC (thruC s (fillC s) n (partAt s k) v c).2
  | 0, _, v, c => by
    have := JP.size_pos v
    rw [thruC]
    dsimp only
    omega
  | n + 1, k, v, c => by
    have ih := thruC_many hd hF n
    rw [thruC]
    split
    · dsimp only
      omega
    · cases v with
      | list l =>
        have := mapC_many (fun x c => ih (partAt s k).items x c) l c
        rw [sum_sizeL] at this
        show (mapC _ l c).2 + _ ≤ _ + 8 * JP.size (.list l) + 1608 * aC (mapC _ l c).2
        rw [JP.size]
        omega
      | obj l =>
        have h1 := fillC_size hd (partAt s k) l c
        have h3 := (foldC_up s (partAt s k).fields (l, c)).2
        have h4 := (foldC_up s (partAt s k).fields (l, c)).1
        have h5 := hF k
        have h2 := mapC_many (z := fun y : Bs × JV => JP.size y.2) (f := kidC (partAt s k) fun j => thruC s (fillC s) n (partAt s j)) (fun y c => by
          unfold kidC
          split
          · exact ih _ _ _
          · dsimp only
            omega) (fillC s (partAt s k) l c).1 (fillC s (partAt s k) l c).2
        rw [sum_sizeF] at h2
        show (mapC _ _ _).2 + _ ≤ _ + 8 * JP.size (.obj l) + 1608 * aC (mapC _ _ _).2
        rw [JP.size]
        have h6 : (fillC s (partAt s k) l c).2 ≤ c + (partAt s k).fields.length := h3
        have h7 : c ≤ (fillC s (partAt s k) l c).2 := h4
        unfold potC at h1
        unfold aC at h2 ⊢
        omega
      | _ => dsimp only [bodyC]; omega
end Sch
end Go.Proofs.YtnmhjabihfhobaaGreatDoor
namespace Go.Proofs.YtnmhjabihfhobaaGreatDoor
namespace Sch
open Go.RowKit
open JP (JV Bs)
/-- an object was made -/
def MadeO {σ : Type} (w0 : World) (G T : List Nat) (I : σ → World → Prop) (l : Flds) (c : σ) (w : World) (e : Ending) (w' : World) : Prop :=
  ∃ q' m', e = .returned (.pointer (some ⟨q', 0, none⟩)) ∧ ObR (JvR m' T) T w' q' l ∧ I c w' ∧ KeepT G w w' ∧ Below w0.heap.size w0 w'
/-- what the function that is handed in does -/
def Makes {σ : Type} (S : List GPart) (w0 : World) (G : List Nat) (mk : GPart → Flds → σ → Flds × σ) (I : σ → World → Prop) (pot : σ → Nat) (Good : σ → Prop) (f : FuncId) (caps : Array Value) : Prop :=
  ∀ (i : Nat) (p : GPart) (b o : Nat) (fa : Option Addr) (fn fc : Nat) (na : Option Addr) (nn nc : Nat) (ea : Option Addr) (en ec : Nat) (T : List Nat) (m q : Nat) (l : Flds) (c : σ) (w : World),
    PartIn S w0 i p b o fa fn fc na nn nc ea en ec → (∀ g ∈ G, g ∈ T) → (∀ b ∈ T, b < w.heap.size) → ObR (JvR m T) T w q l → I c w → JP.sizeF l + pot c ≤ 1000000 → Good (mk p l c).2 → Below w0.heap.size w0 w →
    Calls Tryz.prog f (#[.agg #[.int .i64 p.kind, .slice fa fn fc, .slice na nn nc, .bool p.extra, .int .i64 p.items, .int .i64 p.least, .int .i64 p.most, .slice ea en ec, .string p.deflt], .pointer (some ⟨q, 0, none⟩)] ++ caps) w (MadeO w0 G T I (mk p l c).1 (mk p l c).2 w)
end Sch
end Go.Proofs.YtnmhjabihfhobaaGreatDoor
namespace Go.Proofs.YtnmhjabihfhobaaGreatDoor
namespace Sch
open Go.RowKit
open JP (JV Bs)
theorem store_valS {w : World} {B g n c i : Nat} {e : TypeId} {xs : List Value} {v : Value} (h : OwnAt RVal 1 w B e (.slice (some ⟨g, 0, none⟩) n c) xs) (hi : i < xs.length) (hv : v.oneCell' = true) :
    ∃ w3, (storeCells ⟨g, i, none⟩ [v]).run Tryz.prog w = .ok () w3 ∧ OwnAt RVal 1 w3 B e (.slice (some ⟨g, 0, none⟩) n c) (xs.set i v) ∧ Touch g w w3 := by
  obtain ⟨css, hc1, hc2, hc3, hc4⟩ := h
  have h : OwnAt RVal 1 w B e (.slice (some ⟨g, 0, none⟩) n c) xs := ⟨css, hc1, hc2, hc3, hc4⟩
  obtain ⟨o1, o2⟩ := h.storeElem flat_val hi (cs := [v]) rfl (x := v) ⟨rfl, hv⟩
  have hle : xs.length ≤ c := by
    rcases h.form with ⟨h5, _⟩ | ⟨g', c', h5, _, _, h6, _⟩
    · cases h5
    · cases h5; exact h6
  have ht := h.there (o := i) (m := 1) (by omega)
  have e1 : w.setCells g (i * 1) [v] = w.setCell ⟨g, i, none⟩ v := by rw [Nat.mul_one]; rfl
  rw [e1] at o1 o2
  refine ⟨_, ?_, o1, o2⟩
  have h9 := run_storeCells_cells (P := Tryz.prog) g i [v] 0 w (fun j hj => by
    obtain rfl : j = 0 := by simpa using hj
    exact (ht 0 (by omega)).1) (fun j hj => by
    obtain rfl : j = 0 := by simpa using hj
    exact (ht 0 (by omega)).2) (fun u hu => by rw [List.mem_singleton.1 hu]; exact hv)
  rw [h9]; rfl
theorem own_keepT {α : Type} {R : Rd α} {k B : Nat} {e : TypeId} {v : Value} {l : List α} {G : List Nat} {w W : World} (hf : Flat R) (h : OwnAt R k w B e v l) (hk : KeepT G w W) (hne : ∀ q, v.ownBlock = some q → q ∉ G) : OwnAt R k W B e v l := by
  have h0 := h
  obtain ⟨css, h1, h2, h3, h4⟩ := h
  refine ⟨css, h1, h2, ⟨h3.1, ?_⟩, fun j cs y hcs hy => hf _ _ _ _ (h4 j cs y hcs hy)⟩
  rcases h3.2 with h5 | ⟨q, cap, cur, rfl, hB, hh, hr⟩
  · exact .inl h5
  · exact .inr ⟨q, cap, cur, rfl, hB, (hk.block q (h0.at rfl).2.1 (hne q rfl)).trans hh, hr⟩
theorem KeepT.touch {T : List Nat} {g : Nat} {w w' : World} (h : Touch g w w') (hg : g ∈ T) : KeepT T w w' := KeepT.but (But.touch h) hg
/-- values that lie there, one by one -/
def ValsJ (m : Nat) (T : List Nat) (w : World) (xs : List Value) (l : List JV) : Prop := xs.length = l.length ∧ ∀ (t : Nat) (v : Value) (x : JV), xs[t]? = some v → l[t]? = some x → JvAt m T w v x
theorem ValsJ.keepT {m : Nat} {T : List Nat} {w w' : World} {xs : List Value} {l : List JV} (h : ValsJ m T w xs l) (hk : KeepT T w w') : ValsJ m T w' xs l := ⟨h.1, fun t v x h1 h2 => (h.2 t v x h1 h2).keepT hk⟩
theorem ValsJ.ups {m n : Nat} {T : List Nat} {w : World} {xs : List Value} {l : List JV} (h : ValsJ m T w xs l) (hm : m ≤ n) : ValsJ n T w xs l := ⟨h.1, fun t v x h1 h2 => (h.2 t v x h1 h2).ups hm⟩
theorem ValsJ.set {m : Nat} {T : List Nat} {w : World} {xs : List Value} {l : List JV} {j : Nat} {u : Value} {y : JV} (h : ValsJ m T w xs l) (hu : JvAt m T w u y) : ValsJ m T w (xs.set j u) (l.set j y) := by
  refine ⟨by rw [List.length_set, List.length_set]; exact h.1, fun t v x h1 h2 => ?_⟩
  rw [List.getElem?_set] at h1 h2
  by_cases e : j = t
  · rw [if_pos e] at h1 h2
    split at h1
    · split at h2
      · cases h1; cases h2; exact hu
      · cases h2
    · cases h1
  · rw [if_neg e] at h1 h2
    exact h.2 t v x h1 h2
theorem list_set {A B : List JV} {y z : JV} : (A ++ y :: B).set A.length z = A ++ z :: B := by
  induction A with
  | nil => rfl
  | cons a r ih => rw [List.cons_append, List.length_cons, List.set_cons_succ, ih]; rfl
theorem put_mid {n : Bs} {x v : JV} : ∀ {A B : Flds}, (∀ a ∈ A, a.1 < n) → JP.put n v (A ++ (n, x) :: B) = A ++ (n, v) :: B
  | [], B, _ => by rw [List.nil_append, JP.put, if_neg (List.lt_irrefl n), if_pos rfl]; rfl
  | (m, u) :: r, B, h => by
    have h1 := h (m, u) (List.mem_cons_self ..)
    rw [List.cons_append, JP.put, if_pos h1, put_mid fun a ha => h a (List.mem_cons_of_mem _ ha)]; rfl
/-- a part's value was made -/
def MadeV {σ : Type} (w0 : World) (G T : List Nat) (I : σ → World → Prop) (x : JV) (c : σ) (w : World) (e : Ending) (w' : World) : Prop :=
  ∃ u m', e = .returned u ∧ JvAt m' T w' u x ∧ I c w' ∧ KeepT G w w' ∧ Below w0.heap.size w0 w'
def ThruIn {σ : Type} (S : List GPart) (sv : Value) (w0 : World) (G : List Nat) (mk : GPart → Flds → σ → Flds × σ) (I : σ → World → Prop) (pot : σ → Nat) (Good : σ → Prop) (f : FuncId) (caps : Array Value) (n : Nat) : Prop :=
  ∀ (i m : Nat) (T : List Nat) (v : Value) (x : JV) (c : σ) (w : World), i < S.length → S.length - i ≤ n → (∀ g ∈ G, g ∈ T) → (∀ b ∈ T, b < w.heap.size) → JvAt m T w v x → I c w → JP.size x + pot c ≤ 1000000 → Good (thruC S mk n (partAt S (i : Int)) x c).2 → Below w0.heap.size w0 w →
    Calls Tryz.prog 39 #[sv, .int .i64 (i : Int), v, .func (.func f) #[] caps] w (MadeV w0 G T I (thruC S mk n (partAt S (i : Int)) x c).1 (thruC S mk n (partAt S (i : Int)) x c).2 w)
/-- what must hold of what is kept on the way -/
structure Keeps3 {σ : Type} (w0 : World) (G : List Nat) (mk : GPart → Flds → σ → Flds × σ) (I : σ → World → Prop) (pot : σ → Nat) (Good : σ → Prop) : Prop where
  below : ∀ c w w', I c w → Below w.heap.size w w' → I c w'
  touch : ∀ c g w w', I c w → Touch g w w' → g ∉ G → w0.heap.size ≤ g → I c w'
  low : ∀ b ∈ G, w0.heap.size ≤ b
  size : ∀ p l c, JP.sizeF (mk p l c).1 + pot (mk p l c).2 ≤ JP.sizeF l + pot c
  down : ∀ p l c, Good (mk p l c).2 → Good c
end Sch
end Go.Proofs.YtnmhjabihfhobaaGreatDoor
namespace Go.Proofs.YtnmhjabihfhobaaGreatDoor
namespace Sch
open Go.RowKit
open JP (JV Bs)
set_option maxRecDepth 100000 in
set_option maxHeartbeats 12800000 in
theorem through_step {σ : Type} {S : List GPart} {sa : Option Addr} {sn sc : Nat} {w0 : World} {G : List Nat} {mk : GPart → Flds → σ → Flds × σ} {I : σ → World → Prop} {pot : σ → Nat} {Good : σ → Prop} {f : FuncId} {caps : Array Value}
    (enter : ∀ (a : Array Value) (w : World), (callFunc f a).run Tryz.prog w = .ok (.enter f a) w) (hgood : GoodS S) (hlies : Lies S (.slice sa sn sc) w0) (k3 : Keeps3 w0 G mk I pot Good) (mk1 : Makes S w0 G mk I pot Good f caps)
    (n : Nat) (ih : ThruIn S (.slice sa sn sc) w0 G mk I pot Good f caps n) : ThruIn S (.slice sa sn sc) w0 G mk I pot Good f caps (n + 1) := by
  intro i m T v x c w hi hn hGT hT hv hI hz hgo hb
  obtain ⟨b, ob, p, fa, fn, fc, na, nn, nc, ea, en, ec, hsa, hsn, hp⟩ := hlies.part hi
  subst hsa
  have hgp := hgood.2.2 i p hp.at_
  have hsm := hlies.small p (List.mem_of_getElem? hp.at_)
  rw [partAt_of hp.at_] at hgo ⊢
  have ep := enter
  have hp0 : ∀ (j : Nat) (u : Value), w0.cell? ⟨b, ob + i * 9 + j, none⟩ = some u → w.cell? ⟨b, ob + i * 9 + j, none⟩ = some u := fun j u h => (hb.cell (p := ⟨b, _, none⟩) hp.blk).trans h
  have e0 : w.cell? ⟨b, ob + i * 9, none⟩ = _ := hp0 0 _ hp.c0
  have e1 := hp0 1 _ hp.c1
  have e2 := hp0 2 _ hp.c2
  have e3 := hp0 3 _ hp.c3
  have e4 := hp0 4 _ hp.c4
  have e5 := hp0 5 _ hp.c5
  have e6 := hp0 6 _ hp.c6
  have e7 := hp0 7 _ hp.c7
  have e8 := hp0 8 _ hp.c8
  have q1 : (0 : Int) ≤ (i : Int) := by omega
  have q2 : (i : Int) < (sn : Int) := by omega
  obtain ⟨w2, hw2⟩ : ∃ w2, w2 = w.alloc (.cells #[.int .i64 p.kind, .slice fa fn fc, .slice na nn nc, .bool p.extra, .int .i64 p.items, .int .i64 p.least, .int .i64 p.most, .slice ea en ec, .string p.deflt] 73) := ⟨_, rfl⟩
  obtain ⟨g9, hg9⟩ : ∃ gp, gp = w.heap.size := ⟨_, rfl⟩
  have hb2 : Below w.heap.size w w2 := by rw [hw2]; exact (Below.refl _ w).alloc (Nat.le_refl _) _
  have hbox2 : w2.heap[g9]? = some (.cells #[.int .i64 p.kind, .slice fa fn fc, .slice na nn nc, .bool p.extra, .int .i64 p.items, .int .i64 p.least, .int .i64 p.most, .slice ea en ec, .string p.deflt] 73 (0, 0)) := by rw [hw2, hg9]; exact heap_alloc_new w _
  have n9 : g9 ∉ T := fun h => by have := hT g9 h; omega
  have N9 := Lib.hid n9
  have V2 := Lib.hid (hv.below hb2)
  have I2 := Lib.hid (k3.below c w w2 hI hb2)
  have B2 := Lib.hid (hb.trans (hb2.mono hb.size))
  have B02 := Lib.hid hb2
  have BX := Lib.hid hbox2
  have h9s : g9 < w2.heap.size := blk_lt hbox2
  have HT := Lib.hid hT
  have HGT := Lib.hid hGT
  have HP := Lib.hid hp
  have HGp := Lib.hid hgp
  have Hsm := Lib.hid hsm
  have HIh := Lib.hid ih
  have HMk := Lib.hid mk1
  have HK3 := Lib.hid k3
  have Hn := Lib.hid hn
  have Hz := Lib.hid hz
  have HLies := Lib.hid hlies
  obtain ⟨RES, hRES⟩ : ∃ r, thruC S mk (n + 1) p x c = r := ⟨_, rfl⟩
  rw [hRES] at hgo ⊢
  have HRES := Lib.hid hRES
  have HGo := Lib.hid hgo
  clear hRES hi hn hGT hT hv hI hz hgo hb hgood hlies k3 mk1 ih hp hgp hsm hp0 hb2 hbox2 hsn n9 enter
  go_enter Tryz.func39, Tryz.ntmps39
  go_upto_region 2 with fail
  rw [← hw2]
  rw [← hg9]
  clear hw2 hg9 e0 e1 e2 e3 e4 e5 e6 e7 e8 q1 q2
  have c8 := fun i => cell_block BX.out i
  obtain ⟨KX, hKX⟩ : ∃ k, JP.kind x = k := ⟨_, rfl⟩
  have HKd := Lib.hid (fun (w' : World) (hb' : Below w2.heap.size w2 w') => kind_any ((V2.out.below hb').fresh (T' := []) (fun b hb => by cases hb)))
  rw [hKX] at HKd
  have HKX := Lib.hid hKX
  clear hKX
  refine wp_region_hold 4 (fun w' => Below w2.heap.size w2 w') (by kernel_rfl) (by kernel_rfl) ?_ ?_
  · exact (Below.refl w2.heap.size w2).drew
  simp only [List.take_succ_cons, List.take_zero, List.drop_succ_cons, List.drop_zero]
  (first | (refine wpHold_pure (v := ?_) (by rfl) (fun w => ?_) ?_; rotate_left; focus (first | (go_simp; done) | (go_simp; with_reducible rfl))) | (refine wpHold_skip ?_ ?_; focus (go_simp; done)) | (refine wpHold_pure' (v := ?_) ?_ (fun w => ?_) ?_; rotate_left; focus (go_simp; done); focus (first | (go_simp; done) | (go_simp; with_reducible rfl)))); try simp only [Act.put, List.setIfInBounds_toArray, List.set_cons_zero, List.set_cons_succ]
  refine wpHold_call (v := .int .i64 KX) (f := 35) (args := #[v]) (by rfl) (fun w' => ?_) (fun w' hI => ?_) ?_
  · go_simp
    done
  · exact (HKd.out w' hI).mono fun e w'' ⟨h1, h2⟩ => ⟨h1, by rw [h2]; exact hI⟩
  try simp only [Act.put, List.setIfInBounds_toArray, List.set_cons_zero, List.set_cons_succ]
  (first | (refine wpHold_pure (v := ?_) (by rfl) (fun w => ?_) ?_; rotate_left; focus (first | (go_simp; done) | (go_simp; with_reducible rfl))) | (refine wpHold_skip ?_ ?_; focus (go_simp; done)) | (refine wpHold_pure' (v := ?_) ?_ (fun w => ?_) ?_; rotate_left; focus (go_simp; done); focus (first | (go_simp; done) | (go_simp; with_reducible rfl)))); try simp only [Act.put, List.setIfInBounds_toArray, List.set_cons_zero, List.set_cons_succ]
  refine wpHold_read (v := .int .i64 p.kind) (by rfl) (fun w' hI => ?_) ?_
  · have d8 := fun i => (hI.cell (p := ⟨g9, i, none⟩) h9s).trans (c8 i)
    go_simp
    done
  try simp only [Act.put, List.setIfInBounds_toArray, List.set_cons_zero, List.set_cons_succ]
  refine wpHold_nil ?_
  intro w3 hb3
  have V3 := Lib.hid (V2.out.below hb3)
  have I3 := Lib.hid (HK3.out.below c w2 w3 I2.out hb3)
  have B3 := Lib.hid (B2.out.trans (hb3.mono B2.out.size))
  have B03 := Lib.hid (B02.out.trans (hb3.mono B02.out.size))
  have BX3 := Lib.hid (below_block hb3 BX.out)
  have HT3 : Hid (∀ b ∈ T, b < w3.heap.size) := Lib.hid (fun b hb => by have h1 := HT.out b hb; have h2 := B02.out.size; have h3 := hb3.size; omega)
  clear hb3 V2 I2 B2 BX c8 HKd h9s B02
  have Hret : Hid (RES = (x, c) → MadeV w0 G T I RES.1 RES.2 w (.returned v) w3) := Lib.hid (fun h => ⟨v, m, rfl, by rw [h]; exact V3.out, by rw [h]; exact I3.out, KeepT.of B03.out, B3.out⟩)
  by_cases hk : KX = p.kind
  case neg =>
    have qk : (KX != p.kind) = true := by rw [bne_iff_ne]; exact hk
    have HM := Lib.hid (Hret.out (by rw [← HRES.out, thruC, if_pos (by rw [HKX.out]; exact hk)]))
    clear hk
    go_wp2_with fail
    go_ret
    exact HM.out
  case pos =>
    have qk : (KX != p.kind) = false := by rw [hk]; simp
    have hkx : JP.kind x = p.kind := HKX.out.trans hk
    have Hkx := Lib.hid hkx
    have Hbody : Hid (RES = bodyC S mk (thruC S mk n) p x c) := Lib.hid (by rw [← HRES.out, thruC, if_neg (fun h => h hkx)])
    clear hk hkx HRES
    cases m with
    | zero => exact absurd V3.out (by intro h; cases h)
    | succ m =>
    cases x with
    | nul =>
      obtain rfl : v = .nilIface := V3.out
      obtain ⟨g1, g2, g3, g4, g5⟩ := as_nil
      have HM := Lib.hid (Hret.out Hbody.out)
      go_wp2_with fail
      go_ret
      exact HM.out
    | bool b9 =>
      obtain rfl : v = .iface 4 (.bool b9) := V3.out
      obtain ⟨g1, g2, g3, g4, g5⟩ := as_bool (.bool b9)
      have HM := Lib.hid (Hret.out Hbody.out)
      go_wp2_with fail
      go_ret
      exact HM.out
    | num k9 =>
      obtain ⟨rfl, _, _⟩ := V3.out
      obtain ⟨g1, g2, g3, g4, g5⟩ := as_int64 (.int .i64 k9)
      have HM := Lib.hid (Hret.out Hbody.out)
      go_wp2_with fail
      go_ret
      exact HM.out
    | str s9 =>
      obtain rfl : v = .iface 9 (.string (mkB s9)) := V3.out
      obtain ⟨g1, g2, g3, g4, g5⟩ := as_string (.string (mkB s9))
      have HM := Lib.hid (Hret.out Hbody.out)
      go_wp2_with fail
      go_ret
      exact HM.out
    | list l =>
      as_aux_lemma =>
      clear Hret
      obtain ⟨u, rfl, hrow, _⟩ := V3.out
      obtain ⟨au, cu, rfl, _, _⟩ := hrow.len
      obtain ⟨ln, hln⟩ : ∃ m, l.length = m := ⟨_, rfl⟩
      obtain ⟨g1, g2, g3, g4, g5⟩ := as_list (.slice au l.length cu)
      obtain ⟨xs0, x1, x2, x3⟩ := hrow.raw (one_jv m T)
      have hxs : ValsJ m T w3 xs0 l := ⟨x1, fun t v x h1 h2 => by obtain ⟨v', e, h⟩ := x3 t v x h1 h2; cases e; exact h⟩
      have hsize : JP.size (.list l) = 1 + JP.sizeL l := by rw [JP.size]
      have hlong := sizeL_long l
      have hlnb : ln ≤ 1000000 := by have := Hz.out; omega
      obtain ⟨hit1, hit2⟩ := HGp.out.items (by have := Hkx.out; exact this.symm)
      obtain ⟨ki, hki⟩ : ∃ ki : Nat, p.items = (ki : Int) := ⟨p.items.toNat, by omega⟩
      rw [hki] at hit1 hit2
      have hkl : ki < S.length := by omega
      have hkr : S.length - ki ≤ n := by have := Hn.out; omega
      have Hkl := Lib.hid hkl
      have Hkr := Lib.hid hkr
      have Hki := Lib.hid hki
      have Hln := Lib.hid hln
      obtain ⟨F, hF⟩ : ∃ F, F = thruC S mk n (partAt S (ki : Int)) := ⟨_, rfl⟩
      have HF := Lib.hid hF
      have Hb2 : Hid (RES = (.list (mapC F l c).1, (mapC F l c).2)) := Lib.hid (by rw [Hbody.out, hF, ← hki]; rfl)
      have hdn : ∀ x c, Good (F x c).2 → Good c := fun x c h => by rw [hF] at h; exact thruC_down HK3.out.down _ _ _ _ h
      have hszF : ∀ x c, JP.size (F x c).1 + pot (F x c).2 ≤ JP.size x + pot c := fun x c => by rw [hF]; exact thruC_size HK3.out.size _ _ _ _
      have HgoL : Hid (∀ j, Good (mapC F (l.take j) c).2) := Lib.hid (fun j => mapC_downTake hdn l j c (by have := HGo.out; rw [Hb2.out] at this; exact this))
      have HszL := Lib.hid (fun j => mapC_sizeL (pot := pot) hszF (l.take j) c)
      have HSz : Hid (JP.sizeL l + pot c ≤ 999999) := Lib.hid (by have := Hz.out; show _ ≤ _; omega)
      have HCl := Lib.hid (cloneVal_any (.slice au l.length cu) xs0 w3 x2 (by rw [x1]; omega))
      have HX := Lib.hid hxs
      rw [hln] at HCl g1 g2 g3 g4 g5 ⊢
      clear hrow x1 x2 x3 hxs hsize hlong hit1 hit2 hki hkl hkr hln hF hdn hszF Hbody HGo Hkx
      go_wp2_with fail
      refine HCl.out.mono ?_
      rintro E w4 ⟨v9, rfl, hown, hbc⟩
      have hlx : xs0.length = ln := HX.out.1.trans Hln.out
      obtain ⟨Tn, hT1, hT2⟩ : ∃ Tn : List Nat, (∀ b ∈ Tn, w3.heap.size ≤ b ∧ b < w4.heap.size) ∧ ∀ q, v9.ownBlock = some q → q ∈ Tn := by
        cases hq : v9.ownBlock with
        | none => exact ⟨[], (fun b hb => (by cases hb)), (fun q h => (by cases h))⟩
        | some q => exact ⟨[q], (fun b hb => (by rw [List.mem_singleton.1 hb]; exact ⟨(hown.at hq).1, (hown.at hq).2.1⟩)), (fun q' h => (by cases h; exact List.mem_singleton.2 rfl))⟩
      obtain ⟨a9, c9, e9, _, _⟩ := hown.row.len
      rw [hlx] at e9
      subst e9
      have HTn := Lib.hid hT1
      have HTo := Lib.hid hT2
      have HO0 := Lib.hid hown
      have HX0 : Hid (ValsJ m (Tn ++ T) w4 xs0 l) := Lib.hid ⟨HX.out.1, fun t v x h1 h2 => ((HX.out.2 t v x h1 h2).fresh (T' := Tn ++ T) (fun b hb => (List.mem_append.1 hb).elim (fun h => .inr (hT1 b h).1) .inl)).below hbc⟩
      have HI0 := Lib.hid (HK3.out.below c w3 w4 I3.out hbc)
      have HB4 := Lib.hid (B3.out.trans (hbc.mono B3.out.size))
      have HK4 : Hid (KeepT G w3 w4) := Lib.hid (KeepT.of hbc)
      have HTl : Hid (∀ b ∈ Tn ++ T, b < w4.heap.size) := Lib.hid (fun b hb => (List.mem_append.1 hb).elim (fun h => (hT1 b h).2) (fun h => by have := HT3.out b h; have := hbc.size; omega))
      clear hown hbc hT1 hT2 HCl HX hlx V3 I3
      go_wp2_with fail
      go_loopg [40] ln (fun k u40 wr => ∃ (j : Nat) (cc : σ) (xs : List Value) (mm : Nat), j + k = ln ∧ u40 = .int .i64 (j : Int) ∧ Hid (cc = (mapC F (l.take j) c).2) ∧ Hid (OwnAt RVal 1 wr w3.heap.size 53 (.slice a9 ln c9) xs) ∧ Hid (ValsJ mm (Tn ++ T) wr xs ((mapC F (l.take j) c).1 ++ l.drop j)) ∧ Hid (I cc wr) ∧ Hid (KeepT G w3 wr) ∧ Hid (Below w0.heap.size w0 wr) ∧ Hid (w4.heap.size ≤ wr.heap.size))
      case atStart => exact ⟨0, c, xs0, m, by omega, rfl, Lib.hid rfl, HO0, Lib.hid (by simpa [mapC] using HX0.out), HI0, HK4, HB4, Lib.hid (Nat.le_refl _)⟩
      case round =>
        clear HO0 HX0 HI0 HK4 HB4
        obtain ⟨j, cc, xs, mm, hjk, rfl, Hcc, HO, HX, HI, HK, HB, HZ⟩ := hrel
        cases gk with
        | zero =>
          have hjl : ln = j := by omega
          subst hjl
          have q9 : ¬ (ln : Int) < (ln : Int) := by omega
          have htk : l.take ln = l := List.take_of_length_le (by rw [Hln.out]; exact Nat.le_refl _)
          have hdk : l.drop ln = [] := List.drop_of_length_le (by rw [Hln.out]; exact Nat.le_refl _)
          have hX := HX.out
          rw [htk, hdk, List.append_nil] at hX
          have hcc := Hcc.out
          rw [htk] at hcc
          have HM : Hid (MadeV w0 G T I RES.1 RES.2 w (.returned (.iface 49 (.slice a9 ln c9))) wr) := Lib.hid (by
            rw [Hb2.out]
            refine ⟨_, mm + 1, rfl, ⟨.slice a9 ln c9, rfl, ?_, fun _ b hb hm => ?_⟩, by rw [← hcc]; exact HI.out, (KeepT.of B03.out).trans HK.out, HB.out⟩
            · exact HO.out.row.ofRaw hX.1 fun t u y h1 h2 => ⟨u, rfl, (hX.2 t u y h1 h2).fresh (fun b hb => .inl (List.mem_append_right _ hb))⟩
            · have h1 := (HTn.out b (HTo.out b hb)).1
              have h2 := HT3.out b hm
              omega)
          clear htk hdk hX hcc HO HX HI HK HB
          go_wp2_with fail
          go_ret
          exact HM.out
        | succ k =>
          have hjl : j < ln := by omega
          obtain ⟨y, hy⟩ : ∃ y, l[j]? = some y := ⟨l[j]'(by rw [Hln.out]; exact hjl), List.getElem?_eq_getElem _⟩
          have hA : (mapC F (l.take j) c).1.length = j := by rw [mapC_len, List.length_take, Hln.out]; omega
          have hd : l.drop j = y :: l.drop (j + 1) := by
            obtain ⟨hj, hy2⟩ := List.getElem?_eq_some_iff.1 hy
            rw [List.drop_eq_getElem_cons hj, hy2]
          have hxl : xs.length = ln := by
            rw [HX.out.1, List.length_append, hA, List.length_drop, Hln.out]; omega
          obtain ⟨vy, hvy⟩ : ∃ vy, xs[j]? = some vy := ⟨xs[j]'(by rw [hxl]; exact hjl), List.getElem?_eq_getElem _⟩
          have hjy : JvAt mm (Tn ++ T) wr vy y := HX.out.2 j vy y hvy (by rw [List.getElem?_append_right (by omega), hA, Nat.sub_self, hd]; rfl)
          rcases HO.out.form with ⟨_, h0⟩ | ⟨gl, cl, hv9, hBl, hgl, _, _⟩
          · rw [h0] at hxl; simp at hxl; omega
          injection hv9 with u1 u2 u3
          subst u1
          obtain ⟨bk, ok, ck, hv1, _, _, hbs1, hcell1⟩ := HO.out.row.form (by rw [hxl]; omega) (by omega)
          injection hv1 with u4 u5 u6
          injection u4 with u4
          injection u4 with u7 u8 u9
          subst u7
          subst u8
          clear u2 u3 u5 u6 u9
          obtain ⟨ds1, _, hcc1, hR1⟩ := hcell1 j vy hvy
          obtain ⟨hR1, _⟩ := hR1
          subst hR1
          have e0 : wr.cell? ⟨gl, j, none⟩ = some vy := by simpa using hcc1 0 _ rfl
          have q1 : (0 : Int) ≤ (j : Int) := by omega
          have q2 : (j : Int) < (ln : Int) := by omega
          have h9w : w3.heap[g9]? = some (.cells #[.int .i64 p.kind, .slice fa fn fc, .slice na nn nc, .bool p.extra, .int .i64 p.items, .int .i64 p.least, .int .i64 p.most, .slice ea en ec, .string p.deflt] 73 (0, 0)) := BX3.out
          have n9G : g9 ∉ G := fun h => N9.out (HGT.out g9 h)
          have bx := (HK.out.block g9 (blk_lt h9w) n9G).trans h9w
          have c4 : wr.cell? ⟨g9, 4, none⟩ = some (.int .i64 (ki : Int)) := by have := cell_block bx 4; rw [Hki.out] at this; exact this
          have hgG : gl ∉ G := fun h => by have h1 := HT3.out gl (HGT.out gl h); omega
          have hmt := mapC_take (f := F) hy c
          rw [← Hcc.out] at hmt
          have hgoj := HgoL.out (j + 1)
          rw [hmt] at hgoj
          have HIy := HIh.out ki mm (Tn ++ T) vy y cc wr Hkl.out Hkr.out (fun g hg => List.mem_append_right _ (HGT.out g hg)) (fun b hb => Nat.lt_of_lt_of_le (HTl.out b hb) HZ.out) hjy HI.out (by
            have h1 := HszL.out j
            rw [← Hcc.out] at h1
            have h2 := sizeL_here hy
            have h3 := HSz.out
            omega) (by rw [← HF.out]; exact hgoj) HB.out
          rw [← HF.out] at HIy
          have HIy := Lib.hid HIy
          have HgG := Lib.hid hgG
          have Hmt := Lib.hid hmt
          have HA := Lib.hid hA
          have Hd := Lib.hid hd
          have Hxl := Lib.hid hxl
          have hgTn : gl ∈ Tn ++ T := List.mem_append_left _ (HTo.out gl rfl)
          have HgT := Lib.hid hgTn
          clear hcell1 hcc1 hy hbs1 hvy hjy h9w n9G bx hgG hmt hgoj hA hd hxl hgTn
          go_wp2_with fail
          refine HIy.out.mono ?_
          rintro E w5 ⟨u, m5, rfl, hu, hI5, hk5, hb5⟩
          obtain ⟨C5, hC5⟩ : ∃ c, (F y cc).2 = c := ⟨_, rfl⟩
          rw [hC5] at hI5
          have hv1 : u.oneCell' = true := one_jv m5 (Tn ++ T) w5 [u] _ ⟨u, rfl, hu⟩ u (List.mem_singleton.2 rfl)
          have hkT : KeepT (Tn ++ T) wr w5 := hk5.mono (fun b hb => .inl (List.mem_append_right _ (HGT.out b hb)))
          have hO5 := own_keepT flat_val HO.out hk5 (fun q hq => by cases hq; exact HgG.out)
          obtain ⟨w6, hst, hO6, t6⟩ := store_valS hO5 (i := j) (by rw [Hxl.out]; exact hjl) hv1
          have hkt := KeepT.touch t6 HgT.out
          have HX6 : Hid (ValsJ (max mm m5) (Tn ++ T) w6 (xs.set j u) ((mapC F (l.take (j + 1)) c).1 ++ l.drop (j + 1))) := Lib.hid (by
            have h1 := (((HX.out.keepT hkT).keepT hkt).ups (Nat.le_max_left mm m5)).set (j := j) ((hu.keepT hkt).ups (Nat.le_max_right mm m5))
            rw [Hd.out] at h1
            have h2 := list_set (A := (mapC F (l.take j) c).1) (B := l.drop (j + 1)) (y := y) (z := (F y cc).1)
            rw [HA.out] at h2
            rw [h2] at h1
            rw [Hmt.out, List.append_assoc]
            exact h1)
          have HI6 := Lib.hid (HK3.out.touch C5 gl w5 w6 hI5 t6 HgG.out (by have h1 := B3.out.size; omega))
          have HK6 : Hid (KeepT G w3 w6) := Lib.hid (by
            have h1 : KeepT (gl :: G) w3 w6 := ((HK.out.trans hk5).mono (fun b hb => .inl (List.mem_cons_of_mem _ hb))).trans (KeepT.touch t6 (List.mem_cons_self ..))
            exact h1.mono fun b hb => by
              rcases List.mem_cons.1 hb with rfl | h
              · exact .inr hBl
              · exact .inl h)
          have HB6 := Lib.hid (t6.below hb5 (by have h1 := B3.out.size; omega))
          have HZ6 : Hid (w4.heap.size ≤ w6.heap.size) := Lib.hid (by have h1 := HZ.out; have h2 := hk5.size; have h3 := t6.size; show _ ≤ _; omega)
          have Hcc6 : Hid (C5 = (mapC F (l.take (j + 1)) c).2) := Lib.hid (by rw [Hmt.out, hC5])
          have HO6 := Lib.hid hO6
          have Hst := Lib.hid hst
          clear hu hI5 hk5 hb5 hC5 hkT hO5 hst hO6 t6 hkt HIy HO HX HI HK HB HZ Hcc
          go_wp2_with fail
          rw [Hst.out]
          go_wp2_with fail
          go_roundg k
          case measure => omega
          case rel => exact ⟨j + 1, C5, xs.set j u, max mm m5, by omega, by go_num, Hcc6, HO6, HX6, HI6, HK6, HB6, HZ6⟩
    | obj l =>
      as_aux_lemma =>
      clear Hret
      obtain ⟨q, rfl, hob⟩ := V3.out
      obtain ⟨g1, g2, g3, g4, g5⟩ := as_obj (.pointer (some ⟨q, 0, none⟩))
      have hsize : JP.size (.obj l) = 1 + JP.sizeF l := by rw [JP.size]
      have hz1 : JP.sizeF l + pot c ≤ 999999 := by have := Hz.out; omega
      obtain ⟨F, hF⟩ : ∃ F, F = kidC p (fun k => thruC S mk n (partAt S k)) := ⟨_, rfl⟩
      obtain ⟨l1, hl1⟩ : ∃ l1, (mk p l c).1 = l1 := ⟨_, rfl⟩
      obtain ⟨c1, hc1⟩ : ∃ c1, (mk p l c).2 = c1 := ⟨_, rfl⟩
      have Hb2 : Hid (RES = (.obj (mapC F l1 c1).1, (mapC F l1 c1).2)) := Lib.hid (by rw [Hbody.out, hF, ← hl1, ← hc1]; rfl)
      have hdn : ∀ x c, Good (F x c).2 → Good c := fun x c h => by rw [hF] at h; exact kidC_down (G := Good) (fun k x c h => thruC_down (G := Good) HK3.out.down n (partAt S k) x c h) x c h
      have hszF : ∀ x c, JP.size (F x c).1.2 + pot (F x c).2 ≤ JP.size x.2 + pot c := fun x c => by rw [hF]; exact kidC_size (fun k x c => thruC_size HK3.out.size _ _ _ _) x c
      have hgoR : Good (mapC F l1 c1).2 := by have := HGo.out; rw [Hb2.out] at this; exact this
      have HgoL : Hid (∀ j, Good (mapC F (l1.take j) c1).2) := Lib.hid (fun j => mapC_downTake hdn l1 j c1 hgoR)
      have HszL := Lib.hid (fun j => mapC_sizeF (pot := pot) hszF (l1.take j) c1)
      have hs1 := HK3.out.size p l c
      rw [hl1, hc1] at hs1
      have HSz : Hid (JP.sizeF l1 + pot c1 ≤ 999999) := Lib.hid (by show _ ≤ _; omega)
      have HM1 := HMk.out i p b (ob + i * 9) fa fn fc na nn nc ea en ec T m q l c w3 HP.out HGT.out HT3.out hob I3.out (by omega) (by rw [hc1]; exact mapC_down hdn l1 c1 hgoR) B3.out
      rw [hl1, hc1] at HM1
      have HM1 := Lib.hid HM1
      have HFk : Hid (∀ y c k, fieldL p.fields (mkB y.1) = some k → F y c = ((y.1, (thruC S mk n (partAt S k) y.2 c).1), (thruC S mk n (partAt S k) y.2 c).2)) := Lib.hid (fun y c k h => by rw [hF]; unfold kidC; rw [h])
      have HFn : Hid (∀ y c, fieldL p.fields (mkB y.1) = none → F y c = (y, c)) := Lib.hid (fun y c h => by rw [hF]; unfold kidC; rw [h])
      have HFm : Hid (∀ r c, (mapC F r c).1.map (·.1) = r.map (·.1)) := Lib.hid (fun r c => by rw [hF]; exact mapC_names p _ r c)
      have Hfl8 := Lib.hid Hsm.out.1
      have bx := BX3.out
      clear hob hsize hz1 hF hl1 hc1 hdn hszF hgoR hs1 Hbody HGo Hkx I3 V3
      go_wp2_with (refine wpList_load_row (by rfl) _ _ (by rfl) g9 (by rfl) _ _ _ _ bx Tryz.underlying73 rfl (by exact Tryz.sizePart) ?_)
      refine HM1.out.mono ?_
      rintro E w4 ⟨q1, m1, rfl, ho1, hI1, hk1, hb1⟩
      have ho1' := ho1
      obtain ⟨_, hsrt, vn, vv, cn, cv, hrn, hon, hrv, _⟩ := ho1'
      obtain ⟨an, cn2, hne, _, _⟩ := hrn.len
      obtain ⟨ln, hln⟩ : ∃ m, l1.length = m := ⟨_, rfl⟩
      rw [List.length_map, hln] at hne
      subst hne
      have hlong := JP.sizeF_long l1
      have hlnb : ln ≤ 1000000 := by have := HSz.out; omega
      have HNm := Lib.hid (names_any q1 _ w4 cn)
      have HRn := Lib.hid hrn
      have Hon := Lib.hid hon
      have Hln := Lib.hid hln
      have Hsrt := Lib.hid hsrt
      have HO0 : Hid (ObR (JvR m1 T) T w4 q1 ((mapC F (l1.take 0) c1).1 ++ l1.drop 0)) := Lib.hid (by simpa [mapC] using ho1)
      have HI0 := Lib.hid hI1
      have HK34 := Lib.hid hk1
      have HB4 := Lib.hid hb1
      have n9G : g9 ∉ G := fun h => N9.out (HGT.out g9 h)
      have BX4 := Lib.hid ((hk1.block g9 (blk_lt BX3.out) n9G).trans BX3.out)
      have N9G := Lib.hid n9G
      have HT4 : Hid (∀ b ∈ T, b < w4.heap.size) := Lib.hid (fun b hb => Nat.lt_of_lt_of_le (HT3.out b hb) hk1.size)
      clear ho1 hI1 hk1 hb1 hsrt cn cv hrn hon hrv hln hlong HM1 bx n9G
      go_wp2_with fail
      refine HNm.out.mono ?_
      rintro E wz ⟨rfl, rfl⟩
      clear HNm
      go_wp2_with fail
      go_loopg [15, 67] ln (fun k u15 u67 wr => ∃ (j q' mm : Nat) (cc : σ), j + k = ln ∧ u15 = .pointer (some ⟨q', 0, none⟩) ∧ u67 = .int .i64 (j : Int) ∧ Hid (cc = (mapC F (l1.take j) c1).2) ∧ Hid (ObR (JvR mm T) T wr q' ((mapC F (l1.take j) c1).1 ++ l1.drop j)) ∧ Hid (I cc wr) ∧ Hid (KeepT G w4 wr) ∧ Hid (Below w0.heap.size w0 wr))
      case atStart => exact ⟨0, q1, m1, c1, by omega, rfl, rfl, Lib.hid rfl, HO0, HI0, Lib.hid (KeepT.refl _ _), HB4⟩
      case round =>
        clear HO0 HI0
        obtain ⟨j, q', mm, cc, hjk, rfl, rfl, Hcc, HO, HI, HK, HB⟩ := hrel
        cases gk with
        | zero =>
          have hjl : ln = j := by omega
          subst hjl
          have q9 : ¬ (ln : Int) < (ln : Int) := by omega
          have htk : l1.take ln = l1 := List.take_of_length_le (by rw [Hln.out]; exact Nat.le_refl _)
          have hdk : l1.drop ln = [] := List.drop_of_length_le (by rw [Hln.out]; exact Nat.le_refl _)
          have hO := HO.out
          rw [htk, hdk, List.append_nil] at hO
          have hcc := Hcc.out
          rw [htk] at hcc
          have HM : Hid (MadeV w0 G T I RES.1 RES.2 w (.returned (.iface 74 (.pointer (some ⟨q', 0, none⟩)))) wr) := Lib.hid (by
            rw [Hb2.out]
            exact ⟨_, mm + 1, rfl, ⟨q', rfl, hO⟩, by rw [← hcc]; exact HI.out, ((KeepT.of B03.out).trans HK34.out).trans HK.out, HB.out⟩)
          clear htk hdk hO hcc HO HI HK HB
          go_wp2_with fail
          go_ret
          exact HM.out
        | succ k =>
          have hjl : j < ln := by omega
          obtain ⟨y, hy⟩ : ∃ y, l1[j]? = some y := ⟨l1[j]'(by rw [Hln.out]; exact hjl), List.getElem?_eq_getElem _⟩
          have hA : (mapC F (l1.take j) c1).1.length = j := by rw [mapC_len, List.length_take, Hln.out]; omega
          have hd : l1.drop j = y :: l1.drop (j + 1) := by
            obtain ⟨hj, hy2⟩ := List.getElem?_eq_some_iff.1 hy
            rw [List.drop_eq_getElem_cons hj, hy2]
          have hEl : ((mapC F (l1.take j) c1).1 ++ l1.drop j).length = ln := by rw [List.length_append, hA, List.length_drop, Hln.out]; omega
          obtain ⟨bk, ok, ck, hv1, _, _, hbs1, hcell1⟩ := HRn.out.form (by rw [List.length_map, Hln.out]; omega) (by omega)
          injection hv1 with u1 u2 u3
          subst u1
          clear u2 u3
          obtain ⟨ds1, _, hcc1, hR1⟩ := hcell1 j (mkB y.1) (by rw [List.getElem?_map, hy]; rfl)
          obtain rfl : ds1 = [.string (mkB y.1)] := hR1
          have hbkT : bk ∉ T := Hon.out (fun e => by have := Hln.out; rw [e] at this; simp at this; omega) bk rfl
          have e0 : wr.cell? ⟨bk, ok + j, none⟩ = some (.string (mkB y.1)) := HK.out.cell (by simpa using hcc1 0 _ rfl) (fun h => hbkT (HGT.out bk h))
          have q1 : (0 : Int) ≤ (j : Int) := by omega
          have q2 : (j : Int) < (ln : Int) := by omega
          have bx := (HK.out.block g9 (blk_lt BX4.out) N9G.out).trans BX4.out
          have HFd := Lib.hid (schField_any p.kind fa fn fc na nn nc p.extra p.items p.least p.most ea en ec p.deflt p.fields (mkB y.1) wr (HP.out.fields.keep stays_field (keeps_below HB.out)) Hfl8.out)
          have hmt := mapC_take (f := F) hy c1
          rw [← Hcc.out] at hmt
          have hgoj := HgoL.out (j + 1)
          rw [hmt] at hgoj
          obtain ⟨O, hO⟩ : ∃ O, fieldL p.fields (mkB y.1) = O := ⟨_, rfl⟩
          rw [hO] at HFd
          have HOe := Lib.hid hO
          have Hmt := Lib.hid hmt
          have HA := Lib.hid hA
          have Hd := Lib.hid hd
          have HEl := Lib.hid hEl
          have Hgoj := Lib.hid hgoj
          have Hrest := Lib.hid (sizeF_rest hy)
          have HTr : Hid (∀ b ∈ T, b < wr.heap.size) := Lib.hid (fun b hb => Nat.lt_of_lt_of_le (HT4.out b hb) HK.out.size)
          clear hcell1 hcc1 hy hbs1 hbkT hmt hgoj hO hA hd hEl
          cases O with
          | none =>
            go_wp2_with (refine wpList_load_row (by rfl) _ _ (by rfl) g9 (by rfl) _ _ _ _ bx Tryz.underlying73 rfl (by exact Tryz.sizePart) ?_)
            refine HFd.out.mono ?_
            rintro E w5 ⟨rfl, hbd⟩
            have hFy := HFn.out y cc HOe.out
            have HO5 : Hid (ObR (JvR mm T) T w5 q' ((mapC F (l1.take (j + 1)) c1).1 ++ l1.drop (j + 1))) := Lib.hid (by
              rw [Hmt.out, hFy, List.append_assoc]
              have h1 := HO.out.keepJ (KeepT.of hbd)
              rw [Hd.out] at h1
              exact h1)
            have Hcc5 : Hid (cc = (mapC F (l1.take (j + 1)) c1).2) := Lib.hid (by rw [Hmt.out, hFy])
            have HI5 := Lib.hid (HK3.out.below cc wr w5 HI.out hbd)
            have HK5 := Lib.hid (HK.out.trans (KeepT.of hbd))
            have HB5 := Lib.hid (HB.out.trans (hbd.mono HB.out.size))
            clear hbd hFy HFd HO HI HK HB Hcc e0 bx
            go_wp2_with fail
            go_roundg k
            case measure => omega
            case rel => exact ⟨j + 1, q', mm, cc, by omega, rfl, by go_num, Hcc5, HO5, HI5, HK5, HB5⟩
          | some kk =>
            obtain ⟨f0, hf0, hf1⟩ := fieldL_part HOe.out
            obtain ⟨hk1, hk2⟩ := HGp.out.parts f0 hf0
            rw [hf1] at hk1 hk2
            obtain ⟨kn, hkn⟩ : ∃ kn : Nat, kk = (kn : Int) := ⟨kk.toNat, by omega⟩
            subst hkn
            have hkl : kn < S.length := by omega
            have hkr : S.length - kn ≤ n := by have := Hn.out; omega
            have Hkl := Lib.hid hkl
            have Hkr := Lib.hid hkr
            clear hf0 hf1 hk1 hk2 hkl hkr
            have HFy := Lib.hid (HFk.out y cc (kn : Int) HOe.out)
            go_wp2_with (refine wpList_load_row (by rfl) _ _ (by rfl) g9 (by rfl) _ _ _ _ bx Tryz.underlying73 rfl (by exact Tryz.sizePart) ?_)
            refine HFd.out.mono ?_
            rintro E w5 ⟨rfl, hbd⟩
            have HO5 := Lib.hid (HO.out.keepJ (KeepT.of hbd))
            have HI5 := Lib.hid (HK3.out.below cc wr w5 HI.out hbd)
            have HK5 := Lib.hid (HK.out.trans (KeepT.of hbd))
            have HB5 := Lib.hid (HB.out.trans (hbd.mono HB.out.size))
            have hs5 : wr.heap.size ≤ w5.heap.size := hbd.size
            have hget : JP.get y.1 ((mapC F (l1.take j) c1).1 ++ l1.drop j) = some y.2 := JP.get_memS HO5.out.2.1 (List.mem_append_right _ (by rw [Hd.out]; exact List.mem_cons_self ..))
            have HG := Lib.hid (get_any (x := y.1) HO5.out (by rw [HEl.out]; omega))
            rw [hget] at HG
            clear hbd hget HFd HO HI HK HB e0 bx
            go_wp2_with fail
            refine HG.out.mono ?_
            rintro E w6 ⟨vg, rfl, hvg, _, kd, rfl⟩
            have hbd := below_drewG w5.heap.size w5 kd
            obtain ⟨w7, hw7⟩ : ∃ u, w5.drewN kd = u := ⟨_, rfl⟩
            rw [hw7] at hbd ⊢
            have hvy := (hvg y.2 rfl).below hbd
            have HO7 := Lib.hid (HO5.out.keepJ (KeepT.of hbd))
            have HK7 := Lib.hid (HK5.out.trans (KeepT.of hbd))
            have HB7 := Lib.hid (HB5.out.trans (hbd.mono HB5.out.size))
            have hI7 := HK3.out.below cc w5 w7 HI5.out hbd
            have hs7 : wr.heap.size ≤ w7.heap.size := Nat.le_trans hs5 hbd.size
            have hfy := HFy.out
            have HIy := HIh.out kn mm T vg y.2 cc w7 Hkl.out Hkr.out HGT.out (fun b hb => Nat.lt_of_lt_of_le (HTr.out b hb) hs7) hvy hI7 (by
              have h1 := HszL.out j
              rw [← Hcc.out] at h1
              have h2 := Hrest.out
              have h3 := HSz.out
              omega) (by have := Hgoj.out; rw [hfy] at this; exact this) HB7.out
            obtain ⟨Y, hY⟩ : ∃ Y, (thruC S mk n (partAt S (kn : Int)) y.2 cc).1 = Y := ⟨_, rfl⟩
            obtain ⟨C8, hC8⟩ : ∃ Y, (thruC S mk n (partAt S (kn : Int)) y.2 cc).2 = Y := ⟨_, rfl⟩
            rw [hY, hC8] at HIy hfy
            have HIy := Lib.hid HIy
            have HFy2 := Lib.hid hfy
            clear hvg hbd hw7 hvy hI7 hfy hY hC8 HG HO5 HI5 HK5 HB5 HFy hs5 hs7
            go_wp2_with fail
            refine HIy.out.mono ?_
            rintro E w8 ⟨u, m8, rfl, hu, hI8, hk8, hb8⟩
            have hkT : KeepT T w7 w8 := hk8.mono (fun b hb => .inl (HGT.out b hb))
            have hO8 := (HO7.out.keepJ hkT).upsJ (Nat.le_max_left mm m8)
            have hT8 : ∀ b ∈ T, b < w8.heap.size := fun b hb => by
              have h1 := HTr.out b hb
              have h2 := HK7.out.size
              have h3 := HT4.out b hb
              have h4 := hk8.size
              omega
            have HW := with_any (x := y.1) hO8 (hu.ups (Nat.le_max_right mm m8)) hT8 (by rw [HEl.out]; omega)
            have hput : JP.put y.1 Y ((mapC F (l1.take j) c1).1 ++ l1.drop j) = (mapC F (l1.take (j + 1)) c1).1 ++ l1.drop (j + 1) := by
              have hsE := hO8.2.1
              unfold JP.Srt at hsE
              rw [Hd.out, List.pairwise_append] at hsE
              have h1 := put_mid (n := y.1) (x := y.2) (v := Y) (A := (mapC F (l1.take j) c1).1) (B := l1.drop (j + 1)) (fun a ha => hsE.2.2 a ha y (List.mem_cons_self ..))
              rw [Hd.out, Hmt.out, HFy2.out, List.append_assoc]
              exact h1
            rw [hput] at HW
            have HW := Lib.hid HW
            have HI8 := Lib.hid hI8
            have HK8 := Lib.hid (HK7.out.trans hk8)
            have HB8 := Lib.hid hb8
            have Hcc8 : Hid (C8 = (mapC F (l1.take (j + 1)) c1).2) := Lib.hid (by rw [Hmt.out, HFy2.out])
            clear hu hI8 hk8 hb8 hkT hO8 hT8 hput HIy HO7 HK7 HB7 Hcc
            go_wp2_with fail
            refine HW.out.mono ?_
            rintro E w9 ⟨q9, rfl, ho9, hb9⟩
            have HO9 := Lib.hid ho9
            have HI9 := Lib.hid (HK3.out.below C8 w8 w9 HI8.out hb9)
            have HK9 := Lib.hid (HK8.out.trans (KeepT.of hb9))
            have HB9 := Lib.hid (HB8.out.trans (hb9.mono HB8.out.size))
            clear ho9 hb9 HW HI8 HK8 HB8
            go_wp2_with fail
            go_roundg k
            case measure => omega
            case rel => exact ⟨j + 1, q9, max mm m8, C8, by omega, rfl, by go_num, Hcc8, HO9, HI9, HK9, HB9⟩
theorem through_any {σ : Type} {S : List GPart} {sa : Option Addr} {sn sc : Nat} {w0 : World} {G : List Nat} {mk : GPart → Flds → σ → Flds × σ} {I : σ → World → Prop} {pot : σ → Nat} {Good : σ → Prop} {f : FuncId} {caps : Array Value}
    (enter : ∀ (a : Array Value) (w : World), (callFunc f a).run Tryz.prog w = .ok (.enter f a) w) (hgood : GoodS S) (hlies : Lies S (.slice sa sn sc) w0) (k3 : Keeps3 w0 G mk I pot Good) (mk1 : Makes S w0 G mk I pot Good f caps) : ∀ n : Nat, ThruIn S (.slice sa sn sc) w0 G mk I pot Good f caps n
  | 0 => fun i m T v x c w hi hn => absurd hn (by omega)
  | n + 1 => through_step enter hgood hlies k3 mk1 n (through_any enter hgood hlies k3 mk1 n)
end Sch
end Go.Proofs.YtnmhjabihfhobaaGreatDoor
