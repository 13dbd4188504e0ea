/- Texts of ours joined: ThreeInto. -/
import Derived.Deep.LoopGhost
import Derived.Test.YtnmhjabihfhobaaGreatDoorMw7
set_option linter.unusedVariables false
set_option linter.unusedSimpArgs false
/- three.into: its contract. -/
namespace Go.Proofs.YtnmhjabihfhobaaGreatDoor
open Go.RowKit
open JP (JV Bs)

theorem get_g {n : Nat} {T : List Nat} {q : Nat} {d : List (Bs × JV)} {x : Bs} {w : World} (h : ObR (JvR n T) T w q d) (hl : d.length ≤ 1048576) :
    Calls Tryz.prog 49 #[.pointer (some ⟨q, 0, none⟩), .string (mkB x)] w fun e w' => ∃ v, e = .returned (.tuple #[v, .bool (JP.get x d).isSome]) ∧ (∀ y, JP.get x d = some y → JvAt n T w' v y) ∧ (∃ k, JvAt k T w' v (JP.gto x d)) ∧ Below w.heap.size w w' :=
  (get_any h hl).mono fun e w' ⟨v, h1, h2, h3, k, h4⟩ => by
    subst h4
    refine ⟨v, h1, fun y hy => (h2 y hy).keepT (KeepT.drewN w k), ?_, ⟨rfl, rfl, rfl, Nat.le_refl _, fun _ _ => rfl⟩⟩
    cases hg : JP.get x d with
    | none => rw [h3 hg]; exact ⟨1, by unfold JP.gto; rw [hg]; rfl⟩
    | some y => exact ⟨n, by rw [JP.gto_some hg]; exact (h2 y hg).keepT (KeepT.drewN w k)⟩
theorem str_raw3 {w : World} {v : Value} {L : List ByteArray} (h : StrAt w v L) : RowAt RVal 1 w v (L.map .string) := by
  rcases h.row with ⟨h1, rfl⟩ | ⟨a, c, h1, h2, h3, h4⟩
  · exact .inl ⟨h1, rfl⟩
  · refine .inr ⟨a, c, by rw [List.length_map]; exact h1, by rw [List.length_map]; exact h2, h3, fun j x hx => ?_⟩
    rw [List.getElem?_map] at hx
    obtain ⟨y, hy, rfl⟩ := Option.map_eq_some_iff.1 hx
    obtain ⟨cs, g1, g2, g3⟩ := h4 j y hy
    obtain rfl : cs = [.string y] := g3
    exact ⟨_, g1, g2, rfl, rfl⟩
theorem raw_str3 {w : World} {v : Value} {L : List ByteArray} (h : RowAt RVal 1 w v (L.map .string)) : StrAt w v L :=
  RowAt.strs (h.ofRaw (by rw [List.length_map]) fun j u x hu hx => by
    rw [List.getElem?_map, hx] at hu
    obtain rfl := Option.some.inj hu
    rfl)
theorem str_keepT {G : List Nat} {w w' : World} {sv : Value} {L : List ByteArray} (h : StrAt w sv L) (ho : OffT G sv L) (hk : KeepT G w w') : StrAt w' sv L := RowAt.strs (h.row.keepT hk ho (fun _ _ h => h))
/-- T are the blocks that a closure may turn; they get more -/
structure KE (T T' : List Nat) (w w' : World) : Prop where
  keep : KeepT T w w'
  more : ∀ b ∈ T, b ∈ T'
  new : ∀ b ∈ T', b ∈ T ∨ w.heap.size ≤ b
  lt : ∀ b ∈ T', b < w'.heap.size
theorem KE.refl {T : List Nat} {w : World} (h : ∀ b ∈ T, b < w.heap.size) : KE T T w w := ⟨KeepT.refl _ _, fun _ h => h, fun _ h => .inl h, h⟩
theorem KE.grow {T T' : List Nat} {w w' w2 : World} (h : KE T T' w w') (hb : Below w'.heap.size w' w2) : KE T T' w w2 := ⟨h.keep.trans (KeepT.of hb), h.more, h.new, fun b hm => Nat.lt_of_lt_of_le (h.lt b hm) hb.size⟩
theorem KE.before {T T' : List Nat} {w w' w2 : World} (h : KE T T' w' w2) (hb : Below w.heap.size w w') : KE T T' w w2 := ⟨(KeepT.of hb).trans h.keep, h.more, fun b hm => (h.new b hm).imp id (fun h => Nat.le_trans hb.size h), h.lt⟩
theorem KE.trans {T T' T2 : List Nat} {w w' w2 : World} (h : KE T T' w w') (k : KE T' T2 w' w2) : KE T T2 w w2 := by
  refine ⟨⟨k.keep.os.trans h.keep.os, k.keep.tape.trans h.keep.tape, k.keep.output.trans h.keep.output, Nat.le_trans h.keep.size k.keep.size, fun b hb hn => (k.keep.block b (Nat.lt_of_lt_of_le hb h.keep.size) fun hm => ?_).trans (h.keep.block b hb hn)⟩, fun b hm => k.more b (h.more b hm), fun b hm => ?_, k.lt⟩
  · rcases h.new b hm with h1 | h1
    · exact hn h1
    · omega
  rcases k.new b hm with h1 | h1
  · exact h.new b h1
  · exact .inr (Nat.le_trans h.keep.size h1)
theorem JvAt.ke {T T' : List Nat} {w w' : World} {n : Nat} {v : Value} {x : JV} (h : JvAt n T w v x) (k : KE T T' w w') : JvAt n T' w' v x := (h.fresh k.new).keepT (k.keep.mono fun b hb => .inl (k.more b hb))
theorem ObR.keJ {T T' : List Nat} {w w' : World} {n q : Nat} {d : List (Bs × JV)} (h : ObR (JvR n T) T w q d) (k : KE T T' w w') : ObR (JvR n T') T' w' q d := (h.freshJ k.new).keepJ (k.keep.mono fun b hb => .inl (k.more b hb))
/-- what a closure does that is told a way -/
def Sees3 (f : FuncId) (caps : Array Value) (I : List (List Bs) → List Nat → World → Prop) (w0 : World) : Prop :=
  ∀ (d : List (List Bs)) (T : List Nat) (way : List Bs) (sv : Value) (w : World), I d T w → (∀ b ∈ T, b < w.heap.size) → StrAt w sv (way.map mkB) → (way.map fun s => s.length + 1).sum ≤ 20000 → Below w0.heap.size w0 w → d.length ≤ 40000000 →
    Calls Tryz.prog f (#[sv] ++ caps) w fun e w' => e = .returned (.tuple #[]) ∧ ∃ T', I (d ++ [way]) T' w' ∧ KE T T' w w' ∧ Below w0.heap.size w0 w'
def Out3 (G : List Nat) (I : List (List Bs) → List Nat → World → Prop) (w0 : World) (r : JV) (d : List (List Bs)) (w : World) (e : Ending) (w' : World) : Prop :=
  ∃ u T, e = .returned u ∧ (∃ k, JvAt k T w' u r) ∧ I d T w' ∧ KE G T w w' ∧ Below w0.heap.size w0 w'
def In3 (f : FuncId) (caps : Array Value) (I : List (List Bs) → List Nat → World → Prop) (w0 : World) (n : Nat) : Prop :=
  ∀ (ma mb : Nat) (G : List Nat) (av bv v sv : Value) (xa xb x : JV) (way : List Bs) (d : List (List Bs)) (w : World), JvAt ma G w av xa → JvAt mb G w bv xb → JvAt n G w v x → JP.wf xb → JP.wf x → (JP.text xa).length ≤ 4000 → (JP.text xb).length ≤ 4000 → (way.map fun s => s.length + 1).sum + (JP.text x).length ≤ 10000 →
    StrAt w sv (way.map mkB) → OffT G sv (way.map mkB) → I d G w → (∀ b ∈ G, b < w.heap.size) → Below w0.heap.size w0 w → d.length + 4000 * (JP.text x).length ≤ 40000000 →
    Calls Tryz.prog 27 #[av, bv, v, sv, .func (.func f) #[] caps] w (Out3 G I w0 (JP.into3 xa xb x) (d ++ (JP.lost3 xa xb x).map (way ++ ·)) w)
theorem obj_way {m : Nat} {G : List Nat} {w : World} {v : Value} {x : JV} (h : JvAt m G w v x) : (∃ d q M, x = .obj d ∧ v = .iface 74 (.pointer (some ⟨q, 0, none⟩)) ∧ ObR (JvR M G) G w q d) ∨ (JP.fieldsOf x = [] ∧ (∀ d, x ≠ .obj d) ∧ ∀ w' : World, (Instr.typeAssert v 53 74 true).run Tryz.prog w' = .ok (.tuple #[.pointer none, .bool false]) w') := by
  by_cases hdo : ∃ d, x = .obj d
  · obtain ⟨d, rfl⟩ := hdo
    cases m with
    | zero => cases h
    | succ m =>
      obtain ⟨q, rfl, hdr⟩ := h
      exact .inl ⟨d, q, m, rfl, rfl, hdr⟩
  · have hn : ∀ d, x ≠ .obj d := fun d e => hdo ⟨d, e⟩
    refine .inr ⟨?_, hn, as_other h hn⟩
    cases x with
    | obj l => exact absurd rfl (hn l)
    | _ => rfl
theorem nb3 {b : Bool} (h : (!b) = true) : b = false := by cases b with | true => cases h | false => rfl
theorem two3 {a b : Bool} (h : ¬ (a = true ∧ b = false)) : a = false ∨ (a = true ∧ b = true) := by
  cases a with
  | false => exact .inl rfl
  | true => cases b with
    | false => exact absurd ⟨rfl, rfl⟩ h
    | true => exact .inr ⟨rfl, rfl⟩
theorem wfF_take3 : ∀ {l : List (Bs × JV)} (j : Nat), JP.wfF l → JP.wfF (l.take j)
  | [], _, _ => by rw [List.take_nil]; trivial
  | (n, v) :: r, 0, _ => trivial
  | (n, v) :: r, j + 1, h => by
    rw [JP.wfF] at h
    rw [List.take_succ_cons, JP.wfF]
    exact ⟨h.1, h.2.1, wfF_take3 j h.2.2⟩
theorem lenF_take3 (j : Nat) (l : List (Bs × JV)) : JP.lenF (l.take j) ≤ JP.lenF l := by
  induction l generalizing j with
  | nil => rw [List.take_nil]; exact Nat.le_refl _
  | cons y r ih =>
    cases j with
    | zero => exact Nat.zero_le _
    | succ j => obtain ⟨n, v⟩ := y; have := ih j; rw [List.take_succ_cons, JP.lenF, JP.lenF]; omega
theorem way_sum (way : List Bs) (n : Bs) : ((way ++ [n]).map fun s => s.length + 1).sum = (way.map fun s => s.length + 1).sum + (n.length + 1) := by
  rw [List.map_append, List.sum_append]; simp
theorem way_len (way : List Bs) : way.length ≤ (way.map fun s => s.length + 1).sum := by
  induction way with
  | nil => exact Nat.le_refl _
  | cons s r ih => rw [List.map_cons, List.sum_cons, List.length_cons]; omega
theorem off_own {G : List Nat} {w : World} {B : Nat} {e : TypeId} {v : Value} {xs : List Value} {L : List ByteArray} (h : OwnAt RVal 1 w B e v xs) (hG : ∀ b ∈ G, b < B) : OffT G v L := fun _ b hb hm => by
  have := (h.at hb).1
  have := hG b hm
  omega
set_option maxRecDepth 100000 in
set_option maxHeartbeats 12800000 in
theorem three0_any {f : FuncId} {I : List (List Bs) → List Nat → World → Prop} {w0 : World} (enter : ∀ (a : Array Value) (w : World), (callFunc f a).run Tryz.prog w = .ok (.enter f a) w)
    (hI0 : ∀ d T w w', I d T w → Below w.heap.size w w' → I d T w') (clo : Sees3 f #[] I w0) : ∀ n : Nat, In3 f #[] I w0 n := by
  intro n
  induction n with
  | zero => intro ma mb G av bv v sv xa xb x way d w _ _ h; cases h
  | succ n ih =>
    intro ma mb G av bv v sv xa xb x way d w ha hb h hwb hwx hla hlb hlx hs hoff hd hG hw0 hdn
    have ep := enter
    have HC := Lib.hid clo
    have hI := Lib.hid hI0
    by_cases hob : ∃ l, x = .obj l
    · obtain ⟨O, rfl⟩ := hob
      have IH := Lib.hid ih
      obtain ⟨qq, rfl, hobr⟩ := h
      have G1 := (as_obj (.pointer (some ⟨qq, 0, none⟩))).2.2.2.2
      obtain ⟨i0, hi0, hz0, hz1, hz2⟩ := info_parts Tryz.infoStr
      have hOf := Lib.hid (JP.wf_obj hwx).2
      have hOl : Hid (JP.lenF O ≤ 10000) := Lib.hid (by have := JP.obj_len_ge O; show _ ≤ _; omega)
      have HWs : Hid ((way.map fun s => s.length + 1).sum + JP.lenF O ≤ 10000) := Lib.hid (by have := JP.obj_len_ge O; show _ ≤ _; omega)
      have HWl : Hid (way.length ≤ 10000) := Lib.hid (by have := way_len way; show _ ≤ _; omega)
      have HOff := Lib.hid hoff
      have HDl : Hid (d.length + 4000 * JP.lenF O + 4000 ≤ 40000000) := Lib.hid (by have := JP.obj_len_ge O; show _ ≤ _; omega)
      have hsv := Lib.hid hs
      have hId := Lib.hid hd
      have hGw := Lib.hid hG
      have hB0 := Lib.hid hw0
      have hob1 := Lib.hid hobr
      have hwayA := obj_way ha
      have hwayB := obj_way hb
      have hLf := Lib.hid (JP.wf_fields hwb).2
      have HsL := Lib.hid (JP.wf_fields hwb).1
      have hLl : Hid (JP.lenF (JP.fieldsOf xb) ≤ 4000) := Lib.hid (by have := JP.lenF_fields xb; show _ ≤ _; omega)
      have hHl : Hid (JP.lenF (JP.fieldsOf xa) ≤ 4000) := Lib.hid (by have := JP.lenF_fields xa; show _ ≤ _; omega)
      obtain ⟨H, hHe9⟩ : ∃ H, JP.fieldsOf xa = H := ⟨_, rfl⟩
      obtain ⟨LV, hLe9⟩ : ∃ H, JP.fieldsOf xb = H := ⟨_, rfl⟩
      rw [hHe9] at hHl
      rw [hLe9] at hLl hLf HsL
      obtain ⟨RR, hRR⟩ : ∃ R, JP.into3 xa xb (.obj O) = R := ⟨_, rfl⟩
      obtain ⟨LL, hLL⟩ : ∃ R, d ++ (JP.lost3 xa xb (.obj O)).map (way ++ ·) = R := ⟨_, rfl⟩
      rw [hRR, hLL]
      rw [JP.into3_obj, hHe9, hLe9] at hRR
      rw [JP.lost3_obj, hHe9, hLe9] at hLL
      have HRR := Lib.hid hRR
      have HLL := Lib.hid hLL
      clear hRR hLL
      clear enter clo hI0 ih ha hb hwb hwx hla hlb hlx hs hoff hd hG hw0 hobr hdn
      rcases hwayB with ⟨dB, qd, Md, rfl, rfl, hdB⟩ | ⟨hnB, hnB2, GB⟩
      · have GB := (as_obj (.pointer (some ⟨qd, 0, none⟩))).2.2.2.2
        obtain rfl : LV = dB := hLe9.symm
        rcases hwayA with ⟨dA, qh, Mh, rfl, rfl, hdA⟩ | ⟨hnA, hnA2, GA⟩
        · have GA := (as_obj (.pointer (some ⟨qh, 0, none⟩))).2.2.2.2
          obtain rfl : H = dA := hHe9.symm
          have hWb : Hid (Below w.heap.size w w) := Lib.hid (Below.refl _ _)
          have hout : Hid (ObR (JvR Md G) G w qd LV) := Lib.hid hdB
          have hhad : Hid (ObR (JvR Mh G) G w qh H) := Lib.hid hdA
          have hobW : Hid (ObR (JvR n G) G w qq O) := Lib.hid hob1.out
          clear hdA hdB
          try clear hHe9
          try clear hLe9
          go_enter Tryz.func27, Tryz.ntmps27
          have HG : Hid (∀ b ∈ G, b < w.heap.size) := Lib.hid (fun b hb => Nat.lt_of_lt_of_le (hGw.out b hb) hWb.out.size)
          have HB0 := Lib.hid (hB0.out.trans (hWb.out.mono hB0.out.size))
          have HSv := Lib.hid (hsv.out.below hWb.out)
          have HO := Lib.hid (hobW.out)
          have HI0 := Lib.hid (hI.out _ _ _ _ hId.out hWb.out)
          obtain ⟨_, hsH, vnh, vvh, cnh, _, hrnh, hofh, _⟩ := hhad.out
          obtain ⟨_, hsO, vno, vvo, cno, _, hrno, hofo, _⟩ := hobW.out
          have HsH := Lib.hid hsH
          have HsO := Lib.hid hsO
          obtain ⟨ah, ch, eh, _⟩ := hrnh.len
          obtain ⟨ao, co, eo, _⟩ := hrno.len
          rw [List.length_map] at eh eo
          obtain ⟨lh, hlh⟩ : ∃ l, H.length = l := ⟨_, rfl⟩
          obtain ⟨ln, hln⟩ : ∃ l, O.length = l := ⟨_, rfl⟩
          rw [hlh] at eh
          rw [hln] at eo
          subst eh; subst eo
          have Hlh := Lib.hid hlh
          have Hln := Lib.hid hln
          have HrnH := Lib.hid hrnh
          have HofH := Lib.hid (show OffT G (.slice ah lh ch) (H.map fun x => mkB x.1) from fun hl => hofh fun e => hl (by rw [e]; rfl))
          have HrnO := Lib.hid hrno
          have HofO := Lib.hid (show OffT G (.slice ao ln co) (O.map fun x => mkB x.1) from fun hl => hofo fun e => hl (by rw [e]; rfl))
          have hlh9 : lh ≤ 100000 := by have := JP.lenF_length H; have := hHl.out; omega
          have hln9 : ln ≤ 100000 := by have := JP.lenF_length O; have := hOl.out; omega
          have Hcno := Lib.hid cno
          have Hcnh := Lib.hid cnh
          have hqO : qq ∉ G := hobW.out.1
          have hqH : qh ∉ G := hhad.out.1
          clear hsH hsO hrnh hofh hrno hofo hlh hln cno
          go_wp2_with fail
          refine (names_any qh _ w cnh).mono ?_
          rintro E wz ⟨rfl, rfl⟩
          clear cnh
          go_wp2_with fail
          go_loopg [59, 13] lh (fun k u59 u13 wr => ∃ (i qo M : Nat) (T : List Nat), i + k = lh ∧ u59 = .int .i64 (i : Int) ∧ u13 = .pointer (some ⟨qo, 0, none⟩) ∧ Hid (ObR (JvR M T) T wr qo (JP.remF (H.take i) O LV)) ∧ Hid (I (d ++ (JP.goesL (H.take i) O LV).map (fun n => way ++ [n])) T wr) ∧ Hid (KE G T w wr) ∧ Hid (Below w0.heap.size w0 wr))
          case atStart => exact ⟨0, qd, Md, G, by omega, rfl, rfl, Lib.hid (by rw [JP.rem_zero]; exact hout.out), Lib.hid (by rw [List.take_zero]; show I (d ++ []) G w; rw [List.append_nil]; exact HI0.out), Lib.hid (KE.refl HG.out), HB0⟩
          case round =>
            obtain ⟨i, qo, M, T, hik, rfl, rfl, HOut, HIr, HK, HB⟩ := hrel
            have holen : (JP.remF (H.take i) O LV).length ≤ 100000 := by have := JP.lenF_length (JP.remF (H.take i) O LV); have := JP.rem_len (H.take i) O LV; have := hLl.out; omega
            cases gk with
            | succ k =>
              have hil : i < lh := by omega
              obtain ⟨y, hy⟩ : ∃ y, H[i]? = some y := ⟨H[i]'(by rw [Hlh.out]; exact hil), List.getElem?_eq_getElem _⟩
              obtain ⟨b1, o1, c', hv1, _, _, hbs1, hcell1⟩ := HrnH.out.form (by rw [List.length_map, Hlh.out]; omega) (by omega)
              injection hv1 with u1 u2 u3
              subst u1
              clear u2 u3
              obtain ⟨ds1, _, hcc1, hR1⟩ := hcell1 i (mkB y.1) (by rw [List.getElem?_map, hy]; rfl)
              obtain rfl : ds1 = [.string (mkB y.1)] := hR1
              have e0 : wr.cell? ⟨b1, o1 + i, none⟩ = some (.string (mkB y.1)) := HK.out.keep.cell (by simpa using hcc1 0 _ rfl) (HofH.out (by intro e; have := congrArg List.length e; rw [List.length_map, Hlh.out] at this; simp at this; omega) b1 rfl)
              have q1 : (0 : Int) ≤ (i : Int) := by omega
              have q2 : (i : Int) < (lh : Int) := by omega
              have Hy := Lib.hid hy
              have HG1 := Lib.hid (get_g (x := y.1) (HO.out.keJ HK.out) (by rw [Hln.out]; omega))
              have hgt := JP.get_rem_take (o := O) (out := LV) HsH.out hy
              have hrs := JP.rem_step (o := O) HsH.out HsL.out hy
              have hgs := JP.goes_step (o := O) (out := LV) hy
              have Hgs := Lib.hid hgs
              have Hrs := Lib.hid hrs
              obtain ⟨bw, hbw⟩ : ∃ b, (JP.get y.1 O).isSome = b := ⟨_, rfl⟩
              obtain ⟨bi, hbi⟩ : ∃ b, (JP.get y.1 LV).isSome = b := ⟨_, rfl⟩
              have hbn : (JP.get y.1 O).isNone = !bw := by rw [← hbw]; cases JP.get y.1 O <;> rfl
              rw [hbw] at HG1
              rw [hbi, hbn] at Hrs Hgs
              clear hcell1 hcc1 hy hrs hgs
              go_wp2_with fail
              refine HG1.out.mono ?_
              rintro E w2 ⟨vg, rfl, _, _, hb2⟩
              have HK2 := Lib.hid (HK.out.grow hb2)
              have HB2 := Lib.hid (HB.out.trans (hb2.mono HB.out.size))
              have HI2 := Lib.hid (hI.out _ _ _ _ HIr.out hb2)
              have HOut2 := Lib.hid (HOut.out.keepJ (KeepT.of hb2))
              have HG2 := Lib.hid (get_g (x := y.1) HOut2.out (by omega))
              rw [hgt, hbi] at HG2
              clear hb2 HG1 e0 hgt hbw hbi hbn
              go_wp2_with fail
              refine HG2.out.mono ?_
              rintro E w3 ⟨vg2, rfl, _, _, hb3⟩
              have HK3 := Lib.hid (HK2.out.grow hb3)
              have HB3 := Lib.hid (HB2.out.trans (hb3.mono HB2.out.size))
              have HI3 := Lib.hid (hI.out _ _ _ _ HI2.out hb3)
              have HOut3 := Lib.hid (HOut2.out.keepJ (KeepT.of hb3))
              clear hb3 HG2 HK2 HB2 HI2 HOut2
              by_cases hgo : bi = true ∧ bw = false
              · obtain ⟨rfl, rfl⟩ := hgo
                have Hr2 : Hid (JP.remF (H.take (i + 1)) O LV = JP.cut y.1 (JP.remF (H.take i) O LV)) := Lib.hid (by rw [Hrs.out, if_pos ⟨rfl, rfl⟩])
                have Hg2 : Hid ((d ++ (JP.goesL (H.take i) O LV).map (fun n => way ++ [n])) ++ [way ++ [y.1]] = d ++ (JP.goesL (H.take (i + 1)) O LV).map (fun n => way ++ [n])) := Lib.hid (by rw [Hgs.out, if_pos ⟨rfl, rfl⟩, List.map_append, List.append_assoc]; rfl)
                clear Hrs Hgs
                have HCl := Lib.hid (cloneStr_any sv _ w3 (str_raw3 (str_keepT HSv.out HOff.out (HK3.out).keep)) (by rw [List.length_map, List.length_map]; have := HWl.out; omega))
                go_wp2_with fail
                refine HCl.out.mono ?_
                rintro E wc ⟨vc, rfl, hown, hbc⟩
                have HOwn := Lib.hid hown
                have Hbc := Lib.hid hbc
                clear hown hbc HCl
                have hb7 : Below wc.heap.size wc (wc.alloc (.cells #[.string (mkB y.1)] 9)) := (Below.refl _ wc).alloc (Nat.le_refl _) _
                have HOwn7 := Lib.hid (HOwn.out.below stays_val hb7)
                have Hb7 := Lib.hid (Hbc.out.trans (hb7.mono Hbc.out.size))
                have Hs7 : Hid (w3.heap.size ≤ (wc.alloc (.cells #[.string (mkB y.1)] 9)).heap.size) := Lib.hid Hb7.out.size
                have hr1 : RowAt RVal 1 (wc.alloc (.cells #[.string (mkB y.1)] 9)) (.slice (some ⟨wc.heap.size, 0, none⟩) 1 1) [Value.string (mkB y.1)] := RowAt.one (R := RVal) (x := Value.string (mkB y.1)) (heap_alloc_new wc _) rfl ⟨rfl, rfl⟩
                have bd1 : ((way.map mkB).map Value.string).length + [Value.string (mkB y.1)].length ≤ maxLen := by unfold maxLen; rw [List.length_map, List.length_map]; simp only [List.length_cons, List.length_nil]; have := HWl.out; omega
                have bd2 : (((way.map mkB).map Value.string).length + [Value.string (mkB y.1)].length) * 16 ≤ 140737488355328 := by rw [List.length_map, List.length_map]; simp only [List.length_cons, List.length_nil]; have := HWl.out; omega
                clear hb7
                go_wp2_with (at_builtin; refine wpList_append_ownAt (R := RVal) (k := 1) (e := 9) (B := w3.heap.size) (l := (way.map mkB).map .string) (m := [.string (mkB y.1)]) _ (by rfl) _ _ _ (by rfl) i0 _ 16 Tryz.underlying25 hi0 hz0 hz1 hz2 rfl (by omega) flat_val one_val _ (by rfl) HOwn7.out _ (by rfl) hr1 bd1 bd2 Hs7.out ?_)
                intro v8 w8 hv8 hg8 hr8 _
                have hb8 : Below w3.heap.size w3 w8 := Hb7.out.trans (below_of_grown (Below.refl _ _) Hs7.out hg8 hr8)
                have hst8 : StrAt w8 v8 ((way ++ [y.1]).map mkB) := raw_str3 (by have h9 := hv8.row; rw [List.map_append, List.map_append]; simpa using h9)
                have hoff8 : OffT T v8 ((way ++ [y.1]).map mkB) := off_own hv8 (HK3.out).lt
                have Hb8 := Lib.hid hb8
                have Hst8 := Lib.hid hst8
                have Hoff8 := Lib.hid hoff8
                clear hv8 hg8 hr8 hb8 hst8 hoff8 HOwn7 HOwn Hb7 Hs7 hr1 bd1 bd2 Hbc
                have hdl : (d ++ (JP.goesL (H.take i) O LV).map (fun n => way ++ [n])).length ≤ 40000000 := by
                  have h1 : (JP.goesL (H.take i) O LV).length ≤ 4000 := by
                    unfold JP.goesL
                    rw [List.length_map]
                    have h2 := List.length_filter_le (fun y => (JP.get y.1 LV).isSome && (JP.get y.1 O).isNone) (H.take i)
                    have h3 : (H.take i).length ≤ H.length := by rw [List.length_take]; omega
                    have := JP.lenF_length H; have := hHl.out; omega
                  rw [List.length_append, List.length_map]
                  have := HDl.out; omega
                have HCa := Lib.hid (HC.out (d ++ (JP.goesL (H.take i) O LV).map (fun n => way ++ [n])) T (way ++ [y.1]) v8 w8 (hI.out _ _ _ _ HI3.out Hb8.out) (HK3.out.grow Hb8.out).lt Hst8.out (by rw [way_sum]; have h8 : H[i]? = some (y.1, y.2) := Hy.out; have := JP.name_len h8; have := hHl.out; have := HWs.out; omega) (HB3.out.trans (Hb8.out.mono HB3.out.size)) hdl)
                clear hdl
                go_wp2_with fail
                refine HCa.out.mono ?_
                rintro E w9 ⟨rfl, T9, hi9, hk9, hb9⟩
                have HK9 := Lib.hid ((HK3.out.grow Hb8.out).trans hk9)
                have HOut9 := Lib.hid ((HOut3.out.keepJ (KeepT.of Hb8.out)).keJ hk9)
                have HB9 := Lib.hid hb9
                have HI9 := Lib.hid hi9
                have HWo := Lib.hid (without_any (x := y.1) HOut9.out HK9.out.lt (by omega))
                clear hi9 hk9 hb9 HCa
                go_wp2_with fail
                refine HWo.out.mono ?_
                rintro E wd ⟨qn, rfl, hon, hbn⟩
                have HOn : Hid (ObR (JvR M T9) T9 wd qn (JP.remF (H.take (i + 1)) O LV)) := Lib.hid (by rw [Hr2.out]; exact hon)
                have HIn : Hid (I (d ++ (JP.goesL (H.take (i + 1)) O LV).map (fun n => way ++ [n])) T9 wd) := Lib.hid (by rw [← Hg2.out]; exact hI.out _ _ _ _ HI9.out hbn)
                have HKn := Lib.hid (HK9.out.grow hbn)
                have HBn := Lib.hid (HB9.out.trans (hbn.mono HB9.out.size))
                clear hon hbn HWo
                go_wp2_with fail
                go_roundg k
                case measure => omega
                case rel => exact ⟨i + 1, qn, M, T9, by omega, by go_num, rfl, HOn, HIn, HKn, HBn⟩
              · have Hr2 : Hid (JP.remF (H.take (i + 1)) O LV = JP.remF (H.take i) O LV) := Lib.hid (by rw [Hrs.out, if_neg (fun e => hgo ⟨e.1, nb3 e.2⟩)])
                have Hg2 : Hid (JP.goesL (H.take (i + 1)) O LV = JP.goesL (H.take i) O LV) := Lib.hid (by rw [Hgs.out, if_neg (fun e => hgo ⟨e.1, nb3 e.2⟩), List.append_nil])
                have HOn : Hid (ObR (JvR M T) T w3 qo (JP.remF (H.take (i + 1)) O LV)) := Lib.hid (by rw [Hr2.out]; exact HOut3.out)
                have HIn : Hid (I (d ++ (JP.goesL (H.take (i + 1)) O LV).map (fun n => way ++ [n])) T w3) := Lib.hid (by rw [Hg2.out]; exact HI3.out)
                clear Hrs Hgs
                have hways := two3 hgo
                clear hgo
                rcases hways with rfl | ⟨rfl, rfl⟩
                · go_wp2_with fail
                  go_roundg k
                  case measure => omega
                  case rel => exact ⟨i + 1, qo, M, T, by omega, by go_num, rfl, HOn, HIn, HK3, HB3⟩
                · go_wp2_with fail
                  go_roundg k
                  case measure => omega
                  case rel => exact ⟨i + 1, qo, M, T, by omega, by go_num, rfl, HOn, HIn, HK3, HB3⟩
            | zero =>
              have hil : i = lh := by omega
              subst hil
              have q9 : ¬ (i : Int) < (i : Int) := by omega
              have htk : H.take i = H := List.take_of_length_le (by rw [Hlh.out]; exact Nat.le_refl _)
              rw [htk] at HOut HIr holen
              have HR0 := HOut
              have HIR := HIr
              obtain ⟨R, hR⟩ : ∃ R, JP.remF H O LV = R := ⟨_, rfl⟩
              obtain ⟨Gs, hGs⟩ : ∃ R, (JP.goesL H O LV).map (fun n => way ++ [n]) = R := ⟨_, rfl⟩
              rw [hR] at HR0
              rw [hGs] at HIR
              have HR := Lib.hid hR
              have HGs := Lib.hid hGs
              have hRs : JP.Srt R := by rw [← hR]; exact JP.srt_rem HsL.out
              have HRs := Lib.hid hRs
              have hRf : JP.Fld R := by rw [← hR]; exact ⟨JP.srt_rem HsL.out, JP.wfF_filter _ hLf.out⟩
              have HRf := Lib.hid hRf
              have hRl : JP.lenF R ≤ 4000 := by rw [← hR]; have := JP.rem_len H O LV; have := hLl.out; omega
              have HRl := Lib.hid hRl
              have cn2 : wr.cell? ⟨qq, 0, none⟩ = some (.slice ao ln co) := HK.out.keep.cell Hcno.out hqO
              clear htk hR hGs hRs hRf hRl HOut HIr holen
              go_wp2_with fail
              refine (names_any qq _ wr cn2).mono ?_
              rintro E wz ⟨rfl, rfl⟩
              clear cn2
              go_wp2_with fail
              go_loopg [94, 13] ln (fun k u94 u13 wr => ∃ (j qo M : Nat) (T : List Nat), j + k = ln ∧ u94 = .int .i64 (j : Int) ∧ u13 = .pointer (some ⟨qo, 0, none⟩) ∧ Hid (ObR (JvR M T) T wr qo (JP.into3F H R (O.take j))) ∧ Hid (I (d ++ Gs ++ (JP.lost3F H R (O.take j)).map (way ++ ·)) T wr) ∧ Hid (KE G T w wr) ∧ Hid (Below w0.heap.size w0 wr))
              case atStart => exact ⟨0, qo, M, T, by omega, rfl, rfl, Lib.hid (by rw [List.take_zero, JP.into3F_nil]; exact HR0.out), Lib.hid (by rw [List.take_zero, JP.lost3F_nil, List.map_nil, List.append_nil]; exact HIR.out), HK, HB⟩
              case round =>
                obtain ⟨j, qp, M2, T2, hjk, rfl, rfl, HP, HIs, HKs, HBs⟩ := hrel
                obtain ⟨hpf, hpl⟩ := JP.into3_fit.2.2 (O.take j) (wfF_take3 j hOf.out) H R HRf.out
                have hpl2 : JP.lenF (O.take j) ≤ JP.lenF O := lenF_take3 j O
                have hplen : (JP.into3F H R (O.take j)).length ≤ 100000 := by have := JP.lenF_length (JP.into3F H R (O.take j)); have := HRl.out; have := hOl.out; omega
                cases gk with
                | zero =>
                  have hjl : j = ln := by omega
                  subst hjl
                  have q8 : ¬ (j : Int) < (j : Int) := by omega
                  have htk : O.take j = O := List.take_of_length_le (by rw [Hln.out]; exact Nat.le_refl _)
                  rw [htk] at HP HIs
                  have Hfin : Hid (RR = .obj (JP.into3F H R O)) := Lib.hid (by rw [← HRR.out, HR.out])
                  have Hlost : Hid (d ++ Gs ++ (JP.lost3F H R O).map (way ++ ·) = LL) := Lib.hid (by rw [← HLL.out, HR.out, List.map_append, ← HGs.out, List.map_map, List.append_assoc]; rfl)
                  clear htk hpf hpl hpl2 hplen
                  go_wp2_with fail
                  go_ret
                  exact ⟨_, T2, rfl, ⟨M2 + 1, by rw [Hfin.out]; exact ⟨qp, rfl, HP.out⟩⟩, by rw [← Hlost.out]; exact HIs.out, HKs.out.before hWb.out, HBs.out⟩
                | succ k =>
                  have hil : j < ln := by omega
                  obtain ⟨y, hy⟩ : ∃ y, O[j]? = some y := ⟨O[j]'(by rw [Hln.out]; exact hil), List.getElem?_eq_getElem _⟩
                  obtain ⟨b1, o1, c', hv1, _, _, hbs1, hcell1⟩ := HrnO.out.form (by rw [List.length_map, Hln.out]; omega) (by omega)
                  injection hv1 with u1 u2 u3
                  subst u1
                  clear u2 u3
                  obtain ⟨ds1, _, hcc1, hR1⟩ := hcell1 j (mkB y.1) (by rw [List.getElem?_map, hy]; rfl)
                  obtain rfl : ds1 = [.string (mkB y.1)] := hR1
                  have e0 : wr.cell? ⟨b1, o1 + j, none⟩ = some (.string (mkB y.1)) := HKs.out.keep.cell (by simpa using hcc1 0 _ rfl) (HofO.out (by intro e; have := congrArg List.length e; rw [List.length_map, Hln.out] at this; simp at this; omega) b1 rfl)
                  have q1 : (0 : Int) ≤ (j : Int) := by omega
                  have q2 : (j : Int) < (ln : Int) := by omega
                  have Hy := Lib.hid hy
                  have hgO := JP.get_at3 HsO.out hy
                  have hlO := JP.lenF_at3 hy
                  have hnm : y.1.length + 1 + (JP.text y.2).length + 2 ≤ JP.lenF O := JP.name_len (show O[j]? = some (y.1, y.2) from hy)
                  have hwy := JP.wfF_at3 hOf.out hy
                  have htk := JP.into3F_take (had := H) (out := R) hy
                  have hlt := JP.lost3F_take (had := H) (out := R) hy
                  have hgt : JP.gto y.1 (JP.into3F H R (O.take j)) = JP.gto y.1 R := JP.gto_take HsO.out hy
                  have hln3 := (JP.lost_len).2.2 (O.take j) H R hHl.out
                  have HG1 := Lib.hid (get_g (x := y.1) (hhad.out.keJ HKs.out) (by rw [Hlh.out]; omega))
                  have hgs1 : JP.lenF (JP.into3F H R (O.take j)) ≤ 14000 := by have := HRl.out; have := hOl.out; omega
                  obtain ⟨P, hP⟩ : ∃ P, JP.into3F H R (O.take j) = P := ⟨_, rfl⟩
                  rw [hP] at HP htk hlt hgt hplen hgs1
                  have Hgt := Lib.hid hgt
                  have Htk := Lib.hid htk
                  have Hlt := Lib.hid hlt
                  have HlO := Lib.hid hlO
                  have Hnm := Lib.hid hnm
                  have Hwy := Lib.hid hwy
                  have Hln3 := Lib.hid hln3
                  have HgO := Lib.hid hgO
                  clear hcell1 hcc1 hy hgO hlO hnm hwy htk hlt hgt hln3 hpf hpl hpl2 hP hgs1 hbs1
                  go_wp2_with fail
                  refine HG1.out.mono ?_
                  rintro E w2 ⟨va, rfl, _, ⟨ka, hja⟩, hb2⟩
                  have HK2 := Lib.hid (HKs.out.grow hb2)
                  have HB2 := Lib.hid (HBs.out.trans (hb2.mono HBs.out.size))
                  have HI2 := Lib.hid (hI.out _ _ _ _ HIs.out hb2)
                  have HP2 := Lib.hid (HP.out.keepJ (KeepT.of hb2))
                  have HJa := Lib.hid hja
                  have HG2 := Lib.hid (get_g (x := y.1) HP2.out (by omega))
                  clear hb2 HG1 e0 hja
                  go_wp2_with fail
                  refine HG2.out.mono ?_
                  rintro E w3 ⟨vb, rfl, _, ⟨kb, hjb⟩, hb3⟩
                  have HK3 := Lib.hid (HK2.out.grow hb3)
                  have HB3 := Lib.hid (HB2.out.trans (hb3.mono HB2.out.size))
                  have HI3 := Lib.hid (hI.out _ _ _ _ HI2.out hb3)
                  have HP3 := Lib.hid (HP2.out.keepJ (KeepT.of hb3))
                  have HJa3 := Lib.hid (HJa.out.keepT (KeepT.of hb3))
                  have HJb := Lib.hid hjb
                  have HG3 := Lib.hid (get_g (x := y.1) (HO.out.keJ HK3.out) (by rw [Hln.out]; omega))
                  rw [HgO.out] at HG3
                  clear hb3 HG2 HK2 HB2 HI2 HP2 HJa hjb
                  go_wp2_with fail
                  refine HG3.out.mono ?_
                  rintro E w4 ⟨vw, rfl, hjw, _, hb4⟩
                  have HK4 := Lib.hid (HK3.out.grow hb4)
                  have HB4 := Lib.hid (HB3.out.trans (hb4.mono HB3.out.size))
                  have HI4 := Lib.hid (hI.out _ _ _ _ HI3.out hb4)
                  have HP4 := Lib.hid (HP3.out.keepJ (KeepT.of hb4))
                  have HJa4 := Lib.hid (HJa3.out.keepT (KeepT.of hb4))
                  have HJb4 := Lib.hid (HJb.out.keepT (KeepT.of hb4))
                  have HJw4 := Lib.hid (hjw y.2 rfl)
                  clear hb4 HG3 HK3 HB3 HI3 HP3 HJa3 HJb hjw
                  have HCl := Lib.hid (cloneStr_any sv _ w4 (str_raw3 (str_keepT HSv.out HOff.out (HK4.out).keep)) (by rw [List.length_map, List.length_map]; have := HWl.out; omega))
                  go_wp2_with fail
                  refine HCl.out.mono ?_
                  rintro E wc ⟨vc, rfl, hown, hbc⟩
                  have HOwn := Lib.hid hown
                  have Hbc := Lib.hid hbc
                  clear hown hbc HCl
                  have hb7 : Below wc.heap.size wc (wc.alloc (.cells #[.string (mkB y.1)] 9)) := (Below.refl _ wc).alloc (Nat.le_refl _) _
                  have HOwn7 := Lib.hid (HOwn.out.below stays_val hb7)
                  have Hb7 := Lib.hid (Hbc.out.trans (hb7.mono Hbc.out.size))
                  have Hs7 : Hid (w4.heap.size ≤ (wc.alloc (.cells #[.string (mkB y.1)] 9)).heap.size) := Lib.hid Hb7.out.size
                  have hr1 : RowAt RVal 1 (wc.alloc (.cells #[.string (mkB y.1)] 9)) (.slice (some ⟨wc.heap.size, 0, none⟩) 1 1) [Value.string (mkB y.1)] := RowAt.one (R := RVal) (x := Value.string (mkB y.1)) (heap_alloc_new wc _) rfl ⟨rfl, rfl⟩
                  have bd1 : ((way.map mkB).map Value.string).length + [Value.string (mkB y.1)].length ≤ maxLen := by unfold maxLen; rw [List.length_map, List.length_map]; simp only [List.length_cons, List.length_nil]; have := HWl.out; omega
                  have bd2 : (((way.map mkB).map Value.string).length + [Value.string (mkB y.1)].length) * 16 ≤ 140737488355328 := by rw [List.length_map, List.length_map]; simp only [List.length_cons, List.length_nil]; have := HWl.out; omega
                  clear hb7
                  go_wp2_with (at_builtin; refine wpList_append_ownAt (R := RVal) (k := 1) (e := 9) (B := w4.heap.size) (l := (way.map mkB).map .string) (m := [.string (mkB y.1)]) _ (by rfl) _ _ _ (by rfl) i0 _ 16 Tryz.underlying25 hi0 hz0 hz1 hz2 rfl (by omega) flat_val one_val _ (by rfl) HOwn7.out _ (by rfl) hr1 bd1 bd2 Hs7.out ?_)
                  intro v8 w8 hv8 hg8 hr8 _
                  have hb8 : Below w4.heap.size w4 w8 := Hb7.out.trans (below_of_grown (Below.refl _ _) Hs7.out hg8 hr8)
                  have hst8 : StrAt w8 v8 ((way ++ [y.1]).map mkB) := raw_str3 (by have h9 := hv8.row; rw [List.map_append, List.map_append]; simpa using h9)
                  have hoff8 : OffT T2 v8 ((way ++ [y.1]).map mkB) := off_own hv8 (HK4.out).lt
                  have Hb8 := Lib.hid hb8
                  have Hst8 := Lib.hid hst8
                  have Hoff8 := Lib.hid hoff8
                  clear hv8 hg8 hr8 hb8 hst8 hoff8 HOwn7 HOwn Hb7 Hs7 hr1 bd1 bd2 Hbc
                  have hIH := IH.out ka kb T2 va vb vw v8 (JP.gto y.1 H) (JP.gto y.1 P) y.2 (way ++ [y.1]) (d ++ Gs ++ (JP.lost3F H R (O.take j)).map (way ++ ·)) w8 (HJa4.out.keepT (KeepT.of Hb8.out)) (HJb4.out.keepT (KeepT.of Hb8.out)) (HJw4.out.keepT (KeepT.of Hb8.out))
                    (by rw [Hgt.out]; exact JP.wf_gto HRf.out.2) Hwy.out (by have := JP.gto_len y.1 H; have := hHl.out; omega) (by rw [Hgt.out]; have := JP.gto_len y.1 R; have := HRl.out; omega)
                    (by rw [way_sum]; have := Hnm.out; have := HWs.out; omega) Hst8.out Hoff8.out (hI.out _ _ _ _ HI4.out Hb8.out) (HK4.out.grow Hb8.out).lt (HB4.out.trans (Hb8.out.mono HB4.out.size))
                    (by
                      rw [List.length_append, List.length_append, List.length_map]
                      have h1 : Gs.length ≤ 4000 := by
                        rw [← HGs.out, List.length_map]
                        unfold JP.goesL
                        rw [List.length_map]
                        have h2 := List.length_filter_le (fun y => (JP.get y.1 LV).isSome && (JP.get y.1 O).isNone) H
                        have := JP.lenF_length H; have := hHl.out; omega
                      have := Hln3.out; have := HlO.out; have := HDl.out
                      omega)
                  have HIH := Lib.hid hIH
                  clear hIH
                  go_wp2_with fail
                  refine HIH.out.mono ?_
                  rintro E w9 ⟨u9, T9, rfl, ⟨k9, hj9⟩, hi9, hk9, hb9⟩
                  have HK9 := Lib.hid ((HK4.out.grow Hb8.out).trans hk9)
                  have HP9 := Lib.hid ((HP4.out.keepJ (KeepT.of Hb8.out)).keJ hk9)
                  have HWi := Lib.hid (with_any (x := y.1) (HP9.out.upsJ (Nat.le_max_left M2 k9)) (hj9.ups (Nat.le_max_right M2 k9)) HK9.out.lt (by omega))
                  have HI9 := Lib.hid hi9
                  have HB9 := Lib.hid hb9
                  clear hj9 hi9 hk9 hb9 HIH
                  go_wp2_with fail
                  refine HWi.out.mono ?_
                  rintro E wd ⟨qn, rfl, hon, hbn⟩
                  have HOn : Hid (ObR (JvR (max M2 k9) T9) T9 wd qn (JP.into3F H R (O.take (j + 1)))) := Lib.hid (by rw [Htk.out]; exact hon)
                  have HIn : Hid (I (d ++ Gs ++ (JP.lost3F H R (O.take (j + 1))).map (way ++ ·)) T9 wd) := Lib.hid (by
                    rw [Hlt.out, List.map_append, ← List.append_assoc, List.map_map]
                    have h9 := hI.out _ _ _ _ HI9.out hbn
                    have e9 : (JP.lost3 (JP.gto y.1 H) (JP.gto y.1 P) y.2).map (fun r => (way ++ [y.1]) ++ r) = (JP.lost3 (JP.gto y.1 H) (JP.gto y.1 P) y.2).map ((way ++ ·) ∘ (y.1 :: ·)) := List.map_congr_left fun r _ => by show way ++ [y.1] ++ r = way ++ (y.1 :: r); rw [List.append_assoc]; rfl
                    rw [← e9]
                    exact h9)
                  have HKn := Lib.hid (HK9.out.grow hbn)
                  have HBn := Lib.hid (HB9.out.trans (hbn.mono HB9.out.size))
                  clear hon hbn HWi
                  go_wp2_with fail
                  go_roundg k
                  case measure => omega
                  case rel => exact ⟨j + 1, qn, max M2 k9, T9, by omega, by go_num, rfl, HOn, HIn, HKn, HBn⟩
        · have hHn : H = [] := hHe9.symm.trans hnA
          obtain ⟨W, hW⟩ : ∃ W, W = w.alloc (.cells #[.slice none 0 0, .slice none 0 0] 95) := ⟨_, rfl⟩
          have hWb : Hid (Below w.heap.size w W) := Lib.hid (by rw [hW]; exact (Below.refl _ w).alloc (Nat.le_refl _) _)
          have hout : Hid (ObR (JvR Md G) G W qd LV) := Lib.hid (hdB.keepJ (KeepT.of hWb.out))
          have hhad : Hid (ObR (JvR 0 G) G W w.heap.size H) := Lib.hid (by rw [hW, hHn]; exact empty_ob (heap_alloc_new w _) (fun hm => absurd (hGw.out _ hm) (Nat.lt_irrefl _)))
          have hobW : Hid (ObR (JvR n G) G W qq O) := Lib.hid (hob1.out.keepJ (KeepT.of hWb.out))
          clear hdB hnA hHn
          try clear hHe9
          try clear hLe9
          obtain ⟨qh, hqh⟩ : ∃ q, w.heap.size = q := ⟨_, rfl⟩
          rw [hqh] at hhad
          go_enter Tryz.func27, Tryz.ntmps27
          go_upto_region 10 with fail
          rw [← hW]
          clear hW
          try rw [hqh]
          have HG : Hid (∀ b ∈ G, b < W.heap.size) := Lib.hid (fun b hb => Nat.lt_of_lt_of_le (hGw.out b hb) hWb.out.size)
          have HB0 := Lib.hid (hB0.out.trans (hWb.out.mono hB0.out.size))
          have HSv := Lib.hid (hsv.out.below hWb.out)
          have HO := Lib.hid (hobW.out)
          have HI0 := Lib.hid (hI.out _ _ _ _ hId.out hWb.out)
          obtain ⟨_, hsH, vnh, vvh, cnh, _, hrnh, hofh, _⟩ := hhad.out
          obtain ⟨_, hsO, vno, vvo, cno, _, hrno, hofo, _⟩ := hobW.out
          have HsH := Lib.hid hsH
          have HsO := Lib.hid hsO
          obtain ⟨ah, ch, eh, _⟩ := hrnh.len
          obtain ⟨ao, co, eo, _⟩ := hrno.len
          rw [List.length_map] at eh eo
          obtain ⟨lh, hlh⟩ : ∃ l, H.length = l := ⟨_, rfl⟩
          obtain ⟨ln, hln⟩ : ∃ l, O.length = l := ⟨_, rfl⟩
          rw [hlh] at eh
          rw [hln] at eo
          subst eh; subst eo
          have Hlh := Lib.hid hlh
          have Hln := Lib.hid hln
          have HrnH := Lib.hid hrnh
          have HofH := Lib.hid (show OffT G (.slice ah lh ch) (H.map fun x => mkB x.1) from fun hl => hofh fun e => hl (by rw [e]; rfl))
          have HrnO := Lib.hid hrno
          have HofO := Lib.hid (show OffT G (.slice ao ln co) (O.map fun x => mkB x.1) from fun hl => hofo fun e => hl (by rw [e]; rfl))
          have hlh9 : lh ≤ 100000 := by have := JP.lenF_length H; have := hHl.out; omega
          have hln9 : ln ≤ 100000 := by have := JP.lenF_length O; have := hOl.out; omega
          have Hcno := Lib.hid cno
          have Hcnh := Lib.hid cnh
          have hqO : qq ∉ G := hobW.out.1
          have hqH : qh ∉ G := hhad.out.1
          clear hsH hsO hrnh hofh hrno hofo hlh hln cno
          go_wp2_with fail
          refine (names_any qh _ W cnh).mono ?_
          rintro E wz ⟨rfl, rfl⟩
          clear cnh
          go_wp2_with fail
          go_loopg [59, 13] lh (fun k u59 u13 wr => ∃ (i qo M : Nat) (T : List Nat), i + k = lh ∧ u59 = .int .i64 (i : Int) ∧ u13 = .pointer (some ⟨qo, 0, none⟩) ∧ Hid (ObR (JvR M T) T wr qo (JP.remF (H.take i) O LV)) ∧ Hid (I (d ++ (JP.goesL (H.take i) O LV).map (fun n => way ++ [n])) T wr) ∧ Hid (KE G T W wr) ∧ Hid (Below w0.heap.size w0 wr))
          case atStart => exact ⟨0, qd, Md, G, by omega, rfl, rfl, Lib.hid (by rw [JP.rem_zero]; exact hout.out), Lib.hid (by rw [List.take_zero]; show I (d ++ []) G W; rw [List.append_nil]; exact HI0.out), Lib.hid (KE.refl HG.out), HB0⟩
          case round =>
            obtain ⟨i, qo, M, T, hik, rfl, rfl, HOut, HIr, HK, HB⟩ := hrel
            have holen : (JP.remF (H.take i) O LV).length ≤ 100000 := by have := JP.lenF_length (JP.remF (H.take i) O LV); have := JP.rem_len (H.take i) O LV; have := hLl.out; omega
            cases gk with
            | succ k =>
              have hil : i < lh := by omega
              obtain ⟨y, hy⟩ : ∃ y, H[i]? = some y := ⟨H[i]'(by rw [Hlh.out]; exact hil), List.getElem?_eq_getElem _⟩
              obtain ⟨b1, o1, c', hv1, _, _, hbs1, hcell1⟩ := HrnH.out.form (by rw [List.length_map, Hlh.out]; omega) (by omega)
              injection hv1 with u1 u2 u3
              subst u1
              clear u2 u3
              obtain ⟨ds1, _, hcc1, hR1⟩ := hcell1 i (mkB y.1) (by rw [List.getElem?_map, hy]; rfl)
              obtain rfl : ds1 = [.string (mkB y.1)] := hR1
              have e0 : wr.cell? ⟨b1, o1 + i, none⟩ = some (.string (mkB y.1)) := HK.out.keep.cell (by simpa using hcc1 0 _ rfl) (HofH.out (by intro e; have := congrArg List.length e; rw [List.length_map, Hlh.out] at this; simp at this; omega) b1 rfl)
              have q1 : (0 : Int) ≤ (i : Int) := by omega
              have q2 : (i : Int) < (lh : Int) := by omega
              have Hy := Lib.hid hy
              have HG1 := Lib.hid (get_g (x := y.1) (HO.out.keJ HK.out) (by rw [Hln.out]; omega))
              have hgt := JP.get_rem_take (o := O) (out := LV) HsH.out hy
              have hrs := JP.rem_step (o := O) HsH.out HsL.out hy
              have hgs := JP.goes_step (o := O) (out := LV) hy
              have Hgs := Lib.hid hgs
              have Hrs := Lib.hid hrs
              obtain ⟨bw, hbw⟩ : ∃ b, (JP.get y.1 O).isSome = b := ⟨_, rfl⟩
              obtain ⟨bi, hbi⟩ : ∃ b, (JP.get y.1 LV).isSome = b := ⟨_, rfl⟩
              have hbn : (JP.get y.1 O).isNone = !bw := by rw [← hbw]; cases JP.get y.1 O <;> rfl
              rw [hbw] at HG1
              rw [hbi, hbn] at Hrs Hgs
              clear hcell1 hcc1 hy hrs hgs
              go_wp2_with fail
              refine HG1.out.mono ?_
              rintro E w2 ⟨vg, rfl, _, _, hb2⟩
              have HK2 := Lib.hid (HK.out.grow hb2)
              have HB2 := Lib.hid (HB.out.trans (hb2.mono HB.out.size))
              have HI2 := Lib.hid (hI.out _ _ _ _ HIr.out hb2)
              have HOut2 := Lib.hid (HOut.out.keepJ (KeepT.of hb2))
              have HG2 := Lib.hid (get_g (x := y.1) HOut2.out (by omega))
              rw [hgt, hbi] at HG2
              clear hb2 HG1 e0 hgt hbw hbi hbn
              go_wp2_with fail
              refine HG2.out.mono ?_
              rintro E w3 ⟨vg2, rfl, _, _, hb3⟩
              have HK3 := Lib.hid (HK2.out.grow hb3)
              have HB3 := Lib.hid (HB2.out.trans (hb3.mono HB2.out.size))
              have HI3 := Lib.hid (hI.out _ _ _ _ HI2.out hb3)
              have HOut3 := Lib.hid (HOut2.out.keepJ (KeepT.of hb3))
              clear hb3 HG2 HK2 HB2 HI2 HOut2
              by_cases hgo : bi = true ∧ bw = false
              · obtain ⟨rfl, rfl⟩ := hgo
                have Hr2 : Hid (JP.remF (H.take (i + 1)) O LV = JP.cut y.1 (JP.remF (H.take i) O LV)) := Lib.hid (by rw [Hrs.out, if_pos ⟨rfl, rfl⟩])
                have Hg2 : Hid ((d ++ (JP.goesL (H.take i) O LV).map (fun n => way ++ [n])) ++ [way ++ [y.1]] = d ++ (JP.goesL (H.take (i + 1)) O LV).map (fun n => way ++ [n])) := Lib.hid (by rw [Hgs.out, if_pos ⟨rfl, rfl⟩, List.map_append, List.append_assoc]; rfl)
                clear Hrs Hgs
                have HCl := Lib.hid (cloneStr_any sv _ w3 (str_raw3 (str_keepT HSv.out HOff.out (HK3.out).keep)) (by rw [List.length_map, List.length_map]; have := HWl.out; omega))
                go_wp2_with fail
                refine HCl.out.mono ?_
                rintro E wc ⟨vc, rfl, hown, hbc⟩
                have HOwn := Lib.hid hown
                have Hbc := Lib.hid hbc
                clear hown hbc HCl
                have hb7 : Below wc.heap.size wc (wc.alloc (.cells #[.string (mkB y.1)] 9)) := (Below.refl _ wc).alloc (Nat.le_refl _) _
                have HOwn7 := Lib.hid (HOwn.out.below stays_val hb7)
                have Hb7 := Lib.hid (Hbc.out.trans (hb7.mono Hbc.out.size))
                have Hs7 : Hid (w3.heap.size ≤ (wc.alloc (.cells #[.string (mkB y.1)] 9)).heap.size) := Lib.hid Hb7.out.size
                have hr1 : RowAt RVal 1 (wc.alloc (.cells #[.string (mkB y.1)] 9)) (.slice (some ⟨wc.heap.size, 0, none⟩) 1 1) [Value.string (mkB y.1)] := RowAt.one (R := RVal) (x := Value.string (mkB y.1)) (heap_alloc_new wc _) rfl ⟨rfl, rfl⟩
                have bd1 : ((way.map mkB).map Value.string).length + [Value.string (mkB y.1)].length ≤ maxLen := by unfold maxLen; rw [List.length_map, List.length_map]; simp only [List.length_cons, List.length_nil]; have := HWl.out; omega
                have bd2 : (((way.map mkB).map Value.string).length + [Value.string (mkB y.1)].length) * 16 ≤ 140737488355328 := by rw [List.length_map, List.length_map]; simp only [List.length_cons, List.length_nil]; have := HWl.out; omega
                clear hb7
                go_wp2_with (at_builtin; refine wpList_append_ownAt (R := RVal) (k := 1) (e := 9) (B := w3.heap.size) (l := (way.map mkB).map .string) (m := [.string (mkB y.1)]) _ (by rfl) _ _ _ (by rfl) i0 _ 16 Tryz.underlying25 hi0 hz0 hz1 hz2 rfl (by omega) flat_val one_val _ (by rfl) HOwn7.out _ (by rfl) hr1 bd1 bd2 Hs7.out ?_)
                intro v8 w8 hv8 hg8 hr8 _
                have hb8 : Below w3.heap.size w3 w8 := Hb7.out.trans (below_of_grown (Below.refl _ _) Hs7.out hg8 hr8)
                have hst8 : StrAt w8 v8 ((way ++ [y.1]).map mkB) := raw_str3 (by have h9 := hv8.row; rw [List.map_append, List.map_append]; simpa using h9)
                have hoff8 : OffT T v8 ((way ++ [y.1]).map mkB) := off_own hv8 (HK3.out).lt
                have Hb8 := Lib.hid hb8
                have Hst8 := Lib.hid hst8
                have Hoff8 := Lib.hid hoff8
                clear hv8 hg8 hr8 hb8 hst8 hoff8 HOwn7 HOwn Hb7 Hs7 hr1 bd1 bd2 Hbc
                have hdl : (d ++ (JP.goesL (H.take i) O LV).map (fun n => way ++ [n])).length ≤ 40000000 := by
                  have h1 : (JP.goesL (H.take i) O LV).length ≤ 4000 := by
                    unfold JP.goesL
                    rw [List.length_map]
                    have h2 := List.length_filter_le (fun y => (JP.get y.1 LV).isSome && (JP.get y.1 O).isNone) (H.take i)
                    have h3 : (H.take i).length ≤ H.length := by rw [List.length_take]; omega
                    have := JP.lenF_length H; have := hHl.out; omega
                  rw [List.length_append, List.length_map]
                  have := HDl.out; omega
                have HCa := Lib.hid (HC.out (d ++ (JP.goesL (H.take i) O LV).map (fun n => way ++ [n])) T (way ++ [y.1]) v8 w8 (hI.out _ _ _ _ HI3.out Hb8.out) (HK3.out.grow Hb8.out).lt Hst8.out (by rw [way_sum]; have h8 : H[i]? = some (y.1, y.2) := Hy.out; have := JP.name_len h8; have := hHl.out; have := HWs.out; omega) (HB3.out.trans (Hb8.out.mono HB3.out.size)) hdl)
                clear hdl
                go_wp2_with fail
                refine HCa.out.mono ?_
                rintro E w9 ⟨rfl, T9, hi9, hk9, hb9⟩
                have HK9 := Lib.hid ((HK3.out.grow Hb8.out).trans hk9)
                have HOut9 := Lib.hid ((HOut3.out.keepJ (KeepT.of Hb8.out)).keJ hk9)
                have HB9 := Lib.hid hb9
                have HI9 := Lib.hid hi9
                have HWo := Lib.hid (without_any (x := y.1) HOut9.out HK9.out.lt (by omega))
                clear hi9 hk9 hb9 HCa
                go_wp2_with fail
                refine HWo.out.mono ?_
                rintro E wd ⟨qn, rfl, hon, hbn⟩
                have HOn : Hid (ObR (JvR M T9) T9 wd qn (JP.remF (H.take (i + 1)) O LV)) := Lib.hid (by rw [Hr2.out]; exact hon)
                have HIn : Hid (I (d ++ (JP.goesL (H.take (i + 1)) O LV).map (fun n => way ++ [n])) T9 wd) := Lib.hid (by rw [← Hg2.out]; exact hI.out _ _ _ _ HI9.out hbn)
                have HKn := Lib.hid (HK9.out.grow hbn)
                have HBn := Lib.hid (HB9.out.trans (hbn.mono HB9.out.size))
                clear hon hbn HWo
                go_wp2_with fail
                go_roundg k
                case measure => omega
                case rel => exact ⟨i + 1, qn, M, T9, by omega, by go_num, rfl, HOn, HIn, HKn, HBn⟩
              · have Hr2 : Hid (JP.remF (H.take (i + 1)) O LV = JP.remF (H.take i) O LV) := Lib.hid (by rw [Hrs.out, if_neg (fun e => hgo ⟨e.1, nb3 e.2⟩)])
                have Hg2 : Hid (JP.goesL (H.take (i + 1)) O LV = JP.goesL (H.take i) O LV) := Lib.hid (by rw [Hgs.out, if_neg (fun e => hgo ⟨e.1, nb3 e.2⟩), List.append_nil])
                have HOn : Hid (ObR (JvR M T) T w3 qo (JP.remF (H.take (i + 1)) O LV)) := Lib.hid (by rw [Hr2.out]; exact HOut3.out)
                have HIn : Hid (I (d ++ (JP.goesL (H.take (i + 1)) O LV).map (fun n => way ++ [n])) T w3) := Lib.hid (by rw [Hg2.out]; exact HI3.out)
                clear Hrs Hgs
                have hways := two3 hgo
                clear hgo
                rcases hways with rfl | ⟨rfl, rfl⟩
                · go_wp2_with fail
                  go_roundg k
                  case measure => omega
                  case rel => exact ⟨i + 1, qo, M, T, by omega, by go_num, rfl, HOn, HIn, HK3, HB3⟩
                · go_wp2_with fail
                  go_roundg k
                  case measure => omega
                  case rel => exact ⟨i + 1, qo, M, T, by omega, by go_num, rfl, HOn, HIn, HK3, HB3⟩
            | zero =>
              have hil : i = lh := by omega
              subst hil
              have q9 : ¬ (i : Int) < (i : Int) := by omega
              have htk : H.take i = H := List.take_of_length_le (by rw [Hlh.out]; exact Nat.le_refl _)
              rw [htk] at HOut HIr holen
              have HR0 := HOut
              have HIR := HIr
              obtain ⟨R, hR⟩ : ∃ R, JP.remF H O LV = R := ⟨_, rfl⟩
              obtain ⟨Gs, hGs⟩ : ∃ R, (JP.goesL H O LV).map (fun n => way ++ [n]) = R := ⟨_, rfl⟩
              rw [hR] at HR0
              rw [hGs] at HIR
              have HR := Lib.hid hR
              have HGs := Lib.hid hGs
              have hRs : JP.Srt R := by rw [← hR]; exact JP.srt_rem HsL.out
              have HRs := Lib.hid hRs
              have hRf : JP.Fld R := by rw [← hR]; exact ⟨JP.srt_rem HsL.out, JP.wfF_filter _ hLf.out⟩
              have HRf := Lib.hid hRf
              have hRl : JP.lenF R ≤ 4000 := by rw [← hR]; have := JP.rem_len H O LV; have := hLl.out; omega
              have HRl := Lib.hid hRl
              have cn2 : wr.cell? ⟨qq, 0, none⟩ = some (.slice ao ln co) := HK.out.keep.cell Hcno.out hqO
              clear htk hR hGs hRs hRf hRl HOut HIr holen
              go_wp2_with fail
              refine (names_any qq _ wr cn2).mono ?_
              rintro E wz ⟨rfl, rfl⟩
              clear cn2
              go_wp2_with fail
              go_loopg [94, 13] ln (fun k u94 u13 wr => ∃ (j qo M : Nat) (T : List Nat), j + k = ln ∧ u94 = .int .i64 (j : Int) ∧ u13 = .pointer (some ⟨qo, 0, none⟩) ∧ Hid (ObR (JvR M T) T wr qo (JP.into3F H R (O.take j))) ∧ Hid (I (d ++ Gs ++ (JP.lost3F H R (O.take j)).map (way ++ ·)) T wr) ∧ Hid (KE G T W wr) ∧ Hid (Below w0.heap.size w0 wr))
              case atStart => exact ⟨0, qo, M, T, by omega, rfl, rfl, Lib.hid (by rw [List.take_zero, JP.into3F_nil]; exact HR0.out), Lib.hid (by rw [List.take_zero, JP.lost3F_nil, List.map_nil, List.append_nil]; exact HIR.out), HK, HB⟩
              case round =>
                obtain ⟨j, qp, M2, T2, hjk, rfl, rfl, HP, HIs, HKs, HBs⟩ := hrel
                obtain ⟨hpf, hpl⟩ := JP.into3_fit.2.2 (O.take j) (wfF_take3 j hOf.out) H R HRf.out
                have hpl2 : JP.lenF (O.take j) ≤ JP.lenF O := lenF_take3 j O
                have hplen : (JP.into3F H R (O.take j)).length ≤ 100000 := by have := JP.lenF_length (JP.into3F H R (O.take j)); have := HRl.out; have := hOl.out; omega
                cases gk with
                | zero =>
                  have hjl : j = ln := by omega
                  subst hjl
                  have q8 : ¬ (j : Int) < (j : Int) := by omega
                  have htk : O.take j = O := List.take_of_length_le (by rw [Hln.out]; exact Nat.le_refl _)
                  rw [htk] at HP HIs
                  have Hfin : Hid (RR = .obj (JP.into3F H R O)) := Lib.hid (by rw [← HRR.out, HR.out])
                  have Hlost : Hid (d ++ Gs ++ (JP.lost3F H R O).map (way ++ ·) = LL) := Lib.hid (by rw [← HLL.out, HR.out, List.map_append, ← HGs.out, List.map_map, List.append_assoc]; rfl)
                  clear htk hpf hpl hpl2 hplen
                  go_wp2_with fail
                  go_ret
                  exact ⟨_, T2, rfl, ⟨M2 + 1, by rw [Hfin.out]; exact ⟨qp, rfl, HP.out⟩⟩, by rw [← Hlost.out]; exact HIs.out, HKs.out.before hWb.out, HBs.out⟩
                | succ k =>
                  have hil : j < ln := by omega
                  obtain ⟨y, hy⟩ : ∃ y, O[j]? = some y := ⟨O[j]'(by rw [Hln.out]; exact hil), List.getElem?_eq_getElem _⟩
                  obtain ⟨b1, o1, c', hv1, _, _, hbs1, hcell1⟩ := HrnO.out.form (by rw [List.length_map, Hln.out]; omega) (by omega)
                  injection hv1 with u1 u2 u3
                  subst u1
                  clear u2 u3
                  obtain ⟨ds1, _, hcc1, hR1⟩ := hcell1 j (mkB y.1) (by rw [List.getElem?_map, hy]; rfl)
                  obtain rfl : ds1 = [.string (mkB y.1)] := hR1
                  have e0 : wr.cell? ⟨b1, o1 + j, none⟩ = some (.string (mkB y.1)) := HKs.out.keep.cell (by simpa using hcc1 0 _ rfl) (HofO.out (by intro e; have := congrArg List.length e; rw [List.length_map, Hln.out] at this; simp at this; omega) b1 rfl)
                  have q1 : (0 : Int) ≤ (j : Int) := by omega
                  have q2 : (j : Int) < (ln : Int) := by omega
                  have Hy := Lib.hid hy
                  have hgO := JP.get_at3 HsO.out hy
                  have hlO := JP.lenF_at3 hy
                  have hnm : y.1.length + 1 + (JP.text y.2).length + 2 ≤ JP.lenF O := JP.name_len (show O[j]? = some (y.1, y.2) from hy)
                  have hwy := JP.wfF_at3 hOf.out hy
                  have htk := JP.into3F_take (had := H) (out := R) hy
                  have hlt := JP.lost3F_take (had := H) (out := R) hy
                  have hgt : JP.gto y.1 (JP.into3F H R (O.take j)) = JP.gto y.1 R := JP.gto_take HsO.out hy
                  have hln3 := (JP.lost_len).2.2 (O.take j) H R hHl.out
                  have HG1 := Lib.hid (get_g (x := y.1) (hhad.out.keJ HKs.out) (by rw [Hlh.out]; omega))
                  have hgs1 : JP.lenF (JP.into3F H R (O.take j)) ≤ 14000 := by have := HRl.out; have := hOl.out; omega
                  obtain ⟨P, hP⟩ : ∃ P, JP.into3F H R (O.take j) = P := ⟨_, rfl⟩
                  rw [hP] at HP htk hlt hgt hplen hgs1
                  have Hgt := Lib.hid hgt
                  have Htk := Lib.hid htk
                  have Hlt := Lib.hid hlt
                  have HlO := Lib.hid hlO
                  have Hnm := Lib.hid hnm
                  have Hwy := Lib.hid hwy
                  have Hln3 := Lib.hid hln3
                  have HgO := Lib.hid hgO
                  clear hcell1 hcc1 hy hgO hlO hnm hwy htk hlt hgt hln3 hpf hpl hpl2 hP hgs1 hbs1
                  go_wp2_with fail
                  refine HG1.out.mono ?_
                  rintro E w2 ⟨va, rfl, _, ⟨ka, hja⟩, hb2⟩
                  have HK2 := Lib.hid (HKs.out.grow hb2)
                  have HB2 := Lib.hid (HBs.out.trans (hb2.mono HBs.out.size))
                  have HI2 := Lib.hid (hI.out _ _ _ _ HIs.out hb2)
                  have HP2 := Lib.hid (HP.out.keepJ (KeepT.of hb2))
                  have HJa := Lib.hid hja
                  have HG2 := Lib.hid (get_g (x := y.1) HP2.out (by omega))
                  clear hb2 HG1 e0 hja
                  go_wp2_with fail
                  refine HG2.out.mono ?_
                  rintro E w3 ⟨vb, rfl, _, ⟨kb, hjb⟩, hb3⟩
                  have HK3 := Lib.hid (HK2.out.grow hb3)
                  have HB3 := Lib.hid (HB2.out.trans (hb3.mono HB2.out.size))
                  have HI3 := Lib.hid (hI.out _ _ _ _ HI2.out hb3)
                  have HP3 := Lib.hid (HP2.out.keepJ (KeepT.of hb3))
                  have HJa3 := Lib.hid (HJa.out.keepT (KeepT.of hb3))
                  have HJb := Lib.hid hjb
                  have HG3 := Lib.hid (get_g (x := y.1) (HO.out.keJ HK3.out) (by rw [Hln.out]; omega))
                  rw [HgO.out] at HG3
                  clear hb3 HG2 HK2 HB2 HI2 HP2 HJa hjb
                  go_wp2_with fail
                  refine HG3.out.mono ?_
                  rintro E w4 ⟨vw, rfl, hjw, _, hb4⟩
                  have HK4 := Lib.hid (HK3.out.grow hb4)
                  have HB4 := Lib.hid (HB3.out.trans (hb4.mono HB3.out.size))
                  have HI4 := Lib.hid (hI.out _ _ _ _ HI3.out hb4)
                  have HP4 := Lib.hid (HP3.out.keepJ (KeepT.of hb4))
                  have HJa4 := Lib.hid (HJa3.out.keepT (KeepT.of hb4))
                  have HJb4 := Lib.hid (HJb.out.keepT (KeepT.of hb4))
                  have HJw4 := Lib.hid (hjw y.2 rfl)
                  clear hb4 HG3 HK3 HB3 HI3 HP3 HJa3 HJb hjw
                  have HCl := Lib.hid (cloneStr_any sv _ w4 (str_raw3 (str_keepT HSv.out HOff.out (HK4.out).keep)) (by rw [List.length_map, List.length_map]; have := HWl.out; omega))
                  go_wp2_with fail
                  refine HCl.out.mono ?_
                  rintro E wc ⟨vc, rfl, hown, hbc⟩
                  have HOwn := Lib.hid hown
                  have Hbc := Lib.hid hbc
                  clear hown hbc HCl
                  have hb7 : Below wc.heap.size wc (wc.alloc (.cells #[.string (mkB y.1)] 9)) := (Below.refl _ wc).alloc (Nat.le_refl _) _
                  have HOwn7 := Lib.hid (HOwn.out.below stays_val hb7)
                  have Hb7 := Lib.hid (Hbc.out.trans (hb7.mono Hbc.out.size))
                  have Hs7 : Hid (w4.heap.size ≤ (wc.alloc (.cells #[.string (mkB y.1)] 9)).heap.size) := Lib.hid Hb7.out.size
                  have hr1 : RowAt RVal 1 (wc.alloc (.cells #[.string (mkB y.1)] 9)) (.slice (some ⟨wc.heap.size, 0, none⟩) 1 1) [Value.string (mkB y.1)] := RowAt.one (R := RVal) (x := Value.string (mkB y.1)) (heap_alloc_new wc _) rfl ⟨rfl, rfl⟩
                  have bd1 : ((way.map mkB).map Value.string).length + [Value.string (mkB y.1)].length ≤ maxLen := by unfold maxLen; rw [List.length_map, List.length_map]; simp only [List.length_cons, List.length_nil]; have := HWl.out; omega
                  have bd2 : (((way.map mkB).map Value.string).length + [Value.string (mkB y.1)].length) * 16 ≤ 140737488355328 := by rw [List.length_map, List.length_map]; simp only [List.length_cons, List.length_nil]; have := HWl.out; omega
                  clear hb7
                  go_wp2_with (at_builtin; refine wpList_append_ownAt (R := RVal) (k := 1) (e := 9) (B := w4.heap.size) (l := (way.map mkB).map .string) (m := [.string (mkB y.1)]) _ (by rfl) _ _ _ (by rfl) i0 _ 16 Tryz.underlying25 hi0 hz0 hz1 hz2 rfl (by omega) flat_val one_val _ (by rfl) HOwn7.out _ (by rfl) hr1 bd1 bd2 Hs7.out ?_)
                  intro v8 w8 hv8 hg8 hr8 _
                  have hb8 : Below w4.heap.size w4 w8 := Hb7.out.trans (below_of_grown (Below.refl _ _) Hs7.out hg8 hr8)
                  have hst8 : StrAt w8 v8 ((way ++ [y.1]).map mkB) := raw_str3 (by have h9 := hv8.row; rw [List.map_append, List.map_append]; simpa using h9)
                  have hoff8 : OffT T2 v8 ((way ++ [y.1]).map mkB) := off_own hv8 (HK4.out).lt
                  have Hb8 := Lib.hid hb8
                  have Hst8 := Lib.hid hst8
                  have Hoff8 := Lib.hid hoff8
                  clear hv8 hg8 hr8 hb8 hst8 hoff8 HOwn7 HOwn Hb7 Hs7 hr1 bd1 bd2 Hbc
                  have hIH := IH.out ka kb T2 va vb vw v8 (JP.gto y.1 H) (JP.gto y.1 P) y.2 (way ++ [y.1]) (d ++ Gs ++ (JP.lost3F H R (O.take j)).map (way ++ ·)) w8 (HJa4.out.keepT (KeepT.of Hb8.out)) (HJb4.out.keepT (KeepT.of Hb8.out)) (HJw4.out.keepT (KeepT.of Hb8.out))
                    (by rw [Hgt.out]; exact JP.wf_gto HRf.out.2) Hwy.out (by have := JP.gto_len y.1 H; have := hHl.out; omega) (by rw [Hgt.out]; have := JP.gto_len y.1 R; have := HRl.out; omega)
                    (by rw [way_sum]; have := Hnm.out; have := HWs.out; omega) Hst8.out Hoff8.out (hI.out _ _ _ _ HI4.out Hb8.out) (HK4.out.grow Hb8.out).lt (HB4.out.trans (Hb8.out.mono HB4.out.size))
                    (by
                      rw [List.length_append, List.length_append, List.length_map]
                      have h1 : Gs.length ≤ 4000 := by
                        rw [← HGs.out, List.length_map]
                        unfold JP.goesL
                        rw [List.length_map]
                        have h2 := List.length_filter_le (fun y => (JP.get y.1 LV).isSome && (JP.get y.1 O).isNone) H
                        have := JP.lenF_length H; have := hHl.out; omega
                      have := Hln3.out; have := HlO.out; have := HDl.out
                      omega)
                  have HIH := Lib.hid hIH
                  clear hIH
                  go_wp2_with fail
                  refine HIH.out.mono ?_
                  rintro E w9 ⟨u9, T9, rfl, ⟨k9, hj9⟩, hi9, hk9, hb9⟩
                  have HK9 := Lib.hid ((HK4.out.grow Hb8.out).trans hk9)
                  have HP9 := Lib.hid ((HP4.out.keepJ (KeepT.of Hb8.out)).keJ hk9)
                  have HWi := Lib.hid (with_any (x := y.1) (HP9.out.upsJ (Nat.le_max_left M2 k9)) (hj9.ups (Nat.le_max_right M2 k9)) HK9.out.lt (by omega))
                  have HI9 := Lib.hid hi9
                  have HB9 := Lib.hid hb9
                  clear hj9 hi9 hk9 hb9 HIH
                  go_wp2_with fail
                  refine HWi.out.mono ?_
                  rintro E wd ⟨qn, rfl, hon, hbn⟩
                  have HOn : Hid (ObR (JvR (max M2 k9) T9) T9 wd qn (JP.into3F H R (O.take (j + 1)))) := Lib.hid (by rw [Htk.out]; exact hon)
                  have HIn : Hid (I (d ++ Gs ++ (JP.lost3F H R (O.take (j + 1))).map (way ++ ·)) T9 wd) := Lib.hid (by
                    rw [Hlt.out, List.map_append, ← List.append_assoc, List.map_map]
                    have h9 := hI.out _ _ _ _ HI9.out hbn
                    have e9 : (JP.lost3 (JP.gto y.1 H) (JP.gto y.1 P) y.2).map (fun r => (way ++ [y.1]) ++ r) = (JP.lost3 (JP.gto y.1 H) (JP.gto y.1 P) y.2).map ((way ++ ·) ∘ (y.1 :: ·)) := List.map_congr_left fun r _ => by show way ++ [y.1] ++ r = way ++ (y.1 :: r); rw [List.append_assoc]; rfl
                    rw [← e9]
                    exact h9)
                  have HKn := Lib.hid (HK9.out.grow hbn)
                  have HBn := Lib.hid (HB9.out.trans (hbn.mono HB9.out.size))
                  clear hon hbn HWi
                  go_wp2_with fail
                  go_roundg k
                  case measure => omega
                  case rel => exact ⟨j + 1, qn, max M2 k9, T9, by omega, by go_num, rfl, HOn, HIn, HKn, HBn⟩
      · have hLn : LV = [] := hLe9.symm.trans hnB
        rcases hwayA with ⟨dA, qh, Mh, rfl, rfl, hdA⟩ | ⟨hnA, hnA2, GA⟩
        · have GA := (as_obj (.pointer (some ⟨qh, 0, none⟩))).2.2.2.2
          obtain rfl : H = dA := hHe9.symm
          obtain ⟨W, hW⟩ : ∃ W, W = w.alloc (.cells #[.slice none 0 0, .slice none 0 0] 95) := ⟨_, rfl⟩
          have hWb : Hid (Below w.heap.size w W) := Lib.hid (by rw [hW]; exact (Below.refl _ w).alloc (Nat.le_refl _) _)
          have hout : Hid (ObR (JvR 0 G) G W w.heap.size LV) := Lib.hid (by rw [hW, hLn]; exact empty_ob (heap_alloc_new w _) (fun hm => absurd (hGw.out _ hm) (Nat.lt_irrefl _)))
          have hhad : Hid (ObR (JvR Mh G) G W qh H) := Lib.hid (hdA.keepJ (KeepT.of hWb.out))
          have hobW : Hid (ObR (JvR n G) G W qq O) := Lib.hid (hob1.out.keepJ (KeepT.of hWb.out))
          clear hdA hnB hLn
          try clear hHe9
          try clear hLe9
          obtain ⟨qd, hqd⟩ : ∃ q, w.heap.size = q := ⟨_, rfl⟩
          rw [hqd] at hout
          go_enter Tryz.func27, Tryz.ntmps27
          go_upto_region 10 with fail
          rw [← hW]
          clear hW
          try rw [hqd]
          have HG : Hid (∀ b ∈ G, b < W.heap.size) := Lib.hid (fun b hb => Nat.lt_of_lt_of_le (hGw.out b hb) hWb.out.size)
          have HB0 := Lib.hid (hB0.out.trans (hWb.out.mono hB0.out.size))
          have HSv := Lib.hid (hsv.out.below hWb.out)
          have HO := Lib.hid (hobW.out)
          have HI0 := Lib.hid (hI.out _ _ _ _ hId.out hWb.out)
          obtain ⟨_, hsH, vnh, vvh, cnh, _, hrnh, hofh, _⟩ := hhad.out
          obtain ⟨_, hsO, vno, vvo, cno, _, hrno, hofo, _⟩ := hobW.out
          have HsH := Lib.hid hsH
          have HsO := Lib.hid hsO
          obtain ⟨ah, ch, eh, _⟩ := hrnh.len
          obtain ⟨ao, co, eo, _⟩ := hrno.len
          rw [List.length_map] at eh eo
          obtain ⟨lh, hlh⟩ : ∃ l, H.length = l := ⟨_, rfl⟩
          obtain ⟨ln, hln⟩ : ∃ l, O.length = l := ⟨_, rfl⟩
          rw [hlh] at eh
          rw [hln] at eo
          subst eh; subst eo
          have Hlh := Lib.hid hlh
          have Hln := Lib.hid hln
          have HrnH := Lib.hid hrnh
          have HofH := Lib.hid (show OffT G (.slice ah lh ch) (H.map fun x => mkB x.1) from fun hl => hofh fun e => hl (by rw [e]; rfl))
          have HrnO := Lib.hid hrno
          have HofO := Lib.hid (show OffT G (.slice ao ln co) (O.map fun x => mkB x.1) from fun hl => hofo fun e => hl (by rw [e]; rfl))
          have hlh9 : lh ≤ 100000 := by have := JP.lenF_length H; have := hHl.out; omega
          have hln9 : ln ≤ 100000 := by have := JP.lenF_length O; have := hOl.out; omega
          have Hcno := Lib.hid cno
          have Hcnh := Lib.hid cnh
          have hqO : qq ∉ G := hobW.out.1
          have hqH : qh ∉ G := hhad.out.1
          clear hsH hsO hrnh hofh hrno hofo hlh hln cno
          go_wp2_with fail
          refine (names_any qh _ W cnh).mono ?_
          rintro E wz ⟨rfl, rfl⟩
          clear cnh
          go_wp2_with fail
          go_loopg [59, 13] lh (fun k u59 u13 wr => ∃ (i qo M : Nat) (T : List Nat), i + k = lh ∧ u59 = .int .i64 (i : Int) ∧ u13 = .pointer (some ⟨qo, 0, none⟩) ∧ Hid (ObR (JvR M T) T wr qo (JP.remF (H.take i) O LV)) ∧ Hid (I (d ++ (JP.goesL (H.take i) O LV).map (fun n => way ++ [n])) T wr) ∧ Hid (KE G T W wr) ∧ Hid (Below w0.heap.size w0 wr))
          case atStart => exact ⟨0, qd, 0, G, by omega, rfl, rfl, Lib.hid (by rw [JP.rem_zero]; exact hout.out), Lib.hid (by rw [List.take_zero]; show I (d ++ []) G W; rw [List.append_nil]; exact HI0.out), Lib.hid (KE.refl HG.out), HB0⟩
          case round =>
            obtain ⟨i, qo, M, T, hik, rfl, rfl, HOut, HIr, HK, HB⟩ := hrel
            have holen : (JP.remF (H.take i) O LV).length ≤ 100000 := by have := JP.lenF_length (JP.remF (H.take i) O LV); have := JP.rem_len (H.take i) O LV; have := hLl.out; omega
            cases gk with
            | succ k =>
              have hil : i < lh := by omega
              obtain ⟨y, hy⟩ : ∃ y, H[i]? = some y := ⟨H[i]'(by rw [Hlh.out]; exact hil), List.getElem?_eq_getElem _⟩
              obtain ⟨b1, o1, c', hv1, _, _, hbs1, hcell1⟩ := HrnH.out.form (by rw [List.length_map, Hlh.out]; omega) (by omega)
              injection hv1 with u1 u2 u3
              subst u1
              clear u2 u3
              obtain ⟨ds1, _, hcc1, hR1⟩ := hcell1 i (mkB y.1) (by rw [List.getElem?_map, hy]; rfl)
              obtain rfl : ds1 = [.string (mkB y.1)] := hR1
              have e0 : wr.cell? ⟨b1, o1 + i, none⟩ = some (.string (mkB y.1)) := HK.out.keep.cell (by simpa using hcc1 0 _ rfl) (HofH.out (by intro e; have := congrArg List.length e; rw [List.length_map, Hlh.out] at this; simp at this; omega) b1 rfl)
              have q1 : (0 : Int) ≤ (i : Int) := by omega
              have q2 : (i : Int) < (lh : Int) := by omega
              have Hy := Lib.hid hy
              have HG1 := Lib.hid (get_g (x := y.1) (HO.out.keJ HK.out) (by rw [Hln.out]; omega))
              have hgt := JP.get_rem_take (o := O) (out := LV) HsH.out hy
              have hrs := JP.rem_step (o := O) HsH.out HsL.out hy
              have hgs := JP.goes_step (o := O) (out := LV) hy
              have Hgs := Lib.hid hgs
              have Hrs := Lib.hid hrs
              obtain ⟨bw, hbw⟩ : ∃ b, (JP.get y.1 O).isSome = b := ⟨_, rfl⟩
              obtain ⟨bi, hbi⟩ : ∃ b, (JP.get y.1 LV).isSome = b := ⟨_, rfl⟩
              have hbn : (JP.get y.1 O).isNone = !bw := by rw [← hbw]; cases JP.get y.1 O <;> rfl
              rw [hbw] at HG1
              rw [hbi, hbn] at Hrs Hgs
              clear hcell1 hcc1 hy hrs hgs
              go_wp2_with fail
              refine HG1.out.mono ?_
              rintro E w2 ⟨vg, rfl, _, _, hb2⟩
              have HK2 := Lib.hid (HK.out.grow hb2)
              have HB2 := Lib.hid (HB.out.trans (hb2.mono HB.out.size))
              have HI2 := Lib.hid (hI.out _ _ _ _ HIr.out hb2)
              have HOut2 := Lib.hid (HOut.out.keepJ (KeepT.of hb2))
              have HG2 := Lib.hid (get_g (x := y.1) HOut2.out (by omega))
              rw [hgt, hbi] at HG2
              clear hb2 HG1 e0 hgt hbw hbi hbn
              go_wp2_with fail
              refine HG2.out.mono ?_
              rintro E w3 ⟨vg2, rfl, _, _, hb3⟩
              have HK3 := Lib.hid (HK2.out.grow hb3)
              have HB3 := Lib.hid (HB2.out.trans (hb3.mono HB2.out.size))
              have HI3 := Lib.hid (hI.out _ _ _ _ HI2.out hb3)
              have HOut3 := Lib.hid (HOut2.out.keepJ (KeepT.of hb3))
              clear hb3 HG2 HK2 HB2 HI2 HOut2
              by_cases hgo : bi = true ∧ bw = false
              · obtain ⟨rfl, rfl⟩ := hgo
                have Hr2 : Hid (JP.remF (H.take (i + 1)) O LV = JP.cut y.1 (JP.remF (H.take i) O LV)) := Lib.hid (by rw [Hrs.out, if_pos ⟨rfl, rfl⟩])
                have Hg2 : Hid ((d ++ (JP.goesL (H.take i) O LV).map (fun n => way ++ [n])) ++ [way ++ [y.1]] = d ++ (JP.goesL (H.take (i + 1)) O LV).map (fun n => way ++ [n])) := Lib.hid (by rw [Hgs.out, if_pos ⟨rfl, rfl⟩, List.map_append, List.append_assoc]; rfl)
                clear Hrs Hgs
                have HCl := Lib.hid (cloneStr_any sv _ w3 (str_raw3 (str_keepT HSv.out HOff.out (HK3.out).keep)) (by rw [List.length_map, List.length_map]; have := HWl.out; omega))
                go_wp2_with fail
                refine HCl.out.mono ?_
                rintro E wc ⟨vc, rfl, hown, hbc⟩
                have HOwn := Lib.hid hown
                have Hbc := Lib.hid hbc
                clear hown hbc HCl
                have hb7 : Below wc.heap.size wc (wc.alloc (.cells #[.string (mkB y.1)] 9)) := (Below.refl _ wc).alloc (Nat.le_refl _) _
                have HOwn7 := Lib.hid (HOwn.out.below stays_val hb7)
                have Hb7 := Lib.hid (Hbc.out.trans (hb7.mono Hbc.out.size))
                have Hs7 : Hid (w3.heap.size ≤ (wc.alloc (.cells #[.string (mkB y.1)] 9)).heap.size) := Lib.hid Hb7.out.size
                have hr1 : RowAt RVal 1 (wc.alloc (.cells #[.string (mkB y.1)] 9)) (.slice (some ⟨wc.heap.size, 0, none⟩) 1 1) [Value.string (mkB y.1)] := RowAt.one (R := RVal) (x := Value.string (mkB y.1)) (heap_alloc_new wc _) rfl ⟨rfl, rfl⟩
                have bd1 : ((way.map mkB).map Value.string).length + [Value.string (mkB y.1)].length ≤ maxLen := by unfold maxLen; rw [List.length_map, List.length_map]; simp only [List.length_cons, List.length_nil]; have := HWl.out; omega
                have bd2 : (((way.map mkB).map Value.string).length + [Value.string (mkB y.1)].length) * 16 ≤ 140737488355328 := by rw [List.length_map, List.length_map]; simp only [List.length_cons, List.length_nil]; have := HWl.out; omega
                clear hb7
                go_wp2_with (at_builtin; refine wpList_append_ownAt (R := RVal) (k := 1) (e := 9) (B := w3.heap.size) (l := (way.map mkB).map .string) (m := [.string (mkB y.1)]) _ (by rfl) _ _ _ (by rfl) i0 _ 16 Tryz.underlying25 hi0 hz0 hz1 hz2 rfl (by omega) flat_val one_val _ (by rfl) HOwn7.out _ (by rfl) hr1 bd1 bd2 Hs7.out ?_)
                intro v8 w8 hv8 hg8 hr8 _
                have hb8 : Below w3.heap.size w3 w8 := Hb7.out.trans (below_of_grown (Below.refl _ _) Hs7.out hg8 hr8)
                have hst8 : StrAt w8 v8 ((way ++ [y.1]).map mkB) := raw_str3 (by have h9 := hv8.row; rw [List.map_append, List.map_append]; simpa using h9)
                have hoff8 : OffT T v8 ((way ++ [y.1]).map mkB) := off_own hv8 (HK3.out).lt
                have Hb8 := Lib.hid hb8
                have Hst8 := Lib.hid hst8
                have Hoff8 := Lib.hid hoff8
                clear hv8 hg8 hr8 hb8 hst8 hoff8 HOwn7 HOwn Hb7 Hs7 hr1 bd1 bd2 Hbc
                have hdl : (d ++ (JP.goesL (H.take i) O LV).map (fun n => way ++ [n])).length ≤ 40000000 := by
                  have h1 : (JP.goesL (H.take i) O LV).length ≤ 4000 := by
                    unfold JP.goesL
                    rw [List.length_map]
                    have h2 := List.length_filter_le (fun y => (JP.get y.1 LV).isSome && (JP.get y.1 O).isNone) (H.take i)
                    have h3 : (H.take i).length ≤ H.length := by rw [List.length_take]; omega
                    have := JP.lenF_length H; have := hHl.out; omega
                  rw [List.length_append, List.length_map]
                  have := HDl.out; omega
                have HCa := Lib.hid (HC.out (d ++ (JP.goesL (H.take i) O LV).map (fun n => way ++ [n])) T (way ++ [y.1]) v8 w8 (hI.out _ _ _ _ HI3.out Hb8.out) (HK3.out.grow Hb8.out).lt Hst8.out (by rw [way_sum]; have h8 : H[i]? = some (y.1, y.2) := Hy.out; have := JP.name_len h8; have := hHl.out; have := HWs.out; omega) (HB3.out.trans (Hb8.out.mono HB3.out.size)) hdl)
                clear hdl
                go_wp2_with fail
                refine HCa.out.mono ?_
                rintro E w9 ⟨rfl, T9, hi9, hk9, hb9⟩
                have HK9 := Lib.hid ((HK3.out.grow Hb8.out).trans hk9)
                have HOut9 := Lib.hid ((HOut3.out.keepJ (KeepT.of Hb8.out)).keJ hk9)
                have HB9 := Lib.hid hb9
                have HI9 := Lib.hid hi9
                have HWo := Lib.hid (without_any (x := y.1) HOut9.out HK9.out.lt (by omega))
                clear hi9 hk9 hb9 HCa
                go_wp2_with fail
                refine HWo.out.mono ?_
                rintro E wd ⟨qn, rfl, hon, hbn⟩
                have HOn : Hid (ObR (JvR M T9) T9 wd qn (JP.remF (H.take (i + 1)) O LV)) := Lib.hid (by rw [Hr2.out]; exact hon)
                have HIn : Hid (I (d ++ (JP.goesL (H.take (i + 1)) O LV).map (fun n => way ++ [n])) T9 wd) := Lib.hid (by rw [← Hg2.out]; exact hI.out _ _ _ _ HI9.out hbn)
                have HKn := Lib.hid (HK9.out.grow hbn)
                have HBn := Lib.hid (HB9.out.trans (hbn.mono HB9.out.size))
                clear hon hbn HWo
                go_wp2_with fail
                go_roundg k
                case measure => omega
                case rel => exact ⟨i + 1, qn, M, T9, by omega, by go_num, rfl, HOn, HIn, HKn, HBn⟩
              · have Hr2 : Hid (JP.remF (H.take (i + 1)) O LV = JP.remF (H.take i) O LV) := Lib.hid (by rw [Hrs.out, if_neg (fun e => hgo ⟨e.1, nb3 e.2⟩)])
                have Hg2 : Hid (JP.goesL (H.take (i + 1)) O LV = JP.goesL (H.take i) O LV) := Lib.hid (by rw [Hgs.out, if_neg (fun e => hgo ⟨e.1, nb3 e.2⟩), List.append_nil])
                have HOn : Hid (ObR (JvR M T) T w3 qo (JP.remF (H.take (i + 1)) O LV)) := Lib.hid (by rw [Hr2.out]; exact HOut3.out)
                have HIn : Hid (I (d ++ (JP.goesL (H.take (i + 1)) O LV).map (fun n => way ++ [n])) T w3) := Lib.hid (by rw [Hg2.out]; exact HI3.out)
                clear Hrs Hgs
                have hways := two3 hgo
                clear hgo
                rcases hways with rfl | ⟨rfl, rfl⟩
                · go_wp2_with fail
                  go_roundg k
                  case measure => omega
                  case rel => exact ⟨i + 1, qo, M, T, by omega, by go_num, rfl, HOn, HIn, HK3, HB3⟩
                · go_wp2_with fail
                  go_roundg k
                  case measure => omega
                  case rel => exact ⟨i + 1, qo, M, T, by omega, by go_num, rfl, HOn, HIn, HK3, HB3⟩
            | zero =>
              have hil : i = lh := by omega
              subst hil
              have q9 : ¬ (i : Int) < (i : Int) := by omega
              have htk : H.take i = H := List.take_of_length_le (by rw [Hlh.out]; exact Nat.le_refl _)
              rw [htk] at HOut HIr holen
              have HR0 := HOut
              have HIR := HIr
              obtain ⟨R, hR⟩ : ∃ R, JP.remF H O LV = R := ⟨_, rfl⟩
              obtain ⟨Gs, hGs⟩ : ∃ R, (JP.goesL H O LV).map (fun n => way ++ [n]) = R := ⟨_, rfl⟩
              rw [hR] at HR0
              rw [hGs] at HIR
              have HR := Lib.hid hR
              have HGs := Lib.hid hGs
              have hRs : JP.Srt R := by rw [← hR]; exact JP.srt_rem HsL.out
              have HRs := Lib.hid hRs
              have hRf : JP.Fld R := by rw [← hR]; exact ⟨JP.srt_rem HsL.out, JP.wfF_filter _ hLf.out⟩
              have HRf := Lib.hid hRf
              have hRl : JP.lenF R ≤ 4000 := by rw [← hR]; have := JP.rem_len H O LV; have := hLl.out; omega
              have HRl := Lib.hid hRl
              have cn2 : wr.cell? ⟨qq, 0, none⟩ = some (.slice ao ln co) := HK.out.keep.cell Hcno.out hqO
              clear htk hR hGs hRs hRf hRl HOut HIr holen
              go_wp2_with fail
              refine (names_any qq _ wr cn2).mono ?_
              rintro E wz ⟨rfl, rfl⟩
              clear cn2
              go_wp2_with fail
              go_loopg [94, 13] ln (fun k u94 u13 wr => ∃ (j qo M : Nat) (T : List Nat), j + k = ln ∧ u94 = .int .i64 (j : Int) ∧ u13 = .pointer (some ⟨qo, 0, none⟩) ∧ Hid (ObR (JvR M T) T wr qo (JP.into3F H R (O.take j))) ∧ Hid (I (d ++ Gs ++ (JP.lost3F H R (O.take j)).map (way ++ ·)) T wr) ∧ Hid (KE G T W wr) ∧ Hid (Below w0.heap.size w0 wr))
              case atStart => exact ⟨0, qo, M, T, by omega, rfl, rfl, Lib.hid (by rw [List.take_zero, JP.into3F_nil]; exact HR0.out), Lib.hid (by rw [List.take_zero, JP.lost3F_nil, List.map_nil, List.append_nil]; exact HIR.out), HK, HB⟩
              case round =>
                obtain ⟨j, qp, M2, T2, hjk, rfl, rfl, HP, HIs, HKs, HBs⟩ := hrel
                obtain ⟨hpf, hpl⟩ := JP.into3_fit.2.2 (O.take j) (wfF_take3 j hOf.out) H R HRf.out
                have hpl2 : JP.lenF (O.take j) ≤ JP.lenF O := lenF_take3 j O
                have hplen : (JP.into3F H R (O.take j)).length ≤ 100000 := by have := JP.lenF_length (JP.into3F H R (O.take j)); have := HRl.out; have := hOl.out; omega
                cases gk with
                | zero =>
                  have hjl : j = ln := by omega
                  subst hjl
                  have q8 : ¬ (j : Int) < (j : Int) := by omega
                  have htk : O.take j = O := List.take_of_length_le (by rw [Hln.out]; exact Nat.le_refl _)
                  rw [htk] at HP HIs
                  have Hfin : Hid (RR = .obj (JP.into3F H R O)) := Lib.hid (by rw [← HRR.out, HR.out])
                  have Hlost : Hid (d ++ Gs ++ (JP.lost3F H R O).map (way ++ ·) = LL) := Lib.hid (by rw [← HLL.out, HR.out, List.map_append, ← HGs.out, List.map_map, List.append_assoc]; rfl)
                  clear htk hpf hpl hpl2 hplen
                  go_wp2_with fail
                  go_ret
                  exact ⟨_, T2, rfl, ⟨M2 + 1, by rw [Hfin.out]; exact ⟨qp, rfl, HP.out⟩⟩, by rw [← Hlost.out]; exact HIs.out, HKs.out.before hWb.out, HBs.out⟩
                | succ k =>
                  have hil : j < ln := by omega
                  obtain ⟨y, hy⟩ : ∃ y, O[j]? = some y := ⟨O[j]'(by rw [Hln.out]; exact hil), List.getElem?_eq_getElem _⟩
                  obtain ⟨b1, o1, c', hv1, _, _, hbs1, hcell1⟩ := HrnO.out.form (by rw [List.length_map, Hln.out]; omega) (by omega)
                  injection hv1 with u1 u2 u3
                  subst u1
                  clear u2 u3
                  obtain ⟨ds1, _, hcc1, hR1⟩ := hcell1 j (mkB y.1) (by rw [List.getElem?_map, hy]; rfl)
                  obtain rfl : ds1 = [.string (mkB y.1)] := hR1
                  have e0 : wr.cell? ⟨b1, o1 + j, none⟩ = some (.string (mkB y.1)) := HKs.out.keep.cell (by simpa using hcc1 0 _ rfl) (HofO.out (by intro e; have := congrArg List.length e; rw [List.length_map, Hln.out] at this; simp at this; omega) b1 rfl)
                  have q1 : (0 : Int) ≤ (j : Int) := by omega
                  have q2 : (j : Int) < (ln : Int) := by omega
                  have Hy := Lib.hid hy
                  have hgO := JP.get_at3 HsO.out hy
                  have hlO := JP.lenF_at3 hy
                  have hnm : y.1.length + 1 + (JP.text y.2).length + 2 ≤ JP.lenF O := JP.name_len (show O[j]? = some (y.1, y.2) from hy)
                  have hwy := JP.wfF_at3 hOf.out hy
                  have htk := JP.into3F_take (had := H) (out := R) hy
                  have hlt := JP.lost3F_take (had := H) (out := R) hy
                  have hgt : JP.gto y.1 (JP.into3F H R (O.take j)) = JP.gto y.1 R := JP.gto_take HsO.out hy
                  have hln3 := (JP.lost_len).2.2 (O.take j) H R hHl.out
                  have HG1 := Lib.hid (get_g (x := y.1) (hhad.out.keJ HKs.out) (by rw [Hlh.out]; omega))
                  have hgs1 : JP.lenF (JP.into3F H R (O.take j)) ≤ 14000 := by have := HRl.out; have := hOl.out; omega
                  obtain ⟨P, hP⟩ : ∃ P, JP.into3F H R (O.take j) = P := ⟨_, rfl⟩
                  rw [hP] at HP htk hlt hgt hplen hgs1
                  have Hgt := Lib.hid hgt
                  have Htk := Lib.hid htk
                  have Hlt := Lib.hid hlt
                  have HlO := Lib.hid hlO
                  have Hnm := Lib.hid hnm
                  have Hwy := Lib.hid hwy
                  have Hln3 := Lib.hid hln3
                  have HgO := Lib.hid hgO
                  clear hcell1 hcc1 hy hgO hlO hnm hwy htk hlt hgt hln3 hpf hpl hpl2 hP hgs1 hbs1
                  go_wp2_with fail
                  refine HG1.out.mono ?_
                  rintro E w2 ⟨va, rfl, _, ⟨ka, hja⟩, hb2⟩
                  have HK2 := Lib.hid (HKs.out.grow hb2)
                  have HB2 := Lib.hid (HBs.out.trans (hb2.mono HBs.out.size))
                  have HI2 := Lib.hid (hI.out _ _ _ _ HIs.out hb2)
                  have HP2 := Lib.hid (HP.out.keepJ (KeepT.of hb2))
                  have HJa := Lib.hid hja
                  have HG2 := Lib.hid (get_g (x := y.1) HP2.out (by omega))
                  clear hb2 HG1 e0 hja
                  go_wp2_with fail
                  refine HG2.out.mono ?_
                  rintro E w3 ⟨vb, rfl, _, ⟨kb, hjb⟩, hb3⟩
                  have HK3 := Lib.hid (HK2.out.grow hb3)
                  have HB3 := Lib.hid (HB2.out.trans (hb3.mono HB2.out.size))
                  have HI3 := Lib.hid (hI.out _ _ _ _ HI2.out hb3)
                  have HP3 := Lib.hid (HP2.out.keepJ (KeepT.of hb3))
                  have HJa3 := Lib.hid (HJa.out.keepT (KeepT.of hb3))
                  have HJb := Lib.hid hjb
                  have HG3 := Lib.hid (get_g (x := y.1) (HO.out.keJ HK3.out) (by rw [Hln.out]; omega))
                  rw [HgO.out] at HG3
                  clear hb3 HG2 HK2 HB2 HI2 HP2 HJa hjb
                  go_wp2_with fail
                  refine HG3.out.mono ?_
                  rintro E w4 ⟨vw, rfl, hjw, _, hb4⟩
                  have HK4 := Lib.hid (HK3.out.grow hb4)
                  have HB4 := Lib.hid (HB3.out.trans (hb4.mono HB3.out.size))
                  have HI4 := Lib.hid (hI.out _ _ _ _ HI3.out hb4)
                  have HP4 := Lib.hid (HP3.out.keepJ (KeepT.of hb4))
                  have HJa4 := Lib.hid (HJa3.out.keepT (KeepT.of hb4))
                  have HJb4 := Lib.hid (HJb.out.keepT (KeepT.of hb4))
                  have HJw4 := Lib.hid (hjw y.2 rfl)
                  clear hb4 HG3 HK3 HB3 HI3 HP3 HJa3 HJb hjw
                  have HCl := Lib.hid (cloneStr_any sv _ w4 (str_raw3 (str_keepT HSv.out HOff.out (HK4.out).keep)) (by rw [List.length_map, List.length_map]; have := HWl.out; omega))
                  go_wp2_with fail
                  refine HCl.out.mono ?_
                  rintro E wc ⟨vc, rfl, hown, hbc⟩
                  have HOwn := Lib.hid hown
                  have Hbc := Lib.hid hbc
                  clear hown hbc HCl
                  have hb7 : Below wc.heap.size wc (wc.alloc (.cells #[.string (mkB y.1)] 9)) := (Below.refl _ wc).alloc (Nat.le_refl _) _
                  have HOwn7 := Lib.hid (HOwn.out.below stays_val hb7)
                  have Hb7 := Lib.hid (Hbc.out.trans (hb7.mono Hbc.out.size))
                  have Hs7 : Hid (w4.heap.size ≤ (wc.alloc (.cells #[.string (mkB y.1)] 9)).heap.size) := Lib.hid Hb7.out.size
                  have hr1 : RowAt RVal 1 (wc.alloc (.cells #[.string (mkB y.1)] 9)) (.slice (some ⟨wc.heap.size, 0, none⟩) 1 1) [Value.string (mkB y.1)] := RowAt.one (R := RVal) (x := Value.string (mkB y.1)) (heap_alloc_new wc _) rfl ⟨rfl, rfl⟩
                  have bd1 : ((way.map mkB).map Value.string).length + [Value.string (mkB y.1)].length ≤ maxLen := by unfold maxLen; rw [List.length_map, List.length_map]; simp only [List.length_cons, List.length_nil]; have := HWl.out; omega
                  have bd2 : (((way.map mkB).map Value.string).length + [Value.string (mkB y.1)].length) * 16 ≤ 140737488355328 := by rw [List.length_map, List.length_map]; simp only [List.length_cons, List.length_nil]; have := HWl.out; omega
                  clear hb7
                  go_wp2_with (at_builtin; refine wpList_append_ownAt (R := RVal) (k := 1) (e := 9) (B := w4.heap.size) (l := (way.map mkB).map .string) (m := [.string (mkB y.1)]) _ (by rfl) _ _ _ (by rfl) i0 _ 16 Tryz.underlying25 hi0 hz0 hz1 hz2 rfl (by omega) flat_val one_val _ (by rfl) HOwn7.out _ (by rfl) hr1 bd1 bd2 Hs7.out ?_)
                  intro v8 w8 hv8 hg8 hr8 _
                  have hb8 : Below w4.heap.size w4 w8 := Hb7.out.trans (below_of_grown (Below.refl _ _) Hs7.out hg8 hr8)
                  have hst8 : StrAt w8 v8 ((way ++ [y.1]).map mkB) := raw_str3 (by have h9 := hv8.row; rw [List.map_append, List.map_append]; simpa using h9)
                  have hoff8 : OffT T2 v8 ((way ++ [y.1]).map mkB) := off_own hv8 (HK4.out).lt
                  have Hb8 := Lib.hid hb8
                  have Hst8 := Lib.hid hst8
                  have Hoff8 := Lib.hid hoff8
                  clear hv8 hg8 hr8 hb8 hst8 hoff8 HOwn7 HOwn Hb7 Hs7 hr1 bd1 bd2 Hbc
                  have hIH := IH.out ka kb T2 va vb vw v8 (JP.gto y.1 H) (JP.gto y.1 P) y.2 (way ++ [y.1]) (d ++ Gs ++ (JP.lost3F H R (O.take j)).map (way ++ ·)) w8 (HJa4.out.keepT (KeepT.of Hb8.out)) (HJb4.out.keepT (KeepT.of Hb8.out)) (HJw4.out.keepT (KeepT.of Hb8.out))
                    (by rw [Hgt.out]; exact JP.wf_gto HRf.out.2) Hwy.out (by have := JP.gto_len y.1 H; have := hHl.out; omega) (by rw [Hgt.out]; have := JP.gto_len y.1 R; have := HRl.out; omega)
                    (by rw [way_sum]; have := Hnm.out; have := HWs.out; omega) Hst8.out Hoff8.out (hI.out _ _ _ _ HI4.out Hb8.out) (HK4.out.grow Hb8.out).lt (HB4.out.trans (Hb8.out.mono HB4.out.size))
                    (by
                      rw [List.length_append, List.length_append, List.length_map]
                      have h1 : Gs.length ≤ 4000 := by
                        rw [← HGs.out, List.length_map]
                        unfold JP.goesL
                        rw [List.length_map]
                        have h2 := List.length_filter_le (fun y => (JP.get y.1 LV).isSome && (JP.get y.1 O).isNone) H
                        have := JP.lenF_length H; have := hHl.out; omega
                      have := Hln3.out; have := HlO.out; have := HDl.out
                      omega)
                  have HIH := Lib.hid hIH
                  clear hIH
                  go_wp2_with fail
                  refine HIH.out.mono ?_
                  rintro E w9 ⟨u9, T9, rfl, ⟨k9, hj9⟩, hi9, hk9, hb9⟩
                  have HK9 := Lib.hid ((HK4.out.grow Hb8.out).trans hk9)
                  have HP9 := Lib.hid ((HP4.out.keepJ (KeepT.of Hb8.out)).keJ hk9)
                  have HWi := Lib.hid (with_any (x := y.1) (HP9.out.upsJ (Nat.le_max_left M2 k9)) (hj9.ups (Nat.le_max_right M2 k9)) HK9.out.lt (by omega))
                  have HI9 := Lib.hid hi9
                  have HB9 := Lib.hid hb9
                  clear hj9 hi9 hk9 hb9 HIH
                  go_wp2_with fail
                  refine HWi.out.mono ?_
                  rintro E wd ⟨qn, rfl, hon, hbn⟩
                  have HOn : Hid (ObR (JvR (max M2 k9) T9) T9 wd qn (JP.into3F H R (O.take (j + 1)))) := Lib.hid (by rw [Htk.out]; exact hon)
                  have HIn : Hid (I (d ++ Gs ++ (JP.lost3F H R (O.take (j + 1))).map (way ++ ·)) T9 wd) := Lib.hid (by
                    rw [Hlt.out, List.map_append, ← List.append_assoc, List.map_map]
                    have h9 := hI.out _ _ _ _ HI9.out hbn
                    have e9 : (JP.lost3 (JP.gto y.1 H) (JP.gto y.1 P) y.2).map (fun r => (way ++ [y.1]) ++ r) = (JP.lost3 (JP.gto y.1 H) (JP.gto y.1 P) y.2).map ((way ++ ·) ∘ (y.1 :: ·)) := List.map_congr_left fun r _ => by show way ++ [y.1] ++ r = way ++ (y.1 :: r); rw [List.append_assoc]; rfl
                    rw [← e9]
                    exact h9)
                  have HKn := Lib.hid (HK9.out.grow hbn)
                  have HBn := Lib.hid (HB9.out.trans (hbn.mono HB9.out.size))
                  clear hon hbn HWi
                  go_wp2_with fail
                  go_roundg k
                  case measure => omega
                  case rel => exact ⟨j + 1, qn, max M2 k9, T9, by omega, by go_num, rfl, HOn, HIn, HKn, HBn⟩
        · have hHn : H = [] := hHe9.symm.trans hnA
          obtain ⟨W1, hW1⟩ : ∃ W, W = w.alloc (.cells #[.slice none 0 0, .slice none 0 0] 95) := ⟨_, rfl⟩
          obtain ⟨W, hW⟩ : ∃ W, W = W1.alloc (.cells #[.slice none 0 0, .slice none 0 0] 95) := ⟨_, rfl⟩
          have hW1b : Below w.heap.size w W1 := by rw [hW1]; exact (Below.refl _ w).alloc (Nat.le_refl _) _
          have hW2b : Below W1.heap.size W1 W := by rw [hW]; exact (Below.refl _ W1).alloc (Nat.le_refl _) _
          have hWb : Hid (Below w.heap.size w W) := Lib.hid (hW1b.trans (hW2b.mono hW1b.size))
          have hout : Hid (ObR (JvR 0 G) G W w.heap.size LV) := Lib.hid ((show ObR (JvR 0 G) G W1 w.heap.size LV by rw [hW1, hLn]; exact empty_ob (heap_alloc_new w _) (fun hm => absurd (hGw.out _ hm) (Nat.lt_irrefl _))).keepJ (KeepT.of hW2b))
          have hhad : Hid (ObR (JvR 0 G) G W W1.heap.size H) := Lib.hid (by rw [hW, hHn]; exact empty_ob (heap_alloc_new W1 _) (fun hm => absurd (Nat.lt_of_lt_of_le (hGw.out _ hm) hW1b.size) (Nat.lt_irrefl _)))
          have hobW : Hid (ObR (JvR n G) G W qq O) := Lib.hid (hob1.out.keepJ (KeepT.of hWb.out))
          have hs1 : W1.heap.size = w.heap.size + 1 := by rw [hW1]; exact World.size_alloc _ _
          rw [hW1] at hW
          clear hnA hnB hW1b hW2b hHn hLn
          try clear hHe9
          try clear hLe9
          obtain ⟨qd, hqd⟩ : ∃ q, w.heap.size = q := ⟨_, rfl⟩
          rw [hs1, hqd] at hhad
          rw [hqd] at hout
          clear hW1 hs1
          go_enter Tryz.func27, Tryz.ntmps27
          go_upto_region 10 with fail
          rw [← hW]
          clear hW
          try rw [hqd]
          have HG : Hid (∀ b ∈ G, b < W.heap.size) := Lib.hid (fun b hb => Nat.lt_of_lt_of_le (hGw.out b hb) hWb.out.size)
          have HB0 := Lib.hid (hB0.out.trans (hWb.out.mono hB0.out.size))
          have HSv := Lib.hid (hsv.out.below hWb.out)
          have HO := Lib.hid (hobW.out)
          have HI0 := Lib.hid (hI.out _ _ _ _ hId.out hWb.out)
          obtain ⟨_, hsH, vnh, vvh, cnh, _, hrnh, hofh, _⟩ := hhad.out
          obtain ⟨_, hsO, vno, vvo, cno, _, hrno, hofo, _⟩ := hobW.out
          have HsH := Lib.hid hsH
          have HsO := Lib.hid hsO
          obtain ⟨ah, ch, eh, _⟩ := hrnh.len
          obtain ⟨ao, co, eo, _⟩ := hrno.len
          rw [List.length_map] at eh eo
          obtain ⟨lh, hlh⟩ : ∃ l, H.length = l := ⟨_, rfl⟩
          obtain ⟨ln, hln⟩ : ∃ l, O.length = l := ⟨_, rfl⟩
          rw [hlh] at eh
          rw [hln] at eo
          subst eh; subst eo
          have Hlh := Lib.hid hlh
          have Hln := Lib.hid hln
          have HrnH := Lib.hid hrnh
          have HofH := Lib.hid (show OffT G (.slice ah lh ch) (H.map fun x => mkB x.1) from fun hl => hofh fun e => hl (by rw [e]; rfl))
          have HrnO := Lib.hid hrno
          have HofO := Lib.hid (show OffT G (.slice ao ln co) (O.map fun x => mkB x.1) from fun hl => hofo fun e => hl (by rw [e]; rfl))
          have hlh9 : lh ≤ 100000 := by have := JP.lenF_length H; have := hHl.out; omega
          have hln9 : ln ≤ 100000 := by have := JP.lenF_length O; have := hOl.out; omega
          have Hcno := Lib.hid cno
          have Hcnh := Lib.hid cnh
          have hqO : qq ∉ G := hobW.out.1
          have hqH : (qd + 1) ∉ G := hhad.out.1
          clear hsH hsO hrnh hofh hrno hofo hlh hln cno
          go_wp2_with fail
          refine (names_any (qd + 1) _ W cnh).mono ?_
          rintro E wz ⟨rfl, rfl⟩
          clear cnh
          go_wp2_with fail
          go_loopg [59, 13] lh (fun k u59 u13 wr => ∃ (i qo M : Nat) (T : List Nat), i + k = lh ∧ u59 = .int .i64 (i : Int) ∧ u13 = .pointer (some ⟨qo, 0, none⟩) ∧ Hid (ObR (JvR M T) T wr qo (JP.remF (H.take i) O LV)) ∧ Hid (I (d ++ (JP.goesL (H.take i) O LV).map (fun n => way ++ [n])) T wr) ∧ Hid (KE G T W wr) ∧ Hid (Below w0.heap.size w0 wr))
          case atStart => exact ⟨0, qd, 0, G, by omega, rfl, rfl, Lib.hid (by rw [JP.rem_zero]; exact hout.out), Lib.hid (by rw [List.take_zero]; show I (d ++ []) G W; rw [List.append_nil]; exact HI0.out), Lib.hid (KE.refl HG.out), HB0⟩
          case round =>
            obtain ⟨i, qo, M, T, hik, rfl, rfl, HOut, HIr, HK, HB⟩ := hrel
            have holen : (JP.remF (H.take i) O LV).length ≤ 100000 := by have := JP.lenF_length (JP.remF (H.take i) O LV); have := JP.rem_len (H.take i) O LV; have := hLl.out; omega
            cases gk with
            | succ k =>
              have hil : i < lh := by omega
              obtain ⟨y, hy⟩ : ∃ y, H[i]? = some y := ⟨H[i]'(by rw [Hlh.out]; exact hil), List.getElem?_eq_getElem _⟩
              obtain ⟨b1, o1, c', hv1, _, _, hbs1, hcell1⟩ := HrnH.out.form (by rw [List.length_map, Hlh.out]; omega) (by omega)
              injection hv1 with u1 u2 u3
              subst u1
              clear u2 u3
              obtain ⟨ds1, _, hcc1, hR1⟩ := hcell1 i (mkB y.1) (by rw [List.getElem?_map, hy]; rfl)
              obtain rfl : ds1 = [.string (mkB y.1)] := hR1
              have e0 : wr.cell? ⟨b1, o1 + i, none⟩ = some (.string (mkB y.1)) := HK.out.keep.cell (by simpa using hcc1 0 _ rfl) (HofH.out (by intro e; have := congrArg List.length e; rw [List.length_map, Hlh.out] at this; simp at this; omega) b1 rfl)
              have q1 : (0 : Int) ≤ (i : Int) := by omega
              have q2 : (i : Int) < (lh : Int) := by omega
              have Hy := Lib.hid hy
              have HG1 := Lib.hid (get_g (x := y.1) (HO.out.keJ HK.out) (by rw [Hln.out]; omega))
              have hgt := JP.get_rem_take (o := O) (out := LV) HsH.out hy
              have hrs := JP.rem_step (o := O) HsH.out HsL.out hy
              have hgs := JP.goes_step (o := O) (out := LV) hy
              have Hgs := Lib.hid hgs
              have Hrs := Lib.hid hrs
              obtain ⟨bw, hbw⟩ : ∃ b, (JP.get y.1 O).isSome = b := ⟨_, rfl⟩
              obtain ⟨bi, hbi⟩ : ∃ b, (JP.get y.1 LV).isSome = b := ⟨_, rfl⟩
              have hbn : (JP.get y.1 O).isNone = !bw := by rw [← hbw]; cases JP.get y.1 O <;> rfl
              rw [hbw] at HG1
              rw [hbi, hbn] at Hrs Hgs
              clear hcell1 hcc1 hy hrs hgs
              go_wp2_with fail
              refine HG1.out.mono ?_
              rintro E w2 ⟨vg, rfl, _, _, hb2⟩
              have HK2 := Lib.hid (HK.out.grow hb2)
              have HB2 := Lib.hid (HB.out.trans (hb2.mono HB.out.size))
              have HI2 := Lib.hid (hI.out _ _ _ _ HIr.out hb2)
              have HOut2 := Lib.hid (HOut.out.keepJ (KeepT.of hb2))
              have HG2 := Lib.hid (get_g (x := y.1) HOut2.out (by omega))
              rw [hgt, hbi] at HG2
              clear hb2 HG1 e0 hgt hbw hbi hbn
              go_wp2_with fail
              refine HG2.out.mono ?_
              rintro E w3 ⟨vg2, rfl, _, _, hb3⟩
              have HK3 := Lib.hid (HK2.out.grow hb3)
              have HB3 := Lib.hid (HB2.out.trans (hb3.mono HB2.out.size))
              have HI3 := Lib.hid (hI.out _ _ _ _ HI2.out hb3)
              have HOut3 := Lib.hid (HOut2.out.keepJ (KeepT.of hb3))
              clear hb3 HG2 HK2 HB2 HI2 HOut2
              by_cases hgo : bi = true ∧ bw = false
              · obtain ⟨rfl, rfl⟩ := hgo
                have Hr2 : Hid (JP.remF (H.take (i + 1)) O LV = JP.cut y.1 (JP.remF (H.take i) O LV)) := Lib.hid (by rw [Hrs.out, if_pos ⟨rfl, rfl⟩])
                have Hg2 : Hid ((d ++ (JP.goesL (H.take i) O LV).map (fun n => way ++ [n])) ++ [way ++ [y.1]] = d ++ (JP.goesL (H.take (i + 1)) O LV).map (fun n => way ++ [n])) := Lib.hid (by rw [Hgs.out, if_pos ⟨rfl, rfl⟩, List.map_append, List.append_assoc]; rfl)
                clear Hrs Hgs
                have HCl := Lib.hid (cloneStr_any sv _ w3 (str_raw3 (str_keepT HSv.out HOff.out (HK3.out).keep)) (by rw [List.length_map, List.length_map]; have := HWl.out; omega))
                go_wp2_with fail
                refine HCl.out.mono ?_
                rintro E wc ⟨vc, rfl, hown, hbc⟩
                have HOwn := Lib.hid hown
                have Hbc := Lib.hid hbc
                clear hown hbc HCl
                have hb7 : Below wc.heap.size wc (wc.alloc (.cells #[.string (mkB y.1)] 9)) := (Below.refl _ wc).alloc (Nat.le_refl _) _
                have HOwn7 := Lib.hid (HOwn.out.below stays_val hb7)
                have Hb7 := Lib.hid (Hbc.out.trans (hb7.mono Hbc.out.size))
                have Hs7 : Hid (w3.heap.size ≤ (wc.alloc (.cells #[.string (mkB y.1)] 9)).heap.size) := Lib.hid Hb7.out.size
                have hr1 : RowAt RVal 1 (wc.alloc (.cells #[.string (mkB y.1)] 9)) (.slice (some ⟨wc.heap.size, 0, none⟩) 1 1) [Value.string (mkB y.1)] := RowAt.one (R := RVal) (x := Value.string (mkB y.1)) (heap_alloc_new wc _) rfl ⟨rfl, rfl⟩
                have bd1 : ((way.map mkB).map Value.string).length + [Value.string (mkB y.1)].length ≤ maxLen := by unfold maxLen; rw [List.length_map, List.length_map]; simp only [List.length_cons, List.length_nil]; have := HWl.out; omega
                have bd2 : (((way.map mkB).map Value.string).length + [Value.string (mkB y.1)].length) * 16 ≤ 140737488355328 := by rw [List.length_map, List.length_map]; simp only [List.length_cons, List.length_nil]; have := HWl.out; omega
                clear hb7
                go_wp2_with (at_builtin; refine wpList_append_ownAt (R := RVal) (k := 1) (e := 9) (B := w3.heap.size) (l := (way.map mkB).map .string) (m := [.string (mkB y.1)]) _ (by rfl) _ _ _ (by rfl) i0 _ 16 Tryz.underlying25 hi0 hz0 hz1 hz2 rfl (by omega) flat_val one_val _ (by rfl) HOwn7.out _ (by rfl) hr1 bd1 bd2 Hs7.out ?_)
                intro v8 w8 hv8 hg8 hr8 _
                have hb8 : Below w3.heap.size w3 w8 := Hb7.out.trans (below_of_grown (Below.refl _ _) Hs7.out hg8 hr8)
                have hst8 : StrAt w8 v8 ((way ++ [y.1]).map mkB) := raw_str3 (by have h9 := hv8.row; rw [List.map_append, List.map_append]; simpa using h9)
                have hoff8 : OffT T v8 ((way ++ [y.1]).map mkB) := off_own hv8 (HK3.out).lt
                have Hb8 := Lib.hid hb8
                have Hst8 := Lib.hid hst8
                have Hoff8 := Lib.hid hoff8
                clear hv8 hg8 hr8 hb8 hst8 hoff8 HOwn7 HOwn Hb7 Hs7 hr1 bd1 bd2 Hbc
                have hdl : (d ++ (JP.goesL (H.take i) O LV).map (fun n => way ++ [n])).length ≤ 40000000 := by
                  have h1 : (JP.goesL (H.take i) O LV).length ≤ 4000 := by
                    unfold JP.goesL
                    rw [List.length_map]
                    have h2 := List.length_filter_le (fun y => (JP.get y.1 LV).isSome && (JP.get y.1 O).isNone) (H.take i)
                    have h3 : (H.take i).length ≤ H.length := by rw [List.length_take]; omega
                    have := JP.lenF_length H; have := hHl.out; omega
                  rw [List.length_append, List.length_map]
                  have := HDl.out; omega
                have HCa := Lib.hid (HC.out (d ++ (JP.goesL (H.take i) O LV).map (fun n => way ++ [n])) T (way ++ [y.1]) v8 w8 (hI.out _ _ _ _ HI3.out Hb8.out) (HK3.out.grow Hb8.out).lt Hst8.out (by rw [way_sum]; have h8 : H[i]? = some (y.1, y.2) := Hy.out; have := JP.name_len h8; have := hHl.out; have := HWs.out; omega) (HB3.out.trans (Hb8.out.mono HB3.out.size)) hdl)
                clear hdl
                go_wp2_with fail
                refine HCa.out.mono ?_
                rintro E w9 ⟨rfl, T9, hi9, hk9, hb9⟩
                have HK9 := Lib.hid ((HK3.out.grow Hb8.out).trans hk9)
                have HOut9 := Lib.hid ((HOut3.out.keepJ (KeepT.of Hb8.out)).keJ hk9)
                have HB9 := Lib.hid hb9
                have HI9 := Lib.hid hi9
                have HWo := Lib.hid (without_any (x := y.1) HOut9.out HK9.out.lt (by omega))
                clear hi9 hk9 hb9 HCa
                go_wp2_with fail
                refine HWo.out.mono ?_
                rintro E wd ⟨qn, rfl, hon, hbn⟩
                have HOn : Hid (ObR (JvR M T9) T9 wd qn (JP.remF (H.take (i + 1)) O LV)) := Lib.hid (by rw [Hr2.out]; exact hon)
                have HIn : Hid (I (d ++ (JP.goesL (H.take (i + 1)) O LV).map (fun n => way ++ [n])) T9 wd) := Lib.hid (by rw [← Hg2.out]; exact hI.out _ _ _ _ HI9.out hbn)
                have HKn := Lib.hid (HK9.out.grow hbn)
                have HBn := Lib.hid (HB9.out.trans (hbn.mono HB9.out.size))
                clear hon hbn HWo
                go_wp2_with fail
                go_roundg k
                case measure => omega
                case rel => exact ⟨i + 1, qn, M, T9, by omega, by go_num, rfl, HOn, HIn, HKn, HBn⟩
              · have Hr2 : Hid (JP.remF (H.take (i + 1)) O LV = JP.remF (H.take i) O LV) := Lib.hid (by rw [Hrs.out, if_neg (fun e => hgo ⟨e.1, nb3 e.2⟩)])
                have Hg2 : Hid (JP.goesL (H.take (i + 1)) O LV = JP.goesL (H.take i) O LV) := Lib.hid (by rw [Hgs.out, if_neg (fun e => hgo ⟨e.1, nb3 e.2⟩), List.append_nil])
                have HOn : Hid (ObR (JvR M T) T w3 qo (JP.remF (H.take (i + 1)) O LV)) := Lib.hid (by rw [Hr2.out]; exact HOut3.out)
                have HIn : Hid (I (d ++ (JP.goesL (H.take (i + 1)) O LV).map (fun n => way ++ [n])) T w3) := Lib.hid (by rw [Hg2.out]; exact HI3.out)
                clear Hrs Hgs
                have hways := two3 hgo
                clear hgo
                rcases hways with rfl | ⟨rfl, rfl⟩
                · go_wp2_with fail
                  go_roundg k
                  case measure => omega
                  case rel => exact ⟨i + 1, qo, M, T, by omega, by go_num, rfl, HOn, HIn, HK3, HB3⟩
                · go_wp2_with fail
                  go_roundg k
                  case measure => omega
                  case rel => exact ⟨i + 1, qo, M, T, by omega, by go_num, rfl, HOn, HIn, HK3, HB3⟩
            | zero =>
              have hil : i = lh := by omega
              subst hil
              have q9 : ¬ (i : Int) < (i : Int) := by omega
              have htk : H.take i = H := List.take_of_length_le (by rw [Hlh.out]; exact Nat.le_refl _)
              rw [htk] at HOut HIr holen
              have HR0 := HOut
              have HIR := HIr
              obtain ⟨R, hR⟩ : ∃ R, JP.remF H O LV = R := ⟨_, rfl⟩
              obtain ⟨Gs, hGs⟩ : ∃ R, (JP.goesL H O LV).map (fun n => way ++ [n]) = R := ⟨_, rfl⟩
              rw [hR] at HR0
              rw [hGs] at HIR
              have HR := Lib.hid hR
              have HGs := Lib.hid hGs
              have hRs : JP.Srt R := by rw [← hR]; exact JP.srt_rem HsL.out
              have HRs := Lib.hid hRs
              have hRf : JP.Fld R := by rw [← hR]; exact ⟨JP.srt_rem HsL.out, JP.wfF_filter _ hLf.out⟩
              have HRf := Lib.hid hRf
              have hRl : JP.lenF R ≤ 4000 := by rw [← hR]; have := JP.rem_len H O LV; have := hLl.out; omega
              have HRl := Lib.hid hRl
              have cn2 : wr.cell? ⟨qq, 0, none⟩ = some (.slice ao ln co) := HK.out.keep.cell Hcno.out hqO
              clear htk hR hGs hRs hRf hRl HOut HIr holen
              go_wp2_with fail
              refine (names_any qq _ wr cn2).mono ?_
              rintro E wz ⟨rfl, rfl⟩
              clear cn2
              go_wp2_with fail
              go_loopg [94, 13] ln (fun k u94 u13 wr => ∃ (j qo M : Nat) (T : List Nat), j + k = ln ∧ u94 = .int .i64 (j : Int) ∧ u13 = .pointer (some ⟨qo, 0, none⟩) ∧ Hid (ObR (JvR M T) T wr qo (JP.into3F H R (O.take j))) ∧ Hid (I (d ++ Gs ++ (JP.lost3F H R (O.take j)).map (way ++ ·)) T wr) ∧ Hid (KE G T W wr) ∧ Hid (Below w0.heap.size w0 wr))
              case atStart => exact ⟨0, qo, M, T, by omega, rfl, rfl, Lib.hid (by rw [List.take_zero, JP.into3F_nil]; exact HR0.out), Lib.hid (by rw [List.take_zero, JP.lost3F_nil, List.map_nil, List.append_nil]; exact HIR.out), HK, HB⟩
              case round =>
                obtain ⟨j, qp, M2, T2, hjk, rfl, rfl, HP, HIs, HKs, HBs⟩ := hrel
                obtain ⟨hpf, hpl⟩ := JP.into3_fit.2.2 (O.take j) (wfF_take3 j hOf.out) H R HRf.out
                have hpl2 : JP.lenF (O.take j) ≤ JP.lenF O := lenF_take3 j O
                have hplen : (JP.into3F H R (O.take j)).length ≤ 100000 := by have := JP.lenF_length (JP.into3F H R (O.take j)); have := HRl.out; have := hOl.out; omega
                cases gk with
                | zero =>
                  have hjl : j = ln := by omega
                  subst hjl
                  have q8 : ¬ (j : Int) < (j : Int) := by omega
                  have htk : O.take j = O := List.take_of_length_le (by rw [Hln.out]; exact Nat.le_refl _)
                  rw [htk] at HP HIs
                  have Hfin : Hid (RR = .obj (JP.into3F H R O)) := Lib.hid (by rw [← HRR.out, HR.out])
                  have Hlost : Hid (d ++ Gs ++ (JP.lost3F H R O).map (way ++ ·) = LL) := Lib.hid (by rw [← HLL.out, HR.out, List.map_append, ← HGs.out, List.map_map, List.append_assoc]; rfl)
                  clear htk hpf hpl hpl2 hplen
                  go_wp2_with fail
                  go_ret
                  exact ⟨_, T2, rfl, ⟨M2 + 1, by rw [Hfin.out]; exact ⟨qp, rfl, HP.out⟩⟩, by rw [← Hlost.out]; exact HIs.out, HKs.out.before hWb.out, HBs.out⟩
                | succ k =>
                  have hil : j < ln := by omega
                  obtain ⟨y, hy⟩ : ∃ y, O[j]? = some y := ⟨O[j]'(by rw [Hln.out]; exact hil), List.getElem?_eq_getElem _⟩
                  obtain ⟨b1, o1, c', hv1, _, _, hbs1, hcell1⟩ := HrnO.out.form (by rw [List.length_map, Hln.out]; omega) (by omega)
                  injection hv1 with u1 u2 u3
                  subst u1
                  clear u2 u3
                  obtain ⟨ds1, _, hcc1, hR1⟩ := hcell1 j (mkB y.1) (by rw [List.getElem?_map, hy]; rfl)
                  obtain rfl : ds1 = [.string (mkB y.1)] := hR1
                  have e0 : wr.cell? ⟨b1, o1 + j, none⟩ = some (.string (mkB y.1)) := HKs.out.keep.cell (by simpa using hcc1 0 _ rfl) (HofO.out (by intro e; have := congrArg List.length e; rw [List.length_map, Hln.out] at this; simp at this; omega) b1 rfl)
                  have q1 : (0 : Int) ≤ (j : Int) := by omega
                  have q2 : (j : Int) < (ln : Int) := by omega
                  have Hy := Lib.hid hy
                  have hgO := JP.get_at3 HsO.out hy
                  have hlO := JP.lenF_at3 hy
                  have hnm : y.1.length + 1 + (JP.text y.2).length + 2 ≤ JP.lenF O := JP.name_len (show O[j]? = some (y.1, y.2) from hy)
                  have hwy := JP.wfF_at3 hOf.out hy
                  have htk := JP.into3F_take (had := H) (out := R) hy
                  have hlt := JP.lost3F_take (had := H) (out := R) hy
                  have hgt : JP.gto y.1 (JP.into3F H R (O.take j)) = JP.gto y.1 R := JP.gto_take HsO.out hy
                  have hln3 := (JP.lost_len).2.2 (O.take j) H R hHl.out
                  have HG1 := Lib.hid (get_g (x := y.1) (hhad.out.keJ HKs.out) (by rw [Hlh.out]; omega))
                  have hgs1 : JP.lenF (JP.into3F H R (O.take j)) ≤ 14000 := by have := HRl.out; have := hOl.out; omega
                  obtain ⟨P, hP⟩ : ∃ P, JP.into3F H R (O.take j) = P := ⟨_, rfl⟩
                  rw [hP] at HP htk hlt hgt hplen hgs1
                  have Hgt := Lib.hid hgt
                  have Htk := Lib.hid htk
                  have Hlt := Lib.hid hlt
                  have HlO := Lib.hid hlO
                  have Hnm := Lib.hid hnm
                  have Hwy := Lib.hid hwy
                  have Hln3 := Lib.hid hln3
                  have HgO := Lib.hid hgO
                  clear hcell1 hcc1 hy hgO hlO hnm hwy htk hlt hgt hln3 hpf hpl hpl2 hP hgs1 hbs1
                  go_wp2_with fail
                  refine HG1.out.mono ?_
                  rintro E w2 ⟨va, rfl, _, ⟨ka, hja⟩, hb2⟩
                  have HK2 := Lib.hid (HKs.out.grow hb2)
                  have HB2 := Lib.hid (HBs.out.trans (hb2.mono HBs.out.size))
                  have HI2 := Lib.hid (hI.out _ _ _ _ HIs.out hb2)
                  have HP2 := Lib.hid (HP.out.keepJ (KeepT.of hb2))
                  have HJa := Lib.hid hja
                  have HG2 := Lib.hid (get_g (x := y.1) HP2.out (by omega))
                  clear hb2 HG1 e0 hja
                  go_wp2_with fail
                  refine HG2.out.mono ?_
                  rintro E w3 ⟨vb, rfl, _, ⟨kb, hjb⟩, hb3⟩
                  have HK3 := Lib.hid (HK2.out.grow hb3)
                  have HB3 := Lib.hid (HB2.out.trans (hb3.mono HB2.out.size))
                  have HI3 := Lib.hid (hI.out _ _ _ _ HI2.out hb3)
                  have HP3 := Lib.hid (HP2.out.keepJ (KeepT.of hb3))
                  have HJa3 := Lib.hid (HJa.out.keepT (KeepT.of hb3))
                  have HJb := Lib.hid hjb
                  have HG3 := Lib.hid (get_g (x := y.1) (HO.out.keJ HK3.out) (by rw [Hln.out]; omega))
                  rw [HgO.out] at HG3
                  clear hb3 HG2 HK2 HB2 HI2 HP2 HJa hjb
                  go_wp2_with fail
                  refine HG3.out.mono ?_
                  rintro E w4 ⟨vw, rfl, hjw, _, hb4⟩
                  have HK4 := Lib.hid (HK3.out.grow hb4)
                  have HB4 := Lib.hid (HB3.out.trans (hb4.mono HB3.out.size))
                  have HI4 := Lib.hid (hI.out _ _ _ _ HI3.out hb4)
                  have HP4 := Lib.hid (HP3.out.keepJ (KeepT.of hb4))
                  have HJa4 := Lib.hid (HJa3.out.keepT (KeepT.of hb4))
                  have HJb4 := Lib.hid (HJb.out.keepT (KeepT.of hb4))
                  have HJw4 := Lib.hid (hjw y.2 rfl)
                  clear hb4 HG3 HK3 HB3 HI3 HP3 HJa3 HJb hjw
                  have HCl := Lib.hid (cloneStr_any sv _ w4 (str_raw3 (str_keepT HSv.out HOff.out (HK4.out).keep)) (by rw [List.length_map, List.length_map]; have := HWl.out; omega))
                  go_wp2_with fail
                  refine HCl.out.mono ?_
                  rintro E wc ⟨vc, rfl, hown, hbc⟩
                  have HOwn := Lib.hid hown
                  have Hbc := Lib.hid hbc
                  clear hown hbc HCl
                  have hb7 : Below wc.heap.size wc (wc.alloc (.cells #[.string (mkB y.1)] 9)) := (Below.refl _ wc).alloc (Nat.le_refl _) _
                  have HOwn7 := Lib.hid (HOwn.out.below stays_val hb7)
                  have Hb7 := Lib.hid (Hbc.out.trans (hb7.mono Hbc.out.size))
                  have Hs7 : Hid (w4.heap.size ≤ (wc.alloc (.cells #[.string (mkB y.1)] 9)).heap.size) := Lib.hid Hb7.out.size
                  have hr1 : RowAt RVal 1 (wc.alloc (.cells #[.string (mkB y.1)] 9)) (.slice (some ⟨wc.heap.size, 0, none⟩) 1 1) [Value.string (mkB y.1)] := RowAt.one (R := RVal) (x := Value.string (mkB y.1)) (heap_alloc_new wc _) rfl ⟨rfl, rfl⟩
                  have bd1 : ((way.map mkB).map Value.string).length + [Value.string (mkB y.1)].length ≤ maxLen := by unfold maxLen; rw [List.length_map, List.length_map]; simp only [List.length_cons, List.length_nil]; have := HWl.out; omega
                  have bd2 : (((way.map mkB).map Value.string).length + [Value.string (mkB y.1)].length) * 16 ≤ 140737488355328 := by rw [List.length_map, List.length_map]; simp only [List.length_cons, List.length_nil]; have := HWl.out; omega
                  clear hb7
                  go_wp2_with (at_builtin; refine wpList_append_ownAt (R := RVal) (k := 1) (e := 9) (B := w4.heap.size) (l := (way.map mkB).map .string) (m := [.string (mkB y.1)]) _ (by rfl) _ _ _ (by rfl) i0 _ 16 Tryz.underlying25 hi0 hz0 hz1 hz2 rfl (by omega) flat_val one_val _ (by rfl) HOwn7.out _ (by rfl) hr1 bd1 bd2 Hs7.out ?_)
                  intro v8 w8 hv8 hg8 hr8 _
                  have hb8 : Below w4.heap.size w4 w8 := Hb7.out.trans (below_of_grown (Below.refl _ _) Hs7.out hg8 hr8)
                  have hst8 : StrAt w8 v8 ((way ++ [y.1]).map mkB) := raw_str3 (by have h9 := hv8.row; rw [List.map_append, List.map_append]; simpa using h9)
                  have hoff8 : OffT T2 v8 ((way ++ [y.1]).map mkB) := off_own hv8 (HK4.out).lt
                  have Hb8 := Lib.hid hb8
                  have Hst8 := Lib.hid hst8
                  have Hoff8 := Lib.hid hoff8
                  clear hv8 hg8 hr8 hb8 hst8 hoff8 HOwn7 HOwn Hb7 Hs7 hr1 bd1 bd2 Hbc
                  have hIH := IH.out ka kb T2 va vb vw v8 (JP.gto y.1 H) (JP.gto y.1 P) y.2 (way ++ [y.1]) (d ++ Gs ++ (JP.lost3F H R (O.take j)).map (way ++ ·)) w8 (HJa4.out.keepT (KeepT.of Hb8.out)) (HJb4.out.keepT (KeepT.of Hb8.out)) (HJw4.out.keepT (KeepT.of Hb8.out))
                    (by rw [Hgt.out]; exact JP.wf_gto HRf.out.2) Hwy.out (by have := JP.gto_len y.1 H; have := hHl.out; omega) (by rw [Hgt.out]; have := JP.gto_len y.1 R; have := HRl.out; omega)
                    (by rw [way_sum]; have := Hnm.out; have := HWs.out; omega) Hst8.out Hoff8.out (hI.out _ _ _ _ HI4.out Hb8.out) (HK4.out.grow Hb8.out).lt (HB4.out.trans (Hb8.out.mono HB4.out.size))
                    (by
                      rw [List.length_append, List.length_append, List.length_map]
                      have h1 : Gs.length ≤ 4000 := by
                        rw [← HGs.out, List.length_map]
                        unfold JP.goesL
                        rw [List.length_map]
                        have h2 := List.length_filter_le (fun y => (JP.get y.1 LV).isSome && (JP.get y.1 O).isNone) H
                        have := JP.lenF_length H; have := hHl.out; omega
                      have := Hln3.out; have := HlO.out; have := HDl.out
                      omega)
                  have HIH := Lib.hid hIH
                  clear hIH
                  go_wp2_with fail
                  refine HIH.out.mono ?_
                  rintro E w9 ⟨u9, T9, rfl, ⟨k9, hj9⟩, hi9, hk9, hb9⟩
                  have HK9 := Lib.hid ((HK4.out.grow Hb8.out).trans hk9)
                  have HP9 := Lib.hid ((HP4.out.keepJ (KeepT.of Hb8.out)).keJ hk9)
                  have HWi := Lib.hid (with_any (x := y.1) (HP9.out.upsJ (Nat.le_max_left M2 k9)) (hj9.ups (Nat.le_max_right M2 k9)) HK9.out.lt (by omega))
                  have HI9 := Lib.hid hi9
                  have HB9 := Lib.hid hb9
                  clear hj9 hi9 hk9 hb9 HIH
                  go_wp2_with fail
                  refine HWi.out.mono ?_
                  rintro E wd ⟨qn, rfl, hon, hbn⟩
                  have HOn : Hid (ObR (JvR (max M2 k9) T9) T9 wd qn (JP.into3F H R (O.take (j + 1)))) := Lib.hid (by rw [Htk.out]; exact hon)
                  have HIn : Hid (I (d ++ Gs ++ (JP.lost3F H R (O.take (j + 1))).map (way ++ ·)) T9 wd) := Lib.hid (by
                    rw [Hlt.out, List.map_append, ← List.append_assoc, List.map_map]
                    have h9 := hI.out _ _ _ _ HI9.out hbn
                    have e9 : (JP.lost3 (JP.gto y.1 H) (JP.gto y.1 P) y.2).map (fun r => (way ++ [y.1]) ++ r) = (JP.lost3 (JP.gto y.1 H) (JP.gto y.1 P) y.2).map ((way ++ ·) ∘ (y.1 :: ·)) := List.map_congr_left fun r _ => by show way ++ [y.1] ++ r = way ++ (y.1 :: r); rw [List.append_assoc]; rfl
                    rw [← e9]
                    exact h9)
                  have HKn := Lib.hid (HK9.out.grow hbn)
                  have HBn := Lib.hid (HB9.out.trans (hbn.mono HB9.out.size))
                  clear hon hbn HWi
                  go_wp2_with fail
                  go_roundg k
                  case measure => omega
                  case rel => exact ⟨j + 1, qn, max M2 k9, T9, by omega, by go_num, rfl, HOn, HIn, HKn, HBn⟩
    · have hn : ∀ l, x ≠ .obj l := fun l e => hob ⟨l, e⟩
      have G1 := as_other h hn
      have HJ := Lib.hid h
      have Hd := Lib.hid hd
      have Hw0 := Lib.hid hw0
      have HGl := Lib.hid hG
      have e1 : JP.into3 xa xb x = x := JP.into3_not hn _ _
      have e2 : JP.lost3 xa xb x = [] := JP.lost3_not hn _ _
      rw [e1, e2, List.map_nil, List.append_nil]
      clear ih ha hb h hwb hwx hla hlb hlx hs hoff hd hG hw0 hob hn e1 e2 hdn
      go_enter Tryz.func27, Tryz.ntmps27
      go_wp2_with fail
      go_ret
      exact ⟨_, G, rfl, ⟨n + 1, HJ.out⟩, Hd.out, KE.refl HGl.out, Hw0.out⟩
set_option maxRecDepth 100000 in
set_option maxHeartbeats 12800000 in
theorem three1_any {f : FuncId} {cap : Value} {I : List (List Bs) → List Nat → World → Prop} {w0 : World} (enter : ∀ (a : Array Value) (w : World), (callFunc f a).run Tryz.prog w = .ok (.enter f a) w)
    (hI0 : ∀ d T w w', I d T w → Below w.heap.size w w' → I d T w') (clo : Sees3 f #[cap] I w0) : ∀ n : Nat, In3 f #[cap] I w0 n := by
  intro n
  induction n with
  | zero => intro ma mb G av bv v sv xa xb x way d w _ _ h; cases h
  | succ n ih =>
    intro ma mb G av bv v sv xa xb x way d w ha hb h hwb hwx hla hlb hlx hs hoff hd hG hw0 hdn
    have ep := enter
    have HC := Lib.hid clo
    have hI := Lib.hid hI0
    by_cases hob : ∃ l, x = .obj l
    · obtain ⟨O, rfl⟩ := hob
      have IH := Lib.hid ih
      obtain ⟨qq, rfl, hobr⟩ := h
      have G1 := (as_obj (.pointer (some ⟨qq, 0, none⟩))).2.2.2.2
      obtain ⟨i0, hi0, hz0, hz1, hz2⟩ := info_parts Tryz.infoStr
      have hOf := Lib.hid (JP.wf_obj hwx).2
      have hOl : Hid (JP.lenF O ≤ 10000) := Lib.hid (by have := JP.obj_len_ge O; show _ ≤ _; omega)
      have HWs : Hid ((way.map fun s => s.length + 1).sum + JP.lenF O ≤ 10000) := Lib.hid (by have := JP.obj_len_ge O; show _ ≤ _; omega)
      have HWl : Hid (way.length ≤ 10000) := Lib.hid (by have := way_len way; show _ ≤ _; omega)
      have HOff := Lib.hid hoff
      have HDl : Hid (d.length + 4000 * JP.lenF O + 4000 ≤ 40000000) := Lib.hid (by have := JP.obj_len_ge O; show _ ≤ _; omega)
      have hsv := Lib.hid hs
      have hId := Lib.hid hd
      have hGw := Lib.hid hG
      have hB0 := Lib.hid hw0
      have hob1 := Lib.hid hobr
      have hwayA := obj_way ha
      have hwayB := obj_way hb
      have hLf := Lib.hid (JP.wf_fields hwb).2
      have HsL := Lib.hid (JP.wf_fields hwb).1
      have hLl : Hid (JP.lenF (JP.fieldsOf xb) ≤ 4000) := Lib.hid (by have := JP.lenF_fields xb; show _ ≤ _; omega)
      have hHl : Hid (JP.lenF (JP.fieldsOf xa) ≤ 4000) := Lib.hid (by have := JP.lenF_fields xa; show _ ≤ _; omega)
      obtain ⟨H, hHe9⟩ : ∃ H, JP.fieldsOf xa = H := ⟨_, rfl⟩
      obtain ⟨LV, hLe9⟩ : ∃ H, JP.fieldsOf xb = H := ⟨_, rfl⟩
      rw [hHe9] at hHl
      rw [hLe9] at hLl hLf HsL
      obtain ⟨RR, hRR⟩ : ∃ R, JP.into3 xa xb (.obj O) = R := ⟨_, rfl⟩
      obtain ⟨LL, hLL⟩ : ∃ R, d ++ (JP.lost3 xa xb (.obj O)).map (way ++ ·) = R := ⟨_, rfl⟩
      rw [hRR, hLL]
      rw [JP.into3_obj, hHe9, hLe9] at hRR
      rw [JP.lost3_obj, hHe9, hLe9] at hLL
      have HRR := Lib.hid hRR
      have HLL := Lib.hid hLL
      clear hRR hLL
      clear enter clo hI0 ih ha hb hwb hwx hla hlb hlx hs hoff hd hG hw0 hobr hdn
      rcases hwayB with ⟨dB, qd, Md, rfl, rfl, hdB⟩ | ⟨hnB, hnB2, GB⟩
      · have GB := (as_obj (.pointer (some ⟨qd, 0, none⟩))).2.2.2.2
        obtain rfl : LV = dB := hLe9.symm
        rcases hwayA with ⟨dA, qh, Mh, rfl, rfl, hdA⟩ | ⟨hnA, hnA2, GA⟩
        · have GA := (as_obj (.pointer (some ⟨qh, 0, none⟩))).2.2.2.2
          obtain rfl : H = dA := hHe9.symm
          have hWb : Hid (Below w.heap.size w w) := Lib.hid (Below.refl _ _)
          have hout : Hid (ObR (JvR Md G) G w qd LV) := Lib.hid hdB
          have hhad : Hid (ObR (JvR Mh G) G w qh H) := Lib.hid hdA
          have hobW : Hid (ObR (JvR n G) G w qq O) := Lib.hid hob1.out
          clear hdA hdB
          try clear hHe9
          try clear hLe9
          go_enter Tryz.func27, Tryz.ntmps27
          have HG : Hid (∀ b ∈ G, b < w.heap.size) := Lib.hid (fun b hb => Nat.lt_of_lt_of_le (hGw.out b hb) hWb.out.size)
          have HB0 := Lib.hid (hB0.out.trans (hWb.out.mono hB0.out.size))
          have HSv := Lib.hid (hsv.out.below hWb.out)
          have HO := Lib.hid (hobW.out)
          have HI0 := Lib.hid (hI.out _ _ _ _ hId.out hWb.out)
          obtain ⟨_, hsH, vnh, vvh, cnh, _, hrnh, hofh, _⟩ := hhad.out
          obtain ⟨_, hsO, vno, vvo, cno, _, hrno, hofo, _⟩ := hobW.out
          have HsH := Lib.hid hsH
          have HsO := Lib.hid hsO
          obtain ⟨ah, ch, eh, _⟩ := hrnh.len
          obtain ⟨ao, co, eo, _⟩ := hrno.len
          rw [List.length_map] at eh eo
          obtain ⟨lh, hlh⟩ : ∃ l, H.length = l := ⟨_, rfl⟩
          obtain ⟨ln, hln⟩ : ∃ l, O.length = l := ⟨_, rfl⟩
          rw [hlh] at eh
          rw [hln] at eo
          subst eh; subst eo
          have Hlh := Lib.hid hlh
          have Hln := Lib.hid hln
          have HrnH := Lib.hid hrnh
          have HofH := Lib.hid (show OffT G (.slice ah lh ch) (H.map fun x => mkB x.1) from fun hl => hofh fun e => hl (by rw [e]; rfl))
          have HrnO := Lib.hid hrno
          have HofO := Lib.hid (show OffT G (.slice ao ln co) (O.map fun x => mkB x.1) from fun hl => hofo fun e => hl (by rw [e]; rfl))
          have hlh9 : lh ≤ 100000 := by have := JP.lenF_length H; have := hHl.out; omega
          have hln9 : ln ≤ 100000 := by have := JP.lenF_length O; have := hOl.out; omega
          have Hcno := Lib.hid cno
          have Hcnh := Lib.hid cnh
          have hqO : qq ∉ G := hobW.out.1
          have hqH : qh ∉ G := hhad.out.1
          clear hsH hsO hrnh hofh hrno hofo hlh hln cno
          go_wp2_with fail
          refine (names_any qh _ w cnh).mono ?_
          rintro E wz ⟨rfl, rfl⟩
          clear cnh
          go_wp2_with fail
          go_loopg [59, 13] lh (fun k u59 u13 wr => ∃ (i qo M : Nat) (T : List Nat), i + k = lh ∧ u59 = .int .i64 (i : Int) ∧ u13 = .pointer (some ⟨qo, 0, none⟩) ∧ Hid (ObR (JvR M T) T wr qo (JP.remF (H.take i) O LV)) ∧ Hid (I (d ++ (JP.goesL (H.take i) O LV).map (fun n => way ++ [n])) T wr) ∧ Hid (KE G T w wr) ∧ Hid (Below w0.heap.size w0 wr))
          case atStart => exact ⟨0, qd, Md, G, by omega, rfl, rfl, Lib.hid (by rw [JP.rem_zero]; exact hout.out), Lib.hid (by rw [List.take_zero]; show I (d ++ []) G w; rw [List.append_nil]; exact HI0.out), Lib.hid (KE.refl HG.out), HB0⟩
          case round =>
            obtain ⟨i, qo, M, T, hik, rfl, rfl, HOut, HIr, HK, HB⟩ := hrel
            have holen : (JP.remF (H.take i) O LV).length ≤ 100000 := by have := JP.lenF_length (JP.remF (H.take i) O LV); have := JP.rem_len (H.take i) O LV; have := hLl.out; omega
            cases gk with
            | succ k =>
              have hil : i < lh := by omega
              obtain ⟨y, hy⟩ : ∃ y, H[i]? = some y := ⟨H[i]'(by rw [Hlh.out]; exact hil), List.getElem?_eq_getElem _⟩
              obtain ⟨b1, o1, c', hv1, _, _, hbs1, hcell1⟩ := HrnH.out.form (by rw [List.length_map, Hlh.out]; omega) (by omega)
              injection hv1 with u1 u2 u3
              subst u1
              clear u2 u3
              obtain ⟨ds1, _, hcc1, hR1⟩ := hcell1 i (mkB y.1) (by rw [List.getElem?_map, hy]; rfl)
              obtain rfl : ds1 = [.string (mkB y.1)] := hR1
              have e0 : wr.cell? ⟨b1, o1 + i, none⟩ = some (.string (mkB y.1)) := HK.out.keep.cell (by simpa using hcc1 0 _ rfl) (HofH.out (by intro e; have := congrArg List.length e; rw [List.length_map, Hlh.out] at this; simp at this; omega) b1 rfl)
              have q1 : (0 : Int) ≤ (i : Int) := by omega
              have q2 : (i : Int) < (lh : Int) := by omega
              have Hy := Lib.hid hy
              have HG1 := Lib.hid (get_g (x := y.1) (HO.out.keJ HK.out) (by rw [Hln.out]; omega))
              have hgt := JP.get_rem_take (o := O) (out := LV) HsH.out hy
              have hrs := JP.rem_step (o := O) HsH.out HsL.out hy
              have hgs := JP.goes_step (o := O) (out := LV) hy
              have Hgs := Lib.hid hgs
              have Hrs := Lib.hid hrs
              obtain ⟨bw, hbw⟩ : ∃ b, (JP.get y.1 O).isSome = b := ⟨_, rfl⟩
              obtain ⟨bi, hbi⟩ : ∃ b, (JP.get y.1 LV).isSome = b := ⟨_, rfl⟩
              have hbn : (JP.get y.1 O).isNone = !bw := by rw [← hbw]; cases JP.get y.1 O <;> rfl
              rw [hbw] at HG1
              rw [hbi, hbn] at Hrs Hgs
              clear hcell1 hcc1 hy hrs hgs
              go_wp2_with fail
              refine HG1.out.mono ?_
              rintro E w2 ⟨vg, rfl, _, _, hb2⟩
              have HK2 := Lib.hid (HK.out.grow hb2)
              have HB2 := Lib.hid (HB.out.trans (hb2.mono HB.out.size))
              have HI2 := Lib.hid (hI.out _ _ _ _ HIr.out hb2)
              have HOut2 := Lib.hid (HOut.out.keepJ (KeepT.of hb2))
              have HG2 := Lib.hid (get_g (x := y.1) HOut2.out (by omega))
              rw [hgt, hbi] at HG2
              clear hb2 HG1 e0 hgt hbw hbi hbn
              go_wp2_with fail
              refine HG2.out.mono ?_
              rintro E w3 ⟨vg2, rfl, _, _, hb3⟩
              have HK3 := Lib.hid (HK2.out.grow hb3)
              have HB3 := Lib.hid (HB2.out.trans (hb3.mono HB2.out.size))
              have HI3 := Lib.hid (hI.out _ _ _ _ HI2.out hb3)
              have HOut3 := Lib.hid (HOut2.out.keepJ (KeepT.of hb3))
              clear hb3 HG2 HK2 HB2 HI2 HOut2
              by_cases hgo : bi = true ∧ bw = false
              · obtain ⟨rfl, rfl⟩ := hgo
                have Hr2 : Hid (JP.remF (H.take (i + 1)) O LV = JP.cut y.1 (JP.remF (H.take i) O LV)) := Lib.hid (by rw [Hrs.out, if_pos ⟨rfl, rfl⟩])
                have Hg2 : Hid ((d ++ (JP.goesL (H.take i) O LV).map (fun n => way ++ [n])) ++ [way ++ [y.1]] = d ++ (JP.goesL (H.take (i + 1)) O LV).map (fun n => way ++ [n])) := Lib.hid (by rw [Hgs.out, if_pos ⟨rfl, rfl⟩, List.map_append, List.append_assoc]; rfl)
                clear Hrs Hgs
                have HCl := Lib.hid (cloneStr_any sv _ w3 (str_raw3 (str_keepT HSv.out HOff.out (HK3.out).keep)) (by rw [List.length_map, List.length_map]; have := HWl.out; omega))
                go_wp2_with fail
                refine HCl.out.mono ?_
                rintro E wc ⟨vc, rfl, hown, hbc⟩
                have HOwn := Lib.hid hown
                have Hbc := Lib.hid hbc
                clear hown hbc HCl
                have hb7 : Below wc.heap.size wc (wc.alloc (.cells #[.string (mkB y.1)] 9)) := (Below.refl _ wc).alloc (Nat.le_refl _) _
                have HOwn7 := Lib.hid (HOwn.out.below stays_val hb7)
                have Hb7 := Lib.hid (Hbc.out.trans (hb7.mono Hbc.out.size))
                have Hs7 : Hid (w3.heap.size ≤ (wc.alloc (.cells #[.string (mkB y.1)] 9)).heap.size) := Lib.hid Hb7.out.size
                have hr1 : RowAt RVal 1 (wc.alloc (.cells #[.string (mkB y.1)] 9)) (.slice (some ⟨wc.heap.size, 0, none⟩) 1 1) [Value.string (mkB y.1)] := RowAt.one (R := RVal) (x := Value.string (mkB y.1)) (heap_alloc_new wc _) rfl ⟨rfl, rfl⟩
                have bd1 : ((way.map mkB).map Value.string).length + [Value.string (mkB y.1)].length ≤ maxLen := by unfold maxLen; rw [List.length_map, List.length_map]; simp only [List.length_cons, List.length_nil]; have := HWl.out; omega
                have bd2 : (((way.map mkB).map Value.string).length + [Value.string (mkB y.1)].length) * 16 ≤ 140737488355328 := by rw [List.length_map, List.length_map]; simp only [List.length_cons, List.length_nil]; have := HWl.out; omega
                clear hb7
                go_wp2_with (at_builtin; refine wpList_append_ownAt (R := RVal) (k := 1) (e := 9) (B := w3.heap.size) (l := (way.map mkB).map .string) (m := [.string (mkB y.1)]) _ (by rfl) _ _ _ (by rfl) i0 _ 16 Tryz.underlying25 hi0 hz0 hz1 hz2 rfl (by omega) flat_val one_val _ (by rfl) HOwn7.out _ (by rfl) hr1 bd1 bd2 Hs7.out ?_)
                intro v8 w8 hv8 hg8 hr8 _
                have hb8 : Below w3.heap.size w3 w8 := Hb7.out.trans (below_of_grown (Below.refl _ _) Hs7.out hg8 hr8)
                have hst8 : StrAt w8 v8 ((way ++ [y.1]).map mkB) := raw_str3 (by have h9 := hv8.row; rw [List.map_append, List.map_append]; simpa using h9)
                have hoff8 : OffT T v8 ((way ++ [y.1]).map mkB) := off_own hv8 (HK3.out).lt
                have Hb8 := Lib.hid hb8
                have Hst8 := Lib.hid hst8
                have Hoff8 := Lib.hid hoff8
                clear hv8 hg8 hr8 hb8 hst8 hoff8 HOwn7 HOwn Hb7 Hs7 hr1 bd1 bd2 Hbc
                have hdl : (d ++ (JP.goesL (H.take i) O LV).map (fun n => way ++ [n])).length ≤ 40000000 := by
                  have h1 : (JP.goesL (H.take i) O LV).length ≤ 4000 := by
                    unfold JP.goesL
                    rw [List.length_map]
                    have h2 := List.length_filter_le (fun y => (JP.get y.1 LV).isSome && (JP.get y.1 O).isNone) (H.take i)
                    have h3 : (H.take i).length ≤ H.length := by rw [List.length_take]; omega
                    have := JP.lenF_length H; have := hHl.out; omega
                  rw [List.length_append, List.length_map]
                  have := HDl.out; omega
                have HCa := Lib.hid (HC.out (d ++ (JP.goesL (H.take i) O LV).map (fun n => way ++ [n])) T (way ++ [y.1]) v8 w8 (hI.out _ _ _ _ HI3.out Hb8.out) (HK3.out.grow Hb8.out).lt Hst8.out (by rw [way_sum]; have h8 : H[i]? = some (y.1, y.2) := Hy.out; have := JP.name_len h8; have := hHl.out; have := HWs.out; omega) (HB3.out.trans (Hb8.out.mono HB3.out.size)) hdl)
                clear hdl
                go_wp2_with fail
                refine HCa.out.mono ?_
                rintro E w9 ⟨rfl, T9, hi9, hk9, hb9⟩
                have HK9 := Lib.hid ((HK3.out.grow Hb8.out).trans hk9)
                have HOut9 := Lib.hid ((HOut3.out.keepJ (KeepT.of Hb8.out)).keJ hk9)
                have HB9 := Lib.hid hb9
                have HI9 := Lib.hid hi9
                have HWo := Lib.hid (without_any (x := y.1) HOut9.out HK9.out.lt (by omega))
                clear hi9 hk9 hb9 HCa
                go_wp2_with fail
                refine HWo.out.mono ?_
                rintro E wd ⟨qn, rfl, hon, hbn⟩
                have HOn : Hid (ObR (JvR M T9) T9 wd qn (JP.remF (H.take (i + 1)) O LV)) := Lib.hid (by rw [Hr2.out]; exact hon)
                have HIn : Hid (I (d ++ (JP.goesL (H.take (i + 1)) O LV).map (fun n => way ++ [n])) T9 wd) := Lib.hid (by rw [← Hg2.out]; exact hI.out _ _ _ _ HI9.out hbn)
                have HKn := Lib.hid (HK9.out.grow hbn)
                have HBn := Lib.hid (HB9.out.trans (hbn.mono HB9.out.size))
                clear hon hbn HWo
                go_wp2_with fail
                go_roundg k
                case measure => omega
                case rel => exact ⟨i + 1, qn, M, T9, by omega, by go_num, rfl, HOn, HIn, HKn, HBn⟩
              · have Hr2 : Hid (JP.remF (H.take (i + 1)) O LV = JP.remF (H.take i) O LV) := Lib.hid (by rw [Hrs.out, if_neg (fun e => hgo ⟨e.1, nb3 e.2⟩)])
                have Hg2 : Hid (JP.goesL (H.take (i + 1)) O LV = JP.goesL (H.take i) O LV) := Lib.hid (by rw [Hgs.out, if_neg (fun e => hgo ⟨e.1, nb3 e.2⟩), List.append_nil])
                have HOn : Hid (ObR (JvR M T) T w3 qo (JP.remF (H.take (i + 1)) O LV)) := Lib.hid (by rw [Hr2.out]; exact HOut3.out)
                have HIn : Hid (I (d ++ (JP.goesL (H.take (i + 1)) O LV).map (fun n => way ++ [n])) T w3) := Lib.hid (by rw [Hg2.out]; exact HI3.out)
                clear Hrs Hgs
                have hways := two3 hgo
                clear hgo
                rcases hways with rfl | ⟨rfl, rfl⟩
                · go_wp2_with fail
                  go_roundg k
                  case measure => omega
                  case rel => exact ⟨i + 1, qo, M, T, by omega, by go_num, rfl, HOn, HIn, HK3, HB3⟩
                · go_wp2_with fail
                  go_roundg k
                  case measure => omega
                  case rel => exact ⟨i + 1, qo, M, T, by omega, by go_num, rfl, HOn, HIn, HK3, HB3⟩
            | zero =>
              have hil : i = lh := by omega
              subst hil
              have q9 : ¬ (i : Int) < (i : Int) := by omega
              have htk : H.take i = H := List.take_of_length_le (by rw [Hlh.out]; exact Nat.le_refl _)
              rw [htk] at HOut HIr holen
              have HR0 := HOut
              have HIR := HIr
              obtain ⟨R, hR⟩ : ∃ R, JP.remF H O LV = R := ⟨_, rfl⟩
              obtain ⟨Gs, hGs⟩ : ∃ R, (JP.goesL H O LV).map (fun n => way ++ [n]) = R := ⟨_, rfl⟩
              rw [hR] at HR0
              rw [hGs] at HIR
              have HR := Lib.hid hR
              have HGs := Lib.hid hGs
              have hRs : JP.Srt R := by rw [← hR]; exact JP.srt_rem HsL.out
              have HRs := Lib.hid hRs
              have hRf : JP.Fld R := by rw [← hR]; exact ⟨JP.srt_rem HsL.out, JP.wfF_filter _ hLf.out⟩
              have HRf := Lib.hid hRf
              have hRl : JP.lenF R ≤ 4000 := by rw [← hR]; have := JP.rem_len H O LV; have := hLl.out; omega
              have HRl := Lib.hid hRl
              have cn2 : wr.cell? ⟨qq, 0, none⟩ = some (.slice ao ln co) := HK.out.keep.cell Hcno.out hqO
              clear htk hR hGs hRs hRf hRl HOut HIr holen
              go_wp2_with fail
              refine (names_any qq _ wr cn2).mono ?_
              rintro E wz ⟨rfl, rfl⟩
              clear cn2
              go_wp2_with fail
              go_loopg [94, 13] ln (fun k u94 u13 wr => ∃ (j qo M : Nat) (T : List Nat), j + k = ln ∧ u94 = .int .i64 (j : Int) ∧ u13 = .pointer (some ⟨qo, 0, none⟩) ∧ Hid (ObR (JvR M T) T wr qo (JP.into3F H R (O.take j))) ∧ Hid (I (d ++ Gs ++ (JP.lost3F H R (O.take j)).map (way ++ ·)) T wr) ∧ Hid (KE G T w wr) ∧ Hid (Below w0.heap.size w0 wr))
              case atStart => exact ⟨0, qo, M, T, by omega, rfl, rfl, Lib.hid (by rw [List.take_zero, JP.into3F_nil]; exact HR0.out), Lib.hid (by rw [List.take_zero, JP.lost3F_nil, List.map_nil, List.append_nil]; exact HIR.out), HK, HB⟩
              case round =>
                obtain ⟨j, qp, M2, T2, hjk, rfl, rfl, HP, HIs, HKs, HBs⟩ := hrel
                obtain ⟨hpf, hpl⟩ := JP.into3_fit.2.2 (O.take j) (wfF_take3 j hOf.out) H R HRf.out
                have hpl2 : JP.lenF (O.take j) ≤ JP.lenF O := lenF_take3 j O
                have hplen : (JP.into3F H R (O.take j)).length ≤ 100000 := by have := JP.lenF_length (JP.into3F H R (O.take j)); have := HRl.out; have := hOl.out; omega
                cases gk with
                | zero =>
                  have hjl : j = ln := by omega
                  subst hjl
                  have q8 : ¬ (j : Int) < (j : Int) := by omega
                  have htk : O.take j = O := List.take_of_length_le (by rw [Hln.out]; exact Nat.le_refl _)
                  rw [htk] at HP HIs
                  have Hfin : Hid (RR = .obj (JP.into3F H R O)) := Lib.hid (by rw [← HRR.out, HR.out])
                  have Hlost : Hid (d ++ Gs ++ (JP.lost3F H R O).map (way ++ ·) = LL) := Lib.hid (by rw [← HLL.out, HR.out, List.map_append, ← HGs.out, List.map_map, List.append_assoc]; rfl)
                  clear htk hpf hpl hpl2 hplen
                  go_wp2_with fail
                  go_ret
                  exact ⟨_, T2, rfl, ⟨M2 + 1, by rw [Hfin.out]; exact ⟨qp, rfl, HP.out⟩⟩, by rw [← Hlost.out]; exact HIs.out, HKs.out.before hWb.out, HBs.out⟩
                | succ k =>
                  have hil : j < ln := by omega
                  obtain ⟨y, hy⟩ : ∃ y, O[j]? = some y := ⟨O[j]'(by rw [Hln.out]; exact hil), List.getElem?_eq_getElem _⟩
                  obtain ⟨b1, o1, c', hv1, _, _, hbs1, hcell1⟩ := HrnO.out.form (by rw [List.length_map, Hln.out]; omega) (by omega)
                  injection hv1 with u1 u2 u3
                  subst u1
                  clear u2 u3
                  obtain ⟨ds1, _, hcc1, hR1⟩ := hcell1 j (mkB y.1) (by rw [List.getElem?_map, hy]; rfl)
                  obtain rfl : ds1 = [.string (mkB y.1)] := hR1
                  have e0 : wr.cell? ⟨b1, o1 + j, none⟩ = some (.string (mkB y.1)) := HKs.out.keep.cell (by simpa using hcc1 0 _ rfl) (HofO.out (by intro e; have := congrArg List.length e; rw [List.length_map, Hln.out] at this; simp at this; omega) b1 rfl)
                  have q1 : (0 : Int) ≤ (j : Int) := by omega
                  have q2 : (j : Int) < (ln : Int) := by omega
                  have Hy := Lib.hid hy
                  have hgO := JP.get_at3 HsO.out hy
                  have hlO := JP.lenF_at3 hy
                  have hnm : y.1.length + 1 + (JP.text y.2).length + 2 ≤ JP.lenF O := JP.name_len (show O[j]? = some (y.1, y.2) from hy)
                  have hwy := JP.wfF_at3 hOf.out hy
                  have htk := JP.into3F_take (had := H) (out := R) hy
                  have hlt := JP.lost3F_take (had := H) (out := R) hy
                  have hgt : JP.gto y.1 (JP.into3F H R (O.take j)) = JP.gto y.1 R := JP.gto_take HsO.out hy
                  have hln3 := (JP.lost_len).2.2 (O.take j) H R hHl.out
                  have HG1 := Lib.hid (get_g (x := y.1) (hhad.out.keJ HKs.out) (by rw [Hlh.out]; omega))
                  have hgs1 : JP.lenF (JP.into3F H R (O.take j)) ≤ 14000 := by have := HRl.out; have := hOl.out; omega
                  obtain ⟨P, hP⟩ : ∃ P, JP.into3F H R (O.take j) = P := ⟨_, rfl⟩
                  rw [hP] at HP htk hlt hgt hplen hgs1
                  have Hgt := Lib.hid hgt
                  have Htk := Lib.hid htk
                  have Hlt := Lib.hid hlt
                  have HlO := Lib.hid hlO
                  have Hnm := Lib.hid hnm
                  have Hwy := Lib.hid hwy
                  have Hln3 := Lib.hid hln3
                  have HgO := Lib.hid hgO
                  clear hcell1 hcc1 hy hgO hlO hnm hwy htk hlt hgt hln3 hpf hpl hpl2 hP hgs1 hbs1
                  go_wp2_with fail
                  refine HG1.out.mono ?_
                  rintro E w2 ⟨va, rfl, _, ⟨ka, hja⟩, hb2⟩
                  have HK2 := Lib.hid (HKs.out.grow hb2)
                  have HB2 := Lib.hid (HBs.out.trans (hb2.mono HBs.out.size))
                  have HI2 := Lib.hid (hI.out _ _ _ _ HIs.out hb2)
                  have HP2 := Lib.hid (HP.out.keepJ (KeepT.of hb2))
                  have HJa := Lib.hid hja
                  have HG2 := Lib.hid (get_g (x := y.1) HP2.out (by omega))
                  clear hb2 HG1 e0 hja
                  go_wp2_with fail
                  refine HG2.out.mono ?_
                  rintro E w3 ⟨vb, rfl, _, ⟨kb, hjb⟩, hb3⟩
                  have HK3 := Lib.hid (HK2.out.grow hb3)
                  have HB3 := Lib.hid (HB2.out.trans (hb3.mono HB2.out.size))
                  have HI3 := Lib.hid (hI.out _ _ _ _ HI2.out hb3)
                  have HP3 := Lib.hid (HP2.out.keepJ (KeepT.of hb3))
                  have HJa3 := Lib.hid (HJa.out.keepT (KeepT.of hb3))
                  have HJb := Lib.hid hjb
                  have HG3 := Lib.hid (get_g (x := y.1) (HO.out.keJ HK3.out) (by rw [Hln.out]; omega))
                  rw [HgO.out] at HG3
                  clear hb3 HG2 HK2 HB2 HI2 HP2 HJa hjb
                  go_wp2_with fail
                  refine HG3.out.mono ?_
                  rintro E w4 ⟨vw, rfl, hjw, _, hb4⟩
                  have HK4 := Lib.hid (HK3.out.grow hb4)
                  have HB4 := Lib.hid (HB3.out.trans (hb4.mono HB3.out.size))
                  have HI4 := Lib.hid (hI.out _ _ _ _ HI3.out hb4)
                  have HP4 := Lib.hid (HP3.out.keepJ (KeepT.of hb4))
                  have HJa4 := Lib.hid (HJa3.out.keepT (KeepT.of hb4))
                  have HJb4 := Lib.hid (HJb.out.keepT (KeepT.of hb4))
                  have HJw4 := Lib.hid (hjw y.2 rfl)
                  clear hb4 HG3 HK3 HB3 HI3 HP3 HJa3 HJb hjw
                  have HCl := Lib.hid (cloneStr_any sv _ w4 (str_raw3 (str_keepT HSv.out HOff.out (HK4.out).keep)) (by rw [List.length_map, List.length_map]; have := HWl.out; omega))
                  go_wp2_with fail
                  refine HCl.out.mono ?_
                  rintro E wc ⟨vc, rfl, hown, hbc⟩
                  have HOwn := Lib.hid hown
                  have Hbc := Lib.hid hbc
                  clear hown hbc HCl
                  have hb7 : Below wc.heap.size wc (wc.alloc (.cells #[.string (mkB y.1)] 9)) := (Below.refl _ wc).alloc (Nat.le_refl _) _
                  have HOwn7 := Lib.hid (HOwn.out.below stays_val hb7)
                  have Hb7 := Lib.hid (Hbc.out.trans (hb7.mono Hbc.out.size))
                  have Hs7 : Hid (w4.heap.size ≤ (wc.alloc (.cells #[.string (mkB y.1)] 9)).heap.size) := Lib.hid Hb7.out.size
                  have hr1 : RowAt RVal 1 (wc.alloc (.cells #[.string (mkB y.1)] 9)) (.slice (some ⟨wc.heap.size, 0, none⟩) 1 1) [Value.string (mkB y.1)] := RowAt.one (R := RVal) (x := Value.string (mkB y.1)) (heap_alloc_new wc _) rfl ⟨rfl, rfl⟩
                  have bd1 : ((way.map mkB).map Value.string).length + [Value.string (mkB y.1)].length ≤ maxLen := by unfold maxLen; rw [List.length_map, List.length_map]; simp only [List.length_cons, List.length_nil]; have := HWl.out; omega
                  have bd2 : (((way.map mkB).map Value.string).length + [Value.string (mkB y.1)].length) * 16 ≤ 140737488355328 := by rw [List.length_map, List.length_map]; simp only [List.length_cons, List.length_nil]; have := HWl.out; omega
                  clear hb7
                  go_wp2_with (at_builtin; refine wpList_append_ownAt (R := RVal) (k := 1) (e := 9) (B := w4.heap.size) (l := (way.map mkB).map .string) (m := [.string (mkB y.1)]) _ (by rfl) _ _ _ (by rfl) i0 _ 16 Tryz.underlying25 hi0 hz0 hz1 hz2 rfl (by omega) flat_val one_val _ (by rfl) HOwn7.out _ (by rfl) hr1 bd1 bd2 Hs7.out ?_)
                  intro v8 w8 hv8 hg8 hr8 _
                  have hb8 : Below w4.heap.size w4 w8 := Hb7.out.trans (below_of_grown (Below.refl _ _) Hs7.out hg8 hr8)
                  have hst8 : StrAt w8 v8 ((way ++ [y.1]).map mkB) := raw_str3 (by have h9 := hv8.row; rw [List.map_append, List.map_append]; simpa using h9)
                  have hoff8 : OffT T2 v8 ((way ++ [y.1]).map mkB) := off_own hv8 (HK4.out).lt
                  have Hb8 := Lib.hid hb8
                  have Hst8 := Lib.hid hst8
                  have Hoff8 := Lib.hid hoff8
                  clear hv8 hg8 hr8 hb8 hst8 hoff8 HOwn7 HOwn Hb7 Hs7 hr1 bd1 bd2 Hbc
                  have hIH := IH.out ka kb T2 va vb vw v8 (JP.gto y.1 H) (JP.gto y.1 P) y.2 (way ++ [y.1]) (d ++ Gs ++ (JP.lost3F H R (O.take j)).map (way ++ ·)) w8 (HJa4.out.keepT (KeepT.of Hb8.out)) (HJb4.out.keepT (KeepT.of Hb8.out)) (HJw4.out.keepT (KeepT.of Hb8.out))
                    (by rw [Hgt.out]; exact JP.wf_gto HRf.out.2) Hwy.out (by have := JP.gto_len y.1 H; have := hHl.out; omega) (by rw [Hgt.out]; have := JP.gto_len y.1 R; have := HRl.out; omega)
                    (by rw [way_sum]; have := Hnm.out; have := HWs.out; omega) Hst8.out Hoff8.out (hI.out _ _ _ _ HI4.out Hb8.out) (HK4.out.grow Hb8.out).lt (HB4.out.trans (Hb8.out.mono HB4.out.size))
                    (by
                      rw [List.length_append, List.length_append, List.length_map]
                      have h1 : Gs.length ≤ 4000 := by
                        rw [← HGs.out, List.length_map]
                        unfold JP.goesL
                        rw [List.length_map]
                        have h2 := List.length_filter_le (fun y => (JP.get y.1 LV).isSome && (JP.get y.1 O).isNone) H
                        have := JP.lenF_length H; have := hHl.out; omega
                      have := Hln3.out; have := HlO.out; have := HDl.out
                      omega)
                  have HIH := Lib.hid hIH
                  clear hIH
                  go_wp2_with fail
                  refine HIH.out.mono ?_
                  rintro E w9 ⟨u9, T9, rfl, ⟨k9, hj9⟩, hi9, hk9, hb9⟩
                  have HK9 := Lib.hid ((HK4.out.grow Hb8.out).trans hk9)
                  have HP9 := Lib.hid ((HP4.out.keepJ (KeepT.of Hb8.out)).keJ hk9)
                  have HWi := Lib.hid (with_any (x := y.1) (HP9.out.upsJ (Nat.le_max_left M2 k9)) (hj9.ups (Nat.le_max_right M2 k9)) HK9.out.lt (by omega))
                  have HI9 := Lib.hid hi9
                  have HB9 := Lib.hid hb9
                  clear hj9 hi9 hk9 hb9 HIH
                  go_wp2_with fail
                  refine HWi.out.mono ?_
                  rintro E wd ⟨qn, rfl, hon, hbn⟩
                  have HOn : Hid (ObR (JvR (max M2 k9) T9) T9 wd qn (JP.into3F H R (O.take (j + 1)))) := Lib.hid (by rw [Htk.out]; exact hon)
                  have HIn : Hid (I (d ++ Gs ++ (JP.lost3F H R (O.take (j + 1))).map (way ++ ·)) T9 wd) := Lib.hid (by
                    rw [Hlt.out, List.map_append, ← List.append_assoc, List.map_map]
                    have h9 := hI.out _ _ _ _ HI9.out hbn
                    have e9 : (JP.lost3 (JP.gto y.1 H) (JP.gto y.1 P) y.2).map (fun r => (way ++ [y.1]) ++ r) = (JP.lost3 (JP.gto y.1 H) (JP.gto y.1 P) y.2).map ((way ++ ·) ∘ (y.1 :: ·)) := List.map_congr_left fun r _ => by show way ++ [y.1] ++ r = way ++ (y.1 :: r); rw [List.append_assoc]; rfl
                    rw [← e9]
                    exact h9)
                  have HKn := Lib.hid (HK9.out.grow hbn)
                  have HBn := Lib.hid (HB9.out.trans (hbn.mono HB9.out.size))
                  clear hon hbn HWi
                  go_wp2_with fail
                  go_roundg k
                  case measure => omega
                  case rel => exact ⟨j + 1, qn, max M2 k9, T9, by omega, by go_num, rfl, HOn, HIn, HKn, HBn⟩
        · have hHn : H = [] := hHe9.symm.trans hnA
          obtain ⟨W, hW⟩ : ∃ W, W = w.alloc (.cells #[.slice none 0 0, .slice none 0 0] 95) := ⟨_, rfl⟩
          have hWb : Hid (Below w.heap.size w W) := Lib.hid (by rw [hW]; exact (Below.refl _ w).alloc (Nat.le_refl _) _)
          have hout : Hid (ObR (JvR Md G) G W qd LV) := Lib.hid (hdB.keepJ (KeepT.of hWb.out))
          have hhad : Hid (ObR (JvR 0 G) G W w.heap.size H) := Lib.hid (by rw [hW, hHn]; exact empty_ob (heap_alloc_new w _) (fun hm => absurd (hGw.out _ hm) (Nat.lt_irrefl _)))
          have hobW : Hid (ObR (JvR n G) G W qq O) := Lib.hid (hob1.out.keepJ (KeepT.of hWb.out))
          clear hdB hnA hHn
          try clear hHe9
          try clear hLe9
          obtain ⟨qh, hqh⟩ : ∃ q, w.heap.size = q := ⟨_, rfl⟩
          rw [hqh] at hhad
          go_enter Tryz.func27, Tryz.ntmps27
          go_upto_region 10 with fail
          rw [← hW]
          clear hW
          try rw [hqh]
          have HG : Hid (∀ b ∈ G, b < W.heap.size) := Lib.hid (fun b hb => Nat.lt_of_lt_of_le (hGw.out b hb) hWb.out.size)
          have HB0 := Lib.hid (hB0.out.trans (hWb.out.mono hB0.out.size))
          have HSv := Lib.hid (hsv.out.below hWb.out)
          have HO := Lib.hid (hobW.out)
          have HI0 := Lib.hid (hI.out _ _ _ _ hId.out hWb.out)
          obtain ⟨_, hsH, vnh, vvh, cnh, _, hrnh, hofh, _⟩ := hhad.out
          obtain ⟨_, hsO, vno, vvo, cno, _, hrno, hofo, _⟩ := hobW.out
          have HsH := Lib.hid hsH
          have HsO := Lib.hid hsO
          obtain ⟨ah, ch, eh, _⟩ := hrnh.len
          obtain ⟨ao, co, eo, _⟩ := hrno.len
          rw [List.length_map] at eh eo
          obtain ⟨lh, hlh⟩ : ∃ l, H.length = l := ⟨_, rfl⟩
          obtain ⟨ln, hln⟩ : ∃ l, O.length = l := ⟨_, rfl⟩
          rw [hlh] at eh
          rw [hln] at eo
          subst eh; subst eo
          have Hlh := Lib.hid hlh
          have Hln := Lib.hid hln
          have HrnH := Lib.hid hrnh
          have HofH := Lib.hid (show OffT G (.slice ah lh ch) (H.map fun x => mkB x.1) from fun hl => hofh fun e => hl (by rw [e]; rfl))
          have HrnO := Lib.hid hrno
          have HofO := Lib.hid (show OffT G (.slice ao ln co) (O.map fun x => mkB x.1) from fun hl => hofo fun e => hl (by rw [e]; rfl))
          have hlh9 : lh ≤ 100000 := by have := JP.lenF_length H; have := hHl.out; omega
          have hln9 : ln ≤ 100000 := by have := JP.lenF_length O; have := hOl.out; omega
          have Hcno := Lib.hid cno
          have Hcnh := Lib.hid cnh
          have hqO : qq ∉ G := hobW.out.1
          have hqH : qh ∉ G := hhad.out.1
          clear hsH hsO hrnh hofh hrno hofo hlh hln cno
          go_wp2_with fail
          refine (names_any qh _ W cnh).mono ?_
          rintro E wz ⟨rfl, rfl⟩
          clear cnh
          go_wp2_with fail
          go_loopg [59, 13] lh (fun k u59 u13 wr => ∃ (i qo M : Nat) (T : List Nat), i + k = lh ∧ u59 = .int .i64 (i : Int) ∧ u13 = .pointer (some ⟨qo, 0, none⟩) ∧ Hid (ObR (JvR M T) T wr qo (JP.remF (H.take i) O LV)) ∧ Hid (I (d ++ (JP.goesL (H.take i) O LV).map (fun n => way ++ [n])) T wr) ∧ Hid (KE G T W wr) ∧ Hid (Below w0.heap.size w0 wr))
          case atStart => exact ⟨0, qd, Md, G, by omega, rfl, rfl, Lib.hid (by rw [JP.rem_zero]; exact hout.out), Lib.hid (by rw [List.take_zero]; show I (d ++ []) G W; rw [List.append_nil]; exact HI0.out), Lib.hid (KE.refl HG.out), HB0⟩
          case round =>
            obtain ⟨i, qo, M, T, hik, rfl, rfl, HOut, HIr, HK, HB⟩ := hrel
            have holen : (JP.remF (H.take i) O LV).length ≤ 100000 := by have := JP.lenF_length (JP.remF (H.take i) O LV); have := JP.rem_len (H.take i) O LV; have := hLl.out; omega
            cases gk with
            | succ k =>
              have hil : i < lh := by omega
              obtain ⟨y, hy⟩ : ∃ y, H[i]? = some y := ⟨H[i]'(by rw [Hlh.out]; exact hil), List.getElem?_eq_getElem _⟩
              obtain ⟨b1, o1, c', hv1, _, _, hbs1, hcell1⟩ := HrnH.out.form (by rw [List.length_map, Hlh.out]; omega) (by omega)
              injection hv1 with u1 u2 u3
              subst u1
              clear u2 u3
              obtain ⟨ds1, _, hcc1, hR1⟩ := hcell1 i (mkB y.1) (by rw [List.getElem?_map, hy]; rfl)
              obtain rfl : ds1 = [.string (mkB y.1)] := hR1
              have e0 : wr.cell? ⟨b1, o1 + i, none⟩ = some (.string (mkB y.1)) := HK.out.keep.cell (by simpa using hcc1 0 _ rfl) (HofH.out (by intro e; have := congrArg List.length e; rw [List.length_map, Hlh.out] at this; simp at this; omega) b1 rfl)
              have q1 : (0 : Int) ≤ (i : Int) := by omega
              have q2 : (i : Int) < (lh : Int) := by omega
              have Hy := Lib.hid hy
              have HG1 := Lib.hid (get_g (x := y.1) (HO.out.keJ HK.out) (by rw [Hln.out]; omega))
              have hgt := JP.get_rem_take (o := O) (out := LV) HsH.out hy
              have hrs := JP.rem_step (o := O) HsH.out HsL.out hy
              have hgs := JP.goes_step (o := O) (out := LV) hy
              have Hgs := Lib.hid hgs
              have Hrs := Lib.hid hrs
              obtain ⟨bw, hbw⟩ : ∃ b, (JP.get y.1 O).isSome = b := ⟨_, rfl⟩
              obtain ⟨bi, hbi⟩ : ∃ b, (JP.get y.1 LV).isSome = b := ⟨_, rfl⟩
              have hbn : (JP.get y.1 O).isNone = !bw := by rw [← hbw]; cases JP.get y.1 O <;> rfl
              rw [hbw] at HG1
              rw [hbi, hbn] at Hrs Hgs
              clear hcell1 hcc1 hy hrs hgs
              go_wp2_with fail
              refine HG1.out.mono ?_
              rintro E w2 ⟨vg, rfl, _, _, hb2⟩
              have HK2 := Lib.hid (HK.out.grow hb2)
              have HB2 := Lib.hid (HB.out.trans (hb2.mono HB.out.size))
              have HI2 := Lib.hid (hI.out _ _ _ _ HIr.out hb2)
              have HOut2 := Lib.hid (HOut.out.keepJ (KeepT.of hb2))
              have HG2 := Lib.hid (get_g (x := y.1) HOut2.out (by omega))
              rw [hgt, hbi] at HG2
              clear hb2 HG1 e0 hgt hbw hbi hbn
              go_wp2_with fail
              refine HG2.out.mono ?_
              rintro E w3 ⟨vg2, rfl, _, _, hb3⟩
              have HK3 := Lib.hid (HK2.out.grow hb3)
              have HB3 := Lib.hid (HB2.out.trans (hb3.mono HB2.out.size))
              have HI3 := Lib.hid (hI.out _ _ _ _ HI2.out hb3)
              have HOut3 := Lib.hid (HOut2.out.keepJ (KeepT.of hb3))
              clear hb3 HG2 HK2 HB2 HI2 HOut2
              by_cases hgo : bi = true ∧ bw = false
              · obtain ⟨rfl, rfl⟩ := hgo
                have Hr2 : Hid (JP.remF (H.take (i + 1)) O LV = JP.cut y.1 (JP.remF (H.take i) O LV)) := Lib.hid (by rw [Hrs.out, if_pos ⟨rfl, rfl⟩])
                have Hg2 : Hid ((d ++ (JP.goesL (H.take i) O LV).map (fun n => way ++ [n])) ++ [way ++ [y.1]] = d ++ (JP.goesL (H.take (i + 1)) O LV).map (fun n => way ++ [n])) := Lib.hid (by rw [Hgs.out, if_pos ⟨rfl, rfl⟩, List.map_append, List.append_assoc]; rfl)
                clear Hrs Hgs
                have HCl := Lib.hid (cloneStr_any sv _ w3 (str_raw3 (str_keepT HSv.out HOff.out (HK3.out).keep)) (by rw [List.length_map, List.length_map]; have := HWl.out; omega))
                go_wp2_with fail
                refine HCl.out.mono ?_
                rintro E wc ⟨vc, rfl, hown, hbc⟩
                have HOwn := Lib.hid hown
                have Hbc := Lib.hid hbc
                clear hown hbc HCl
                have hb7 : Below wc.heap.size wc (wc.alloc (.cells #[.string (mkB y.1)] 9)) := (Below.refl _ wc).alloc (Nat.le_refl _) _
                have HOwn7 := Lib.hid (HOwn.out.below stays_val hb7)
                have Hb7 := Lib.hid (Hbc.out.trans (hb7.mono Hbc.out.size))
                have Hs7 : Hid (w3.heap.size ≤ (wc.alloc (.cells #[.string (mkB y.1)] 9)).heap.size) := Lib.hid Hb7.out.size
                have hr1 : RowAt RVal 1 (wc.alloc (.cells #[.string (mkB y.1)] 9)) (.slice (some ⟨wc.heap.size, 0, none⟩) 1 1) [Value.string (mkB y.1)] := RowAt.one (R := RVal) (x := Value.string (mkB y.1)) (heap_alloc_new wc _) rfl ⟨rfl, rfl⟩
                have bd1 : ((way.map mkB).map Value.string).length + [Value.string (mkB y.1)].length ≤ maxLen := by unfold maxLen; rw [List.length_map, List.length_map]; simp only [List.length_cons, List.length_nil]; have := HWl.out; omega
                have bd2 : (((way.map mkB).map Value.string).length + [Value.string (mkB y.1)].length) * 16 ≤ 140737488355328 := by rw [List.length_map, List.length_map]; simp only [List.length_cons, List.length_nil]; have := HWl.out; omega
                clear hb7
                go_wp2_with (at_builtin; refine wpList_append_ownAt (R := RVal) (k := 1) (e := 9) (B := w3.heap.size) (l := (way.map mkB).map .string) (m := [.string (mkB y.1)]) _ (by rfl) _ _ _ (by rfl) i0 _ 16 Tryz.underlying25 hi0 hz0 hz1 hz2 rfl (by omega) flat_val one_val _ (by rfl) HOwn7.out _ (by rfl) hr1 bd1 bd2 Hs7.out ?_)
                intro v8 w8 hv8 hg8 hr8 _
                have hb8 : Below w3.heap.size w3 w8 := Hb7.out.trans (below_of_grown (Below.refl _ _) Hs7.out hg8 hr8)
                have hst8 : StrAt w8 v8 ((way ++ [y.1]).map mkB) := raw_str3 (by have h9 := hv8.row; rw [List.map_append, List.map_append]; simpa using h9)
                have hoff8 : OffT T v8 ((way ++ [y.1]).map mkB) := off_own hv8 (HK3.out).lt
                have Hb8 := Lib.hid hb8
                have Hst8 := Lib.hid hst8
                have Hoff8 := Lib.hid hoff8
                clear hv8 hg8 hr8 hb8 hst8 hoff8 HOwn7 HOwn Hb7 Hs7 hr1 bd1 bd2 Hbc
                have hdl : (d ++ (JP.goesL (H.take i) O LV).map (fun n => way ++ [n])).length ≤ 40000000 := by
                  have h1 : (JP.goesL (H.take i) O LV).length ≤ 4000 := by
                    unfold JP.goesL
                    rw [List.length_map]
                    have h2 := List.length_filter_le (fun y => (JP.get y.1 LV).isSome && (JP.get y.1 O).isNone) (H.take i)
                    have h3 : (H.take i).length ≤ H.length := by rw [List.length_take]; omega
                    have := JP.lenF_length H; have := hHl.out; omega
                  rw [List.length_append, List.length_map]
                  have := HDl.out; omega
                have HCa := Lib.hid (HC.out (d ++ (JP.goesL (H.take i) O LV).map (fun n => way ++ [n])) T (way ++ [y.1]) v8 w8 (hI.out _ _ _ _ HI3.out Hb8.out) (HK3.out.grow Hb8.out).lt Hst8.out (by rw [way_sum]; have h8 : H[i]? = some (y.1, y.2) := Hy.out; have := JP.name_len h8; have := hHl.out; have := HWs.out; omega) (HB3.out.trans (Hb8.out.mono HB3.out.size)) hdl)
                clear hdl
                go_wp2_with fail
                refine HCa.out.mono ?_
                rintro E w9 ⟨rfl, T9, hi9, hk9, hb9⟩
                have HK9 := Lib.hid ((HK3.out.grow Hb8.out).trans hk9)
                have HOut9 := Lib.hid ((HOut3.out.keepJ (KeepT.of Hb8.out)).keJ hk9)
                have HB9 := Lib.hid hb9
                have HI9 := Lib.hid hi9
                have HWo := Lib.hid (without_any (x := y.1) HOut9.out HK9.out.lt (by omega))
                clear hi9 hk9 hb9 HCa
                go_wp2_with fail
                refine HWo.out.mono ?_
                rintro E wd ⟨qn, rfl, hon, hbn⟩
                have HOn : Hid (ObR (JvR M T9) T9 wd qn (JP.remF (H.take (i + 1)) O LV)) := Lib.hid (by rw [Hr2.out]; exact hon)
                have HIn : Hid (I (d ++ (JP.goesL (H.take (i + 1)) O LV).map (fun n => way ++ [n])) T9 wd) := Lib.hid (by rw [← Hg2.out]; exact hI.out _ _ _ _ HI9.out hbn)
                have HKn := Lib.hid (HK9.out.grow hbn)
                have HBn := Lib.hid (HB9.out.trans (hbn.mono HB9.out.size))
                clear hon hbn HWo
                go_wp2_with fail
                go_roundg k
                case measure => omega
                case rel => exact ⟨i + 1, qn, M, T9, by omega, by go_num, rfl, HOn, HIn, HKn, HBn⟩
              · have Hr2 : Hid (JP.remF (H.take (i + 1)) O LV = JP.remF (H.take i) O LV) := Lib.hid (by rw [Hrs.out, if_neg (fun e => hgo ⟨e.1, nb3 e.2⟩)])
                have Hg2 : Hid (JP.goesL (H.take (i + 1)) O LV = JP.goesL (H.take i) O LV) := Lib.hid (by rw [Hgs.out, if_neg (fun e => hgo ⟨e.1, nb3 e.2⟩), List.append_nil])
                have HOn : Hid (ObR (JvR M T) T w3 qo (JP.remF (H.take (i + 1)) O LV)) := Lib.hid (by rw [Hr2.out]; exact HOut3.out)
                have HIn : Hid (I (d ++ (JP.goesL (H.take (i + 1)) O LV).map (fun n => way ++ [n])) T w3) := Lib.hid (by rw [Hg2.out]; exact HI3.out)
                clear Hrs Hgs
                have hways := two3 hgo
                clear hgo
                rcases hways with rfl | ⟨rfl, rfl⟩
                · go_wp2_with fail
                  go_roundg k
                  case measure => omega
                  case rel => exact ⟨i + 1, qo, M, T, by omega, by go_num, rfl, HOn, HIn, HK3, HB3⟩
                · go_wp2_with fail
                  go_roundg k
                  case measure => omega
                  case rel => exact ⟨i + 1, qo, M, T, by omega, by go_num, rfl, HOn, HIn, HK3, HB3⟩
            | zero =>
              have hil : i = lh := by omega
              subst hil
              have q9 : ¬ (i : Int) < (i : Int) := by omega
              have htk : H.take i = H := List.take_of_length_le (by rw [Hlh.out]; exact Nat.le_refl _)
              rw [htk] at HOut HIr holen
              have HR0 := HOut
              have HIR := HIr
              obtain ⟨R, hR⟩ : ∃ R, JP.remF H O LV = R := ⟨_, rfl⟩
              obtain ⟨Gs, hGs⟩ : ∃ R, (JP.goesL H O LV).map (fun n => way ++ [n]) = R := ⟨_, rfl⟩
              rw [hR] at HR0
              rw [hGs] at HIR
              have HR := Lib.hid hR
              have HGs := Lib.hid hGs
              have hRs : JP.Srt R := by rw [← hR]; exact JP.srt_rem HsL.out
              have HRs := Lib.hid hRs
              have hRf : JP.Fld R := by rw [← hR]; exact ⟨JP.srt_rem HsL.out, JP.wfF_filter _ hLf.out⟩
              have HRf := Lib.hid hRf
              have hRl : JP.lenF R ≤ 4000 := by rw [← hR]; have := JP.rem_len H O LV; have := hLl.out; omega
              have HRl := Lib.hid hRl
              have cn2 : wr.cell? ⟨qq, 0, none⟩ = some (.slice ao ln co) := HK.out.keep.cell Hcno.out hqO
              clear htk hR hGs hRs hRf hRl HOut HIr holen
              go_wp2_with fail
              refine (names_any qq _ wr cn2).mono ?_
              rintro E wz ⟨rfl, rfl⟩
              clear cn2
              go_wp2_with fail
              go_loopg [94, 13] ln (fun k u94 u13 wr => ∃ (j qo M : Nat) (T : List Nat), j + k = ln ∧ u94 = .int .i64 (j : Int) ∧ u13 = .pointer (some ⟨qo, 0, none⟩) ∧ Hid (ObR (JvR M T) T wr qo (JP.into3F H R (O.take j))) ∧ Hid (I (d ++ Gs ++ (JP.lost3F H R (O.take j)).map (way ++ ·)) T wr) ∧ Hid (KE G T W wr) ∧ Hid (Below w0.heap.size w0 wr))
              case atStart => exact ⟨0, qo, M, T, by omega, rfl, rfl, Lib.hid (by rw [List.take_zero, JP.into3F_nil]; exact HR0.out), Lib.hid (by rw [List.take_zero, JP.lost3F_nil, List.map_nil, List.append_nil]; exact HIR.out), HK, HB⟩
              case round =>
                obtain ⟨j, qp, M2, T2, hjk, rfl, rfl, HP, HIs, HKs, HBs⟩ := hrel
                obtain ⟨hpf, hpl⟩ := JP.into3_fit.2.2 (O.take j) (wfF_take3 j hOf.out) H R HRf.out
                have hpl2 : JP.lenF (O.take j) ≤ JP.lenF O := lenF_take3 j O
                have hplen : (JP.into3F H R (O.take j)).length ≤ 100000 := by have := JP.lenF_length (JP.into3F H R (O.take j)); have := HRl.out; have := hOl.out; omega
                cases gk with
                | zero =>
                  have hjl : j = ln := by omega
                  subst hjl
                  have q8 : ¬ (j : Int) < (j : Int) := by omega
                  have htk : O.take j = O := List.take_of_length_le (by rw [Hln.out]; exact Nat.le_refl _)
                  rw [htk] at HP HIs
                  have Hfin : Hid (RR = .obj (JP.into3F H R O)) := Lib.hid (by rw [← HRR.out, HR.out])
                  have Hlost : Hid (d ++ Gs ++ (JP.lost3F H R O).map (way ++ ·) = LL) := Lib.hid (by rw [← HLL.out, HR.out, List.map_append, ← HGs.out, List.map_map, List.append_assoc]; rfl)
                  clear htk hpf hpl hpl2 hplen
                  go_wp2_with fail
                  go_ret
                  exact ⟨_, T2, rfl, ⟨M2 + 1, by rw [Hfin.out]; exact ⟨qp, rfl, HP.out⟩⟩, by rw [← Hlost.out]; exact HIs.out, HKs.out.before hWb.out, HBs.out⟩
                | succ k =>
                  have hil : j < ln := by omega
                  obtain ⟨y, hy⟩ : ∃ y, O[j]? = some y := ⟨O[j]'(by rw [Hln.out]; exact hil), List.getElem?_eq_getElem _⟩
                  obtain ⟨b1, o1, c', hv1, _, _, hbs1, hcell1⟩ := HrnO.out.form (by rw [List.length_map, Hln.out]; omega) (by omega)
                  injection hv1 with u1 u2 u3
                  subst u1
                  clear u2 u3
                  obtain ⟨ds1, _, hcc1, hR1⟩ := hcell1 j (mkB y.1) (by rw [List.getElem?_map, hy]; rfl)
                  obtain rfl : ds1 = [.string (mkB y.1)] := hR1
                  have e0 : wr.cell? ⟨b1, o1 + j, none⟩ = some (.string (mkB y.1)) := HKs.out.keep.cell (by simpa using hcc1 0 _ rfl) (HofO.out (by intro e; have := congrArg List.length e; rw [List.length_map, Hln.out] at this; simp at this; omega) b1 rfl)
                  have q1 : (0 : Int) ≤ (j : Int) := by omega
                  have q2 : (j : Int) < (ln : Int) := by omega
                  have Hy := Lib.hid hy
                  have hgO := JP.get_at3 HsO.out hy
                  have hlO := JP.lenF_at3 hy
                  have hnm : y.1.length + 1 + (JP.text y.2).length + 2 ≤ JP.lenF O := JP.name_len (show O[j]? = some (y.1, y.2) from hy)
                  have hwy := JP.wfF_at3 hOf.out hy
                  have htk := JP.into3F_take (had := H) (out := R) hy
                  have hlt := JP.lost3F_take (had := H) (out := R) hy
                  have hgt : JP.gto y.1 (JP.into3F H R (O.take j)) = JP.gto y.1 R := JP.gto_take HsO.out hy
                  have hln3 := (JP.lost_len).2.2 (O.take j) H R hHl.out
                  have HG1 := Lib.hid (get_g (x := y.1) (hhad.out.keJ HKs.out) (by rw [Hlh.out]; omega))
                  have hgs1 : JP.lenF (JP.into3F H R (O.take j)) ≤ 14000 := by have := HRl.out; have := hOl.out; omega
                  obtain ⟨P, hP⟩ : ∃ P, JP.into3F H R (O.take j) = P := ⟨_, rfl⟩
                  rw [hP] at HP htk hlt hgt hplen hgs1
                  have Hgt := Lib.hid hgt
                  have Htk := Lib.hid htk
                  have Hlt := Lib.hid hlt
                  have HlO := Lib.hid hlO
                  have Hnm := Lib.hid hnm
                  have Hwy := Lib.hid hwy
                  have Hln3 := Lib.hid hln3
                  have HgO := Lib.hid hgO
                  clear hcell1 hcc1 hy hgO hlO hnm hwy htk hlt hgt hln3 hpf hpl hpl2 hP hgs1 hbs1
                  go_wp2_with fail
                  refine HG1.out.mono ?_
                  rintro E w2 ⟨va, rfl, _, ⟨ka, hja⟩, hb2⟩
                  have HK2 := Lib.hid (HKs.out.grow hb2)
                  have HB2 := Lib.hid (HBs.out.trans (hb2.mono HBs.out.size))
                  have HI2 := Lib.hid (hI.out _ _ _ _ HIs.out hb2)
                  have HP2 := Lib.hid (HP.out.keepJ (KeepT.of hb2))
                  have HJa := Lib.hid hja
                  have HG2 := Lib.hid (get_g (x := y.1) HP2.out (by omega))
                  clear hb2 HG1 e0 hja
                  go_wp2_with fail
                  refine HG2.out.mono ?_
                  rintro E w3 ⟨vb, rfl, _, ⟨kb, hjb⟩, hb3⟩
                  have HK3 := Lib.hid (HK2.out.grow hb3)
                  have HB3 := Lib.hid (HB2.out.trans (hb3.mono HB2.out.size))
                  have HI3 := Lib.hid (hI.out _ _ _ _ HI2.out hb3)
                  have HP3 := Lib.hid (HP2.out.keepJ (KeepT.of hb3))
                  have HJa3 := Lib.hid (HJa.out.keepT (KeepT.of hb3))
                  have HJb := Lib.hid hjb
                  have HG3 := Lib.hid (get_g (x := y.1) (HO.out.keJ HK3.out) (by rw [Hln.out]; omega))
                  rw [HgO.out] at HG3
                  clear hb3 HG2 HK2 HB2 HI2 HP2 HJa hjb
                  go_wp2_with fail
                  refine HG3.out.mono ?_
                  rintro E w4 ⟨vw, rfl, hjw, _, hb4⟩
                  have HK4 := Lib.hid (HK3.out.grow hb4)
                  have HB4 := Lib.hid (HB3.out.trans (hb4.mono HB3.out.size))
                  have HI4 := Lib.hid (hI.out _ _ _ _ HI3.out hb4)
                  have HP4 := Lib.hid (HP3.out.keepJ (KeepT.of hb4))
                  have HJa4 := Lib.hid (HJa3.out.keepT (KeepT.of hb4))
                  have HJb4 := Lib.hid (HJb.out.keepT (KeepT.of hb4))
                  have HJw4 := Lib.hid (hjw y.2 rfl)
                  clear hb4 HG3 HK3 HB3 HI3 HP3 HJa3 HJb hjw
                  have HCl := Lib.hid (cloneStr_any sv _ w4 (str_raw3 (str_keepT HSv.out HOff.out (HK4.out).keep)) (by rw [List.length_map, List.length_map]; have := HWl.out; omega))
                  go_wp2_with fail
                  refine HCl.out.mono ?_
                  rintro E wc ⟨vc, rfl, hown, hbc⟩
                  have HOwn := Lib.hid hown
                  have Hbc := Lib.hid hbc
                  clear hown hbc HCl
                  have hb7 : Below wc.heap.size wc (wc.alloc (.cells #[.string (mkB y.1)] 9)) := (Below.refl _ wc).alloc (Nat.le_refl _) _
                  have HOwn7 := Lib.hid (HOwn.out.below stays_val hb7)
                  have Hb7 := Lib.hid (Hbc.out.trans (hb7.mono Hbc.out.size))
                  have Hs7 : Hid (w4.heap.size ≤ (wc.alloc (.cells #[.string (mkB y.1)] 9)).heap.size) := Lib.hid Hb7.out.size
                  have hr1 : RowAt RVal 1 (wc.alloc (.cells #[.string (mkB y.1)] 9)) (.slice (some ⟨wc.heap.size, 0, none⟩) 1 1) [Value.string (mkB y.1)] := RowAt.one (R := RVal) (x := Value.string (mkB y.1)) (heap_alloc_new wc _) rfl ⟨rfl, rfl⟩
                  have bd1 : ((way.map mkB).map Value.string).length + [Value.string (mkB y.1)].length ≤ maxLen := by unfold maxLen; rw [List.length_map, List.length_map]; simp only [List.length_cons, List.length_nil]; have := HWl.out; omega
                  have bd2 : (((way.map mkB).map Value.string).length + [Value.string (mkB y.1)].length) * 16 ≤ 140737488355328 := by rw [List.length_map, List.length_map]; simp only [List.length_cons, List.length_nil]; have := HWl.out; omega
                  clear hb7
                  go_wp2_with (at_builtin; refine wpList_append_ownAt (R := RVal) (k := 1) (e := 9) (B := w4.heap.size) (l := (way.map mkB).map .string) (m := [.string (mkB y.1)]) _ (by rfl) _ _ _ (by rfl) i0 _ 16 Tryz.underlying25 hi0 hz0 hz1 hz2 rfl (by omega) flat_val one_val _ (by rfl) HOwn7.out _ (by rfl) hr1 bd1 bd2 Hs7.out ?_)
                  intro v8 w8 hv8 hg8 hr8 _
                  have hb8 : Below w4.heap.size w4 w8 := Hb7.out.trans (below_of_grown (Below.refl _ _) Hs7.out hg8 hr8)
                  have hst8 : StrAt w8 v8 ((way ++ [y.1]).map mkB) := raw_str3 (by have h9 := hv8.row; rw [List.map_append, List.map_append]; simpa using h9)
                  have hoff8 : OffT T2 v8 ((way ++ [y.1]).map mkB) := off_own hv8 (HK4.out).lt
                  have Hb8 := Lib.hid hb8
                  have Hst8 := Lib.hid hst8
                  have Hoff8 := Lib.hid hoff8
                  clear hv8 hg8 hr8 hb8 hst8 hoff8 HOwn7 HOwn Hb7 Hs7 hr1 bd1 bd2 Hbc
                  have hIH := IH.out ka kb T2 va vb vw v8 (JP.gto y.1 H) (JP.gto y.1 P) y.2 (way ++ [y.1]) (d ++ Gs ++ (JP.lost3F H R (O.take j)).map (way ++ ·)) w8 (HJa4.out.keepT (KeepT.of Hb8.out)) (HJb4.out.keepT (KeepT.of Hb8.out)) (HJw4.out.keepT (KeepT.of Hb8.out))
                    (by rw [Hgt.out]; exact JP.wf_gto HRf.out.2) Hwy.out (by have := JP.gto_len y.1 H; have := hHl.out; omega) (by rw [Hgt.out]; have := JP.gto_len y.1 R; have := HRl.out; omega)
                    (by rw [way_sum]; have := Hnm.out; have := HWs.out; omega) Hst8.out Hoff8.out (hI.out _ _ _ _ HI4.out Hb8.out) (HK4.out.grow Hb8.out).lt (HB4.out.trans (Hb8.out.mono HB4.out.size))
                    (by
                      rw [List.length_append, List.length_append, List.length_map]
                      have h1 : Gs.length ≤ 4000 := by
                        rw [← HGs.out, List.length_map]
                        unfold JP.goesL
                        rw [List.length_map]
                        have h2 := List.length_filter_le (fun y => (JP.get y.1 LV).isSome && (JP.get y.1 O).isNone) H
                        have := JP.lenF_length H; have := hHl.out; omega
                      have := Hln3.out; have := HlO.out; have := HDl.out
                      omega)
                  have HIH := Lib.hid hIH
                  clear hIH
                  go_wp2_with fail
                  refine HIH.out.mono ?_
                  rintro E w9 ⟨u9, T9, rfl, ⟨k9, hj9⟩, hi9, hk9, hb9⟩
                  have HK9 := Lib.hid ((HK4.out.grow Hb8.out).trans hk9)
                  have HP9 := Lib.hid ((HP4.out.keepJ (KeepT.of Hb8.out)).keJ hk9)
                  have HWi := Lib.hid (with_any (x := y.1) (HP9.out.upsJ (Nat.le_max_left M2 k9)) (hj9.ups (Nat.le_max_right M2 k9)) HK9.out.lt (by omega))
                  have HI9 := Lib.hid hi9
                  have HB9 := Lib.hid hb9
                  clear hj9 hi9 hk9 hb9 HIH
                  go_wp2_with fail
                  refine HWi.out.mono ?_
                  rintro E wd ⟨qn, rfl, hon, hbn⟩
                  have HOn : Hid (ObR (JvR (max M2 k9) T9) T9 wd qn (JP.into3F H R (O.take (j + 1)))) := Lib.hid (by rw [Htk.out]; exact hon)
                  have HIn : Hid (I (d ++ Gs ++ (JP.lost3F H R (O.take (j + 1))).map (way ++ ·)) T9 wd) := Lib.hid (by
                    rw [Hlt.out, List.map_append, ← List.append_assoc, List.map_map]
                    have h9 := hI.out _ _ _ _ HI9.out hbn
                    have e9 : (JP.lost3 (JP.gto y.1 H) (JP.gto y.1 P) y.2).map (fun r => (way ++ [y.1]) ++ r) = (JP.lost3 (JP.gto y.1 H) (JP.gto y.1 P) y.2).map ((way ++ ·) ∘ (y.1 :: ·)) := List.map_congr_left fun r _ => by show way ++ [y.1] ++ r = way ++ (y.1 :: r); rw [List.append_assoc]; rfl
                    rw [← e9]
                    exact h9)
                  have HKn := Lib.hid (HK9.out.grow hbn)
                  have HBn := Lib.hid (HB9.out.trans (hbn.mono HB9.out.size))
                  clear hon hbn HWi
                  go_wp2_with fail
                  go_roundg k
                  case measure => omega
                  case rel => exact ⟨j + 1, qn, max M2 k9, T9, by omega, by go_num, rfl, HOn, HIn, HKn, HBn⟩
      · have hLn : LV = [] := hLe9.symm.trans hnB
        rcases hwayA with ⟨dA, qh, Mh, rfl, rfl, hdA⟩ | ⟨hnA, hnA2, GA⟩
        · have GA := (as_obj (.pointer (some ⟨qh, 0, none⟩))).2.2.2.2
          obtain rfl : H = dA := hHe9.symm
          obtain ⟨W, hW⟩ : ∃ W, W = w.alloc (.cells #[.slice none 0 0, .slice none 0 0] 95) := ⟨_, rfl⟩
          have hWb : Hid (Below w.heap.size w W) := Lib.hid (by rw [hW]; exact (Below.refl _ w).alloc (Nat.le_refl _) _)
          have hout : Hid (ObR (JvR 0 G) G W w.heap.size LV) := Lib.hid (by rw [hW, hLn]; exact empty_ob (heap_alloc_new w _) (fun hm => absurd (hGw.out _ hm) (Nat.lt_irrefl _)))
          have hhad : Hid (ObR (JvR Mh G) G W qh H) := Lib.hid (hdA.keepJ (KeepT.of hWb.out))
          have hobW : Hid (ObR (JvR n G) G W qq O) := Lib.hid (hob1.out.keepJ (KeepT.of hWb.out))
          clear hdA hnB hLn
          try clear hHe9
          try clear hLe9
          obtain ⟨qd, hqd⟩ : ∃ q, w.heap.size = q := ⟨_, rfl⟩
          rw [hqd] at hout
          go_enter Tryz.func27, Tryz.ntmps27
          go_upto_region 10 with fail
          rw [← hW]
          clear hW
          try rw [hqd]
          have HG : Hid (∀ b ∈ G, b < W.heap.size) := Lib.hid (fun b hb => Nat.lt_of_lt_of_le (hGw.out b hb) hWb.out.size)
          have HB0 := Lib.hid (hB0.out.trans (hWb.out.mono hB0.out.size))
          have HSv := Lib.hid (hsv.out.below hWb.out)
          have HO := Lib.hid (hobW.out)
          have HI0 := Lib.hid (hI.out _ _ _ _ hId.out hWb.out)
          obtain ⟨_, hsH, vnh, vvh, cnh, _, hrnh, hofh, _⟩ := hhad.out
          obtain ⟨_, hsO, vno, vvo, cno, _, hrno, hofo, _⟩ := hobW.out
          have HsH := Lib.hid hsH
          have HsO := Lib.hid hsO
          obtain ⟨ah, ch, eh, _⟩ := hrnh.len
          obtain ⟨ao, co, eo, _⟩ := hrno.len
          rw [List.length_map] at eh eo
          obtain ⟨lh, hlh⟩ : ∃ l, H.length = l := ⟨_, rfl⟩
          obtain ⟨ln, hln⟩ : ∃ l, O.length = l := ⟨_, rfl⟩
          rw [hlh] at eh
          rw [hln] at eo
          subst eh; subst eo
          have Hlh := Lib.hid hlh
          have Hln := Lib.hid hln
          have HrnH := Lib.hid hrnh
          have HofH := Lib.hid (show OffT G (.slice ah lh ch) (H.map fun x => mkB x.1) from fun hl => hofh fun e => hl (by rw [e]; rfl))
          have HrnO := Lib.hid hrno
          have HofO := Lib.hid (show OffT G (.slice ao ln co) (O.map fun x => mkB x.1) from fun hl => hofo fun e => hl (by rw [e]; rfl))
          have hlh9 : lh ≤ 100000 := by have := JP.lenF_length H; have := hHl.out; omega
          have hln9 : ln ≤ 100000 := by have := JP.lenF_length O; have := hOl.out; omega
          have Hcno := Lib.hid cno
          have Hcnh := Lib.hid cnh
          have hqO : qq ∉ G := hobW.out.1
          have hqH : qh ∉ G := hhad.out.1
          clear hsH hsO hrnh hofh hrno hofo hlh hln cno
          go_wp2_with fail
          refine (names_any qh _ W cnh).mono ?_
          rintro E wz ⟨rfl, rfl⟩
          clear cnh
          go_wp2_with fail
          go_loopg [59, 13] lh (fun k u59 u13 wr => ∃ (i qo M : Nat) (T : List Nat), i + k = lh ∧ u59 = .int .i64 (i : Int) ∧ u13 = .pointer (some ⟨qo, 0, none⟩) ∧ Hid (ObR (JvR M T) T wr qo (JP.remF (H.take i) O LV)) ∧ Hid (I (d ++ (JP.goesL (H.take i) O LV).map (fun n => way ++ [n])) T wr) ∧ Hid (KE G T W wr) ∧ Hid (Below w0.heap.size w0 wr))
          case atStart => exact ⟨0, qd, 0, G, by omega, rfl, rfl, Lib.hid (by rw [JP.rem_zero]; exact hout.out), Lib.hid (by rw [List.take_zero]; show I (d ++ []) G W; rw [List.append_nil]; exact HI0.out), Lib.hid (KE.refl HG.out), HB0⟩
          case round =>
            obtain ⟨i, qo, M, T, hik, rfl, rfl, HOut, HIr, HK, HB⟩ := hrel
            have holen : (JP.remF (H.take i) O LV).length ≤ 100000 := by have := JP.lenF_length (JP.remF (H.take i) O LV); have := JP.rem_len (H.take i) O LV; have := hLl.out; omega
            cases gk with
            | succ k =>
              have hil : i < lh := by omega
              obtain ⟨y, hy⟩ : ∃ y, H[i]? = some y := ⟨H[i]'(by rw [Hlh.out]; exact hil), List.getElem?_eq_getElem _⟩
              obtain ⟨b1, o1, c', hv1, _, _, hbs1, hcell1⟩ := HrnH.out.form (by rw [List.length_map, Hlh.out]; omega) (by omega)
              injection hv1 with u1 u2 u3
              subst u1
              clear u2 u3
              obtain ⟨ds1, _, hcc1, hR1⟩ := hcell1 i (mkB y.1) (by rw [List.getElem?_map, hy]; rfl)
              obtain rfl : ds1 = [.string (mkB y.1)] := hR1
              have e0 : wr.cell? ⟨b1, o1 + i, none⟩ = some (.string (mkB y.1)) := HK.out.keep.cell (by simpa using hcc1 0 _ rfl) (HofH.out (by intro e; have := congrArg List.length e; rw [List.length_map, Hlh.out] at this; simp at this; omega) b1 rfl)
              have q1 : (0 : Int) ≤ (i : Int) := by omega
              have q2 : (i : Int) < (lh : Int) := by omega
              have Hy := Lib.hid hy
              have HG1 := Lib.hid (get_g (x := y.1) (HO.out.keJ HK.out) (by rw [Hln.out]; omega))
              have hgt := JP.get_rem_take (o := O) (out := LV) HsH.out hy
              have hrs := JP.rem_step (o := O) HsH.out HsL.out hy
              have hgs := JP.goes_step (o := O) (out := LV) hy
              have Hgs := Lib.hid hgs
              have Hrs := Lib.hid hrs
              obtain ⟨bw, hbw⟩ : ∃ b, (JP.get y.1 O).isSome = b := ⟨_, rfl⟩
              obtain ⟨bi, hbi⟩ : ∃ b, (JP.get y.1 LV).isSome = b := ⟨_, rfl⟩
              have hbn : (JP.get y.1 O).isNone = !bw := by rw [← hbw]; cases JP.get y.1 O <;> rfl
              rw [hbw] at HG1
              rw [hbi, hbn] at Hrs Hgs
              clear hcell1 hcc1 hy hrs hgs
              go_wp2_with fail
              refine HG1.out.mono ?_
              rintro E w2 ⟨vg, rfl, _, _, hb2⟩
              have HK2 := Lib.hid (HK.out.grow hb2)
              have HB2 := Lib.hid (HB.out.trans (hb2.mono HB.out.size))
              have HI2 := Lib.hid (hI.out _ _ _ _ HIr.out hb2)
              have HOut2 := Lib.hid (HOut.out.keepJ (KeepT.of hb2))
              have HG2 := Lib.hid (get_g (x := y.1) HOut2.out (by omega))
              rw [hgt, hbi] at HG2
              clear hb2 HG1 e0 hgt hbw hbi hbn
              go_wp2_with fail
              refine HG2.out.mono ?_
              rintro E w3 ⟨vg2, rfl, _, _, hb3⟩
              have HK3 := Lib.hid (HK2.out.grow hb3)
              have HB3 := Lib.hid (HB2.out.trans (hb3.mono HB2.out.size))
              have HI3 := Lib.hid (hI.out _ _ _ _ HI2.out hb3)
              have HOut3 := Lib.hid (HOut2.out.keepJ (KeepT.of hb3))
              clear hb3 HG2 HK2 HB2 HI2 HOut2
              by_cases hgo : bi = true ∧ bw = false
              · obtain ⟨rfl, rfl⟩ := hgo
                have Hr2 : Hid (JP.remF (H.take (i + 1)) O LV = JP.cut y.1 (JP.remF (H.take i) O LV)) := Lib.hid (by rw [Hrs.out, if_pos ⟨rfl, rfl⟩])
                have Hg2 : Hid ((d ++ (JP.goesL (H.take i) O LV).map (fun n => way ++ [n])) ++ [way ++ [y.1]] = d ++ (JP.goesL (H.take (i + 1)) O LV).map (fun n => way ++ [n])) := Lib.hid (by rw [Hgs.out, if_pos ⟨rfl, rfl⟩, List.map_append, List.append_assoc]; rfl)
                clear Hrs Hgs
                have HCl := Lib.hid (cloneStr_any sv _ w3 (str_raw3 (str_keepT HSv.out HOff.out (HK3.out).keep)) (by rw [List.length_map, List.length_map]; have := HWl.out; omega))
                go_wp2_with fail
                refine HCl.out.mono ?_
                rintro E wc ⟨vc, rfl, hown, hbc⟩
                have HOwn := Lib.hid hown
                have Hbc := Lib.hid hbc
                clear hown hbc HCl
                have hb7 : Below wc.heap.size wc (wc.alloc (.cells #[.string (mkB y.1)] 9)) := (Below.refl _ wc).alloc (Nat.le_refl _) _
                have HOwn7 := Lib.hid (HOwn.out.below stays_val hb7)
                have Hb7 := Lib.hid (Hbc.out.trans (hb7.mono Hbc.out.size))
                have Hs7 : Hid (w3.heap.size ≤ (wc.alloc (.cells #[.string (mkB y.1)] 9)).heap.size) := Lib.hid Hb7.out.size
                have hr1 : RowAt RVal 1 (wc.alloc (.cells #[.string (mkB y.1)] 9)) (.slice (some ⟨wc.heap.size, 0, none⟩) 1 1) [Value.string (mkB y.1)] := RowAt.one (R := RVal) (x := Value.string (mkB y.1)) (heap_alloc_new wc _) rfl ⟨rfl, rfl⟩
                have bd1 : ((way.map mkB).map Value.string).length + [Value.string (mkB y.1)].length ≤ maxLen := by unfold maxLen; rw [List.length_map, List.length_map]; simp only [List.length_cons, List.length_nil]; have := HWl.out; omega
                have bd2 : (((way.map mkB).map Value.string).length + [Value.string (mkB y.1)].length) * 16 ≤ 140737488355328 := by rw [List.length_map, List.length_map]; simp only [List.length_cons, List.length_nil]; have := HWl.out; omega
                clear hb7
                go_wp2_with (at_builtin; refine wpList_append_ownAt (R := RVal) (k := 1) (e := 9) (B := w3.heap.size) (l := (way.map mkB).map .string) (m := [.string (mkB y.1)]) _ (by rfl) _ _ _ (by rfl) i0 _ 16 Tryz.underlying25 hi0 hz0 hz1 hz2 rfl (by omega) flat_val one_val _ (by rfl) HOwn7.out _ (by rfl) hr1 bd1 bd2 Hs7.out ?_)
                intro v8 w8 hv8 hg8 hr8 _
                have hb8 : Below w3.heap.size w3 w8 := Hb7.out.trans (below_of_grown (Below.refl _ _) Hs7.out hg8 hr8)
                have hst8 : StrAt w8 v8 ((way ++ [y.1]).map mkB) := raw_str3 (by have h9 := hv8.row; rw [List.map_append, List.map_append]; simpa using h9)
                have hoff8 : OffT T v8 ((way ++ [y.1]).map mkB) := off_own hv8 (HK3.out).lt
                have Hb8 := Lib.hid hb8
                have Hst8 := Lib.hid hst8
                have Hoff8 := Lib.hid hoff8
                clear hv8 hg8 hr8 hb8 hst8 hoff8 HOwn7 HOwn Hb7 Hs7 hr1 bd1 bd2 Hbc
                have hdl : (d ++ (JP.goesL (H.take i) O LV).map (fun n => way ++ [n])).length ≤ 40000000 := by
                  have h1 : (JP.goesL (H.take i) O LV).length ≤ 4000 := by
                    unfold JP.goesL
                    rw [List.length_map]
                    have h2 := List.length_filter_le (fun y => (JP.get y.1 LV).isSome && (JP.get y.1 O).isNone) (H.take i)
                    have h3 : (H.take i).length ≤ H.length := by rw [List.length_take]; omega
                    have := JP.lenF_length H; have := hHl.out; omega
                  rw [List.length_append, List.length_map]
                  have := HDl.out; omega
                have HCa := Lib.hid (HC.out (d ++ (JP.goesL (H.take i) O LV).map (fun n => way ++ [n])) T (way ++ [y.1]) v8 w8 (hI.out _ _ _ _ HI3.out Hb8.out) (HK3.out.grow Hb8.out).lt Hst8.out (by rw [way_sum]; have h8 : H[i]? = some (y.1, y.2) := Hy.out; have := JP.name_len h8; have := hHl.out; have := HWs.out; omega) (HB3.out.trans (Hb8.out.mono HB3.out.size)) hdl)
                clear hdl
                go_wp2_with fail
                refine HCa.out.mono ?_
                rintro E w9 ⟨rfl, T9, hi9, hk9, hb9⟩
                have HK9 := Lib.hid ((HK3.out.grow Hb8.out).trans hk9)
                have HOut9 := Lib.hid ((HOut3.out.keepJ (KeepT.of Hb8.out)).keJ hk9)
                have HB9 := Lib.hid hb9
                have HI9 := Lib.hid hi9
                have HWo := Lib.hid (without_any (x := y.1) HOut9.out HK9.out.lt (by omega))
                clear hi9 hk9 hb9 HCa
                go_wp2_with fail
                refine HWo.out.mono ?_
                rintro E wd ⟨qn, rfl, hon, hbn⟩
                have HOn : Hid (ObR (JvR M T9) T9 wd qn (JP.remF (H.take (i + 1)) O LV)) := Lib.hid (by rw [Hr2.out]; exact hon)
                have HIn : Hid (I (d ++ (JP.goesL (H.take (i + 1)) O LV).map (fun n => way ++ [n])) T9 wd) := Lib.hid (by rw [← Hg2.out]; exact hI.out _ _ _ _ HI9.out hbn)
                have HKn := Lib.hid (HK9.out.grow hbn)
                have HBn := Lib.hid (HB9.out.trans (hbn.mono HB9.out.size))
                clear hon hbn HWo
                go_wp2_with fail
                go_roundg k
                case measure => omega
                case rel => exact ⟨i + 1, qn, M, T9, by omega, by go_num, rfl, HOn, HIn, HKn, HBn⟩
              · have Hr2 : Hid (JP.remF (H.take (i + 1)) O LV = JP.remF (H.take i) O LV) := Lib.hid (by rw [Hrs.out, if_neg (fun e => hgo ⟨e.1, nb3 e.2⟩)])
                have Hg2 : Hid (JP.goesL (H.take (i + 1)) O LV = JP.goesL (H.take i) O LV) := Lib.hid (by rw [Hgs.out, if_neg (fun e => hgo ⟨e.1, nb3 e.2⟩), List.append_nil])
                have HOn : Hid (ObR (JvR M T) T w3 qo (JP.remF (H.take (i + 1)) O LV)) := Lib.hid (by rw [Hr2.out]; exact HOut3.out)
                have HIn : Hid (I (d ++ (JP.goesL (H.take (i + 1)) O LV).map (fun n => way ++ [n])) T w3) := Lib.hid (by rw [Hg2.out]; exact HI3.out)
                clear Hrs Hgs
                have hways := two3 hgo
                clear hgo
                rcases hways with rfl | ⟨rfl, rfl⟩
                · go_wp2_with fail
                  go_roundg k
                  case measure => omega
                  case rel => exact ⟨i + 1, qo, M, T, by omega, by go_num, rfl, HOn, HIn, HK3, HB3⟩
                · go_wp2_with fail
                  go_roundg k
                  case measure => omega
                  case rel => exact ⟨i + 1, qo, M, T, by omega, by go_num, rfl, HOn, HIn, HK3, HB3⟩
            | zero =>
              have hil : i = lh := by omega
              subst hil
              have q9 : ¬ (i : Int) < (i : Int) := by omega
              have htk : H.take i = H := List.take_of_length_le (by rw [Hlh.out]; exact Nat.le_refl _)
              rw [htk] at HOut HIr holen
              have HR0 := HOut
              have HIR := HIr
              obtain ⟨R, hR⟩ : ∃ R, JP.remF H O LV = R := ⟨_, rfl⟩
              obtain ⟨Gs, hGs⟩ : ∃ R, (JP.goesL H O LV).map (fun n => way ++ [n]) = R := ⟨_, rfl⟩
              rw [hR] at HR0
              rw [hGs] at HIR
              have HR := Lib.hid hR
              have HGs := Lib.hid hGs
              have hRs : JP.Srt R := by rw [← hR]; exact JP.srt_rem HsL.out
              have HRs := Lib.hid hRs
              have hRf : JP.Fld R := by rw [← hR]; exact ⟨JP.srt_rem HsL.out, JP.wfF_filter _ hLf.out⟩
              have HRf := Lib.hid hRf
              have hRl : JP.lenF R ≤ 4000 := by rw [← hR]; have := JP.rem_len H O LV; have := hLl.out; omega
              have HRl := Lib.hid hRl
              have cn2 : wr.cell? ⟨qq, 0, none⟩ = some (.slice ao ln co) := HK.out.keep.cell Hcno.out hqO
              clear htk hR hGs hRs hRf hRl HOut HIr holen
              go_wp2_with fail
              refine (names_any qq _ wr cn2).mono ?_
              rintro E wz ⟨rfl, rfl⟩
              clear cn2
              go_wp2_with fail
              go_loopg [94, 13] ln (fun k u94 u13 wr => ∃ (j qo M : Nat) (T : List Nat), j + k = ln ∧ u94 = .int .i64 (j : Int) ∧ u13 = .pointer (some ⟨qo, 0, none⟩) ∧ Hid (ObR (JvR M T) T wr qo (JP.into3F H R (O.take j))) ∧ Hid (I (d ++ Gs ++ (JP.lost3F H R (O.take j)).map (way ++ ·)) T wr) ∧ Hid (KE G T W wr) ∧ Hid (Below w0.heap.size w0 wr))
              case atStart => exact ⟨0, qo, M, T, by omega, rfl, rfl, Lib.hid (by rw [List.take_zero, JP.into3F_nil]; exact HR0.out), Lib.hid (by rw [List.take_zero, JP.lost3F_nil, List.map_nil, List.append_nil]; exact HIR.out), HK, HB⟩
              case round =>
                obtain ⟨j, qp, M2, T2, hjk, rfl, rfl, HP, HIs, HKs, HBs⟩ := hrel
                obtain ⟨hpf, hpl⟩ := JP.into3_fit.2.2 (O.take j) (wfF_take3 j hOf.out) H R HRf.out
                have hpl2 : JP.lenF (O.take j) ≤ JP.lenF O := lenF_take3 j O
                have hplen : (JP.into3F H R (O.take j)).length ≤ 100000 := by have := JP.lenF_length (JP.into3F H R (O.take j)); have := HRl.out; have := hOl.out; omega
                cases gk with
                | zero =>
                  have hjl : j = ln := by omega
                  subst hjl
                  have q8 : ¬ (j : Int) < (j : Int) := by omega
                  have htk : O.take j = O := List.take_of_length_le (by rw [Hln.out]; exact Nat.le_refl _)
                  rw [htk] at HP HIs
                  have Hfin : Hid (RR = .obj (JP.into3F H R O)) := Lib.hid (by rw [← HRR.out, HR.out])
                  have Hlost : Hid (d ++ Gs ++ (JP.lost3F H R O).map (way ++ ·) = LL) := Lib.hid (by rw [← HLL.out, HR.out, List.map_append, ← HGs.out, List.map_map, List.append_assoc]; rfl)
                  clear htk hpf hpl hpl2 hplen
                  go_wp2_with fail
                  go_ret
                  exact ⟨_, T2, rfl, ⟨M2 + 1, by rw [Hfin.out]; exact ⟨qp, rfl, HP.out⟩⟩, by rw [← Hlost.out]; exact HIs.out, HKs.out.before hWb.out, HBs.out⟩
                | succ k =>
                  have hil : j < ln := by omega
                  obtain ⟨y, hy⟩ : ∃ y, O[j]? = some y := ⟨O[j]'(by rw [Hln.out]; exact hil), List.getElem?_eq_getElem _⟩
                  obtain ⟨b1, o1, c', hv1, _, _, hbs1, hcell1⟩ := HrnO.out.form (by rw [List.length_map, Hln.out]; omega) (by omega)
                  injection hv1 with u1 u2 u3
                  subst u1
                  clear u2 u3
                  obtain ⟨ds1, _, hcc1, hR1⟩ := hcell1 j (mkB y.1) (by rw [List.getElem?_map, hy]; rfl)
                  obtain rfl : ds1 = [.string (mkB y.1)] := hR1
                  have e0 : wr.cell? ⟨b1, o1 + j, none⟩ = some (.string (mkB y.1)) := HKs.out.keep.cell (by simpa using hcc1 0 _ rfl) (HofO.out (by intro e; have := congrArg List.length e; rw [List.length_map, Hln.out] at this; simp at this; omega) b1 rfl)
                  have q1 : (0 : Int) ≤ (j : Int) := by omega
                  have q2 : (j : Int) < (ln : Int) := by omega
                  have Hy := Lib.hid hy
                  have hgO := JP.get_at3 HsO.out hy
                  have hlO := JP.lenF_at3 hy
                  have hnm : y.1.length + 1 + (JP.text y.2).length + 2 ≤ JP.lenF O := JP.name_len (show O[j]? = some (y.1, y.2) from hy)
                  have hwy := JP.wfF_at3 hOf.out hy
                  have htk := JP.into3F_take (had := H) (out := R) hy
                  have hlt := JP.lost3F_take (had := H) (out := R) hy
                  have hgt : JP.gto y.1 (JP.into3F H R (O.take j)) = JP.gto y.1 R := JP.gto_take HsO.out hy
                  have hln3 := (JP.lost_len).2.2 (O.take j) H R hHl.out
                  have HG1 := Lib.hid (get_g (x := y.1) (hhad.out.keJ HKs.out) (by rw [Hlh.out]; omega))
                  have hgs1 : JP.lenF (JP.into3F H R (O.take j)) ≤ 14000 := by have := HRl.out; have := hOl.out; omega
                  obtain ⟨P, hP⟩ : ∃ P, JP.into3F H R (O.take j) = P := ⟨_, rfl⟩
                  rw [hP] at HP htk hlt hgt hplen hgs1
                  have Hgt := Lib.hid hgt
                  have Htk := Lib.hid htk
                  have Hlt := Lib.hid hlt
                  have HlO := Lib.hid hlO
                  have Hnm := Lib.hid hnm
                  have Hwy := Lib.hid hwy
                  have Hln3 := Lib.hid hln3
                  have HgO := Lib.hid hgO
                  clear hcell1 hcc1 hy hgO hlO hnm hwy htk hlt hgt hln3 hpf hpl hpl2 hP hgs1 hbs1
                  go_wp2_with fail
                  refine HG1.out.mono ?_
                  rintro E w2 ⟨va, rfl, _, ⟨ka, hja⟩, hb2⟩
                  have HK2 := Lib.hid (HKs.out.grow hb2)
                  have HB2 := Lib.hid (HBs.out.trans (hb2.mono HBs.out.size))
                  have HI2 := Lib.hid (hI.out _ _ _ _ HIs.out hb2)
                  have HP2 := Lib.hid (HP.out.keepJ (KeepT.of hb2))
                  have HJa := Lib.hid hja
                  have HG2 := Lib.hid (get_g (x := y.1) HP2.out (by omega))
                  clear hb2 HG1 e0 hja
                  go_wp2_with fail
                  refine HG2.out.mono ?_
                  rintro E w3 ⟨vb, rfl, _, ⟨kb, hjb⟩, hb3⟩
                  have HK3 := Lib.hid (HK2.out.grow hb3)
                  have HB3 := Lib.hid (HB2.out.trans (hb3.mono HB2.out.size))
                  have HI3 := Lib.hid (hI.out _ _ _ _ HI2.out hb3)
                  have HP3 := Lib.hid (HP2.out.keepJ (KeepT.of hb3))
                  have HJa3 := Lib.hid (HJa.out.keepT (KeepT.of hb3))
                  have HJb := Lib.hid hjb
                  have HG3 := Lib.hid (get_g (x := y.1) (HO.out.keJ HK3.out) (by rw [Hln.out]; omega))
                  rw [HgO.out] at HG3
                  clear hb3 HG2 HK2 HB2 HI2 HP2 HJa hjb
                  go_wp2_with fail
                  refine HG3.out.mono ?_
                  rintro E w4 ⟨vw, rfl, hjw, _, hb4⟩
                  have HK4 := Lib.hid (HK3.out.grow hb4)
                  have HB4 := Lib.hid (HB3.out.trans (hb4.mono HB3.out.size))
                  have HI4 := Lib.hid (hI.out _ _ _ _ HI3.out hb4)
                  have HP4 := Lib.hid (HP3.out.keepJ (KeepT.of hb4))
                  have HJa4 := Lib.hid (HJa3.out.keepT (KeepT.of hb4))
                  have HJb4 := Lib.hid (HJb.out.keepT (KeepT.of hb4))
                  have HJw4 := Lib.hid (hjw y.2 rfl)
                  clear hb4 HG3 HK3 HB3 HI3 HP3 HJa3 HJb hjw
                  have HCl := Lib.hid (cloneStr_any sv _ w4 (str_raw3 (str_keepT HSv.out HOff.out (HK4.out).keep)) (by rw [List.length_map, List.length_map]; have := HWl.out; omega))
                  go_wp2_with fail
                  refine HCl.out.mono ?_
                  rintro E wc ⟨vc, rfl, hown, hbc⟩
                  have HOwn := Lib.hid hown
                  have Hbc := Lib.hid hbc
                  clear hown hbc HCl
                  have hb7 : Below wc.heap.size wc (wc.alloc (.cells #[.string (mkB y.1)] 9)) := (Below.refl _ wc).alloc (Nat.le_refl _) _
                  have HOwn7 := Lib.hid (HOwn.out.below stays_val hb7)
                  have Hb7 := Lib.hid (Hbc.out.trans (hb7.mono Hbc.out.size))
                  have Hs7 : Hid (w4.heap.size ≤ (wc.alloc (.cells #[.string (mkB y.1)] 9)).heap.size) := Lib.hid Hb7.out.size
                  have hr1 : RowAt RVal 1 (wc.alloc (.cells #[.string (mkB y.1)] 9)) (.slice (some ⟨wc.heap.size, 0, none⟩) 1 1) [Value.string (mkB y.1)] := RowAt.one (R := RVal) (x := Value.string (mkB y.1)) (heap_alloc_new wc _) rfl ⟨rfl, rfl⟩
                  have bd1 : ((way.map mkB).map Value.string).length + [Value.string (mkB y.1)].length ≤ maxLen := by unfold maxLen; rw [List.length_map, List.length_map]; simp only [List.length_cons, List.length_nil]; have := HWl.out; omega
                  have bd2 : (((way.map mkB).map Value.string).length + [Value.string (mkB y.1)].length) * 16 ≤ 140737488355328 := by rw [List.length_map, List.length_map]; simp only [List.length_cons, List.length_nil]; have := HWl.out; omega
                  clear hb7
                  go_wp2_with (at_builtin; refine wpList_append_ownAt (R := RVal) (k := 1) (e := 9) (B := w4.heap.size) (l := (way.map mkB).map .string) (m := [.string (mkB y.1)]) _ (by rfl) _ _ _ (by rfl) i0 _ 16 Tryz.underlying25 hi0 hz0 hz1 hz2 rfl (by omega) flat_val one_val _ (by rfl) HOwn7.out _ (by rfl) hr1 bd1 bd2 Hs7.out ?_)
                  intro v8 w8 hv8 hg8 hr8 _
                  have hb8 : Below w4.heap.size w4 w8 := Hb7.out.trans (below_of_grown (Below.refl _ _) Hs7.out hg8 hr8)
                  have hst8 : StrAt w8 v8 ((way ++ [y.1]).map mkB) := raw_str3 (by have h9 := hv8.row; rw [List.map_append, List.map_append]; simpa using h9)
                  have hoff8 : OffT T2 v8 ((way ++ [y.1]).map mkB) := off_own hv8 (HK4.out).lt
                  have Hb8 := Lib.hid hb8
                  have Hst8 := Lib.hid hst8
                  have Hoff8 := Lib.hid hoff8
                  clear hv8 hg8 hr8 hb8 hst8 hoff8 HOwn7 HOwn Hb7 Hs7 hr1 bd1 bd2 Hbc
                  have hIH := IH.out ka kb T2 va vb vw v8 (JP.gto y.1 H) (JP.gto y.1 P) y.2 (way ++ [y.1]) (d ++ Gs ++ (JP.lost3F H R (O.take j)).map (way ++ ·)) w8 (HJa4.out.keepT (KeepT.of Hb8.out)) (HJb4.out.keepT (KeepT.of Hb8.out)) (HJw4.out.keepT (KeepT.of Hb8.out))
                    (by rw [Hgt.out]; exact JP.wf_gto HRf.out.2) Hwy.out (by have := JP.gto_len y.1 H; have := hHl.out; omega) (by rw [Hgt.out]; have := JP.gto_len y.1 R; have := HRl.out; omega)
                    (by rw [way_sum]; have := Hnm.out; have := HWs.out; omega) Hst8.out Hoff8.out (hI.out _ _ _ _ HI4.out Hb8.out) (HK4.out.grow Hb8.out).lt (HB4.out.trans (Hb8.out.mono HB4.out.size))
                    (by
                      rw [List.length_append, List.length_append, List.length_map]
                      have h1 : Gs.length ≤ 4000 := by
                        rw [← HGs.out, List.length_map]
                        unfold JP.goesL
                        rw [List.length_map]
                        have h2 := List.length_filter_le (fun y => (JP.get y.1 LV).isSome && (JP.get y.1 O).isNone) H
                        have := JP.lenF_length H; have := hHl.out; omega
                      have := Hln3.out; have := HlO.out; have := HDl.out
                      omega)
                  have HIH := Lib.hid hIH
                  clear hIH
                  go_wp2_with fail
                  refine HIH.out.mono ?_
                  rintro E w9 ⟨u9, T9, rfl, ⟨k9, hj9⟩, hi9, hk9, hb9⟩
                  have HK9 := Lib.hid ((HK4.out.grow Hb8.out).trans hk9)
                  have HP9 := Lib.hid ((HP4.out.keepJ (KeepT.of Hb8.out)).keJ hk9)
                  have HWi := Lib.hid (with_any (x := y.1) (HP9.out.upsJ (Nat.le_max_left M2 k9)) (hj9.ups (Nat.le_max_right M2 k9)) HK9.out.lt (by omega))
                  have HI9 := Lib.hid hi9
                  have HB9 := Lib.hid hb9
                  clear hj9 hi9 hk9 hb9 HIH
                  go_wp2_with fail
                  refine HWi.out.mono ?_
                  rintro E wd ⟨qn, rfl, hon, hbn⟩
                  have HOn : Hid (ObR (JvR (max M2 k9) T9) T9 wd qn (JP.into3F H R (O.take (j + 1)))) := Lib.hid (by rw [Htk.out]; exact hon)
                  have HIn : Hid (I (d ++ Gs ++ (JP.lost3F H R (O.take (j + 1))).map (way ++ ·)) T9 wd) := Lib.hid (by
                    rw [Hlt.out, List.map_append, ← List.append_assoc, List.map_map]
                    have h9 := hI.out _ _ _ _ HI9.out hbn
                    have e9 : (JP.lost3 (JP.gto y.1 H) (JP.gto y.1 P) y.2).map (fun r => (way ++ [y.1]) ++ r) = (JP.lost3 (JP.gto y.1 H) (JP.gto y.1 P) y.2).map ((way ++ ·) ∘ (y.1 :: ·)) := List.map_congr_left fun r _ => by show way ++ [y.1] ++ r = way ++ (y.1 :: r); rw [List.append_assoc]; rfl
                    rw [← e9]
                    exact h9)
                  have HKn := Lib.hid (HK9.out.grow hbn)
                  have HBn := Lib.hid (HB9.out.trans (hbn.mono HB9.out.size))
                  clear hon hbn HWi
                  go_wp2_with fail
                  go_roundg k
                  case measure => omega
                  case rel => exact ⟨j + 1, qn, max M2 k9, T9, by omega, by go_num, rfl, HOn, HIn, HKn, HBn⟩
        · have hHn : H = [] := hHe9.symm.trans hnA
          obtain ⟨W1, hW1⟩ : ∃ W, W = w.alloc (.cells #[.slice none 0 0, .slice none 0 0] 95) := ⟨_, rfl⟩
          obtain ⟨W, hW⟩ : ∃ W, W = W1.alloc (.cells #[.slice none 0 0, .slice none 0 0] 95) := ⟨_, rfl⟩
          have hW1b : Below w.heap.size w W1 := by rw [hW1]; exact (Below.refl _ w).alloc (Nat.le_refl _) _
          have hW2b : Below W1.heap.size W1 W := by rw [hW]; exact (Below.refl _ W1).alloc (Nat.le_refl _) _
          have hWb : Hid (Below w.heap.size w W) := Lib.hid (hW1b.trans (hW2b.mono hW1b.size))
          have hout : Hid (ObR (JvR 0 G) G W w.heap.size LV) := Lib.hid ((show ObR (JvR 0 G) G W1 w.heap.size LV by rw [hW1, hLn]; exact empty_ob (heap_alloc_new w _) (fun hm => absurd (hGw.out _ hm) (Nat.lt_irrefl _))).keepJ (KeepT.of hW2b))
          have hhad : Hid (ObR (JvR 0 G) G W W1.heap.size H) := Lib.hid (by rw [hW, hHn]; exact empty_ob (heap_alloc_new W1 _) (fun hm => absurd (Nat.lt_of_lt_of_le (hGw.out _ hm) hW1b.size) (Nat.lt_irrefl _)))
          have hobW : Hid (ObR (JvR n G) G W qq O) := Lib.hid (hob1.out.keepJ (KeepT.of hWb.out))
          have hs1 : W1.heap.size = w.heap.size + 1 := by rw [hW1]; exact World.size_alloc _ _
          rw [hW1] at hW
          clear hnA hnB hW1b hW2b hHn hLn
          try clear hHe9
          try clear hLe9
          obtain ⟨qd, hqd⟩ : ∃ q, w.heap.size = q := ⟨_, rfl⟩
          rw [hs1, hqd] at hhad
          rw [hqd] at hout
          clear hW1 hs1
          go_enter Tryz.func27, Tryz.ntmps27
          go_upto_region 10 with fail
          rw [← hW]
          clear hW
          try rw [hqd]
          have HG : Hid (∀ b ∈ G, b < W.heap.size) := Lib.hid (fun b hb => Nat.lt_of_lt_of_le (hGw.out b hb) hWb.out.size)
          have HB0 := Lib.hid (hB0.out.trans (hWb.out.mono hB0.out.size))
          have HSv := Lib.hid (hsv.out.below hWb.out)
          have HO := Lib.hid (hobW.out)
          have HI0 := Lib.hid (hI.out _ _ _ _ hId.out hWb.out)
          obtain ⟨_, hsH, vnh, vvh, cnh, _, hrnh, hofh, _⟩ := hhad.out
          obtain ⟨_, hsO, vno, vvo, cno, _, hrno, hofo, _⟩ := hobW.out
          have HsH := Lib.hid hsH
          have HsO := Lib.hid hsO
          obtain ⟨ah, ch, eh, _⟩ := hrnh.len
          obtain ⟨ao, co, eo, _⟩ := hrno.len
          rw [List.length_map] at eh eo
          obtain ⟨lh, hlh⟩ : ∃ l, H.length = l := ⟨_, rfl⟩
          obtain ⟨ln, hln⟩ : ∃ l, O.length = l := ⟨_, rfl⟩
          rw [hlh] at eh
          rw [hln] at eo
          subst eh; subst eo
          have Hlh := Lib.hid hlh
          have Hln := Lib.hid hln
          have HrnH := Lib.hid hrnh
          have HofH := Lib.hid (show OffT G (.slice ah lh ch) (H.map fun x => mkB x.1) from fun hl => hofh fun e => hl (by rw [e]; rfl))
          have HrnO := Lib.hid hrno
          have HofO := Lib.hid (show OffT G (.slice ao ln co) (O.map fun x => mkB x.1) from fun hl => hofo fun e => hl (by rw [e]; rfl))
          have hlh9 : lh ≤ 100000 := by have := JP.lenF_length H; have := hHl.out; omega
          have hln9 : ln ≤ 100000 := by have := JP.lenF_length O; have := hOl.out; omega
          have Hcno := Lib.hid cno
          have Hcnh := Lib.hid cnh
          have hqO : qq ∉ G := hobW.out.1
          have hqH : (qd + 1) ∉ G := hhad.out.1
          clear hsH hsO hrnh hofh hrno hofo hlh hln cno
          go_wp2_with fail
          refine (names_any (qd + 1) _ W cnh).mono ?_
          rintro E wz ⟨rfl, rfl⟩
          clear cnh
          go_wp2_with fail
          go_loopg [59, 13] lh (fun k u59 u13 wr => ∃ (i qo M : Nat) (T : List Nat), i + k = lh ∧ u59 = .int .i64 (i : Int) ∧ u13 = .pointer (some ⟨qo, 0, none⟩) ∧ Hid (ObR (JvR M T) T wr qo (JP.remF (H.take i) O LV)) ∧ Hid (I (d ++ (JP.goesL (H.take i) O LV).map (fun n => way ++ [n])) T wr) ∧ Hid (KE G T W wr) ∧ Hid (Below w0.heap.size w0 wr))
          case atStart => exact ⟨0, qd, 0, G, by omega, rfl, rfl, Lib.hid (by rw [JP.rem_zero]; exact hout.out), Lib.hid (by rw [List.take_zero]; show I (d ++ []) G W; rw [List.append_nil]; exact HI0.out), Lib.hid (KE.refl HG.out), HB0⟩
          case round =>
            obtain ⟨i, qo, M, T, hik, rfl, rfl, HOut, HIr, HK, HB⟩ := hrel
            have holen : (JP.remF (H.take i) O LV).length ≤ 100000 := by have := JP.lenF_length (JP.remF (H.take i) O LV); have := JP.rem_len (H.take i) O LV; have := hLl.out; omega
            cases gk with
            | succ k =>
              have hil : i < lh := by omega
              obtain ⟨y, hy⟩ : ∃ y, H[i]? = some y := ⟨H[i]'(by rw [Hlh.out]; exact hil), List.getElem?_eq_getElem _⟩
              obtain ⟨b1, o1, c', hv1, _, _, hbs1, hcell1⟩ := HrnH.out.form (by rw [List.length_map, Hlh.out]; omega) (by omega)
              injection hv1 with u1 u2 u3
              subst u1
              clear u2 u3
              obtain ⟨ds1, _, hcc1, hR1⟩ := hcell1 i (mkB y.1) (by rw [List.getElem?_map, hy]; rfl)
              obtain rfl : ds1 = [.string (mkB y.1)] := hR1
              have e0 : wr.cell? ⟨b1, o1 + i, none⟩ = some (.string (mkB y.1)) := HK.out.keep.cell (by simpa using hcc1 0 _ rfl) (HofH.out (by intro e; have := congrArg List.length e; rw [List.length_map, Hlh.out] at this; simp at this; omega) b1 rfl)
              have q1 : (0 : Int) ≤ (i : Int) := by omega
              have q2 : (i : Int) < (lh : Int) := by omega
              have Hy := Lib.hid hy
              have HG1 := Lib.hid (get_g (x := y.1) (HO.out.keJ HK.out) (by rw [Hln.out]; omega))
              have hgt := JP.get_rem_take (o := O) (out := LV) HsH.out hy
              have hrs := JP.rem_step (o := O) HsH.out HsL.out hy
              have hgs := JP.goes_step (o := O) (out := LV) hy
              have Hgs := Lib.hid hgs
              have Hrs := Lib.hid hrs
              obtain ⟨bw, hbw⟩ : ∃ b, (JP.get y.1 O).isSome = b := ⟨_, rfl⟩
              obtain ⟨bi, hbi⟩ : ∃ b, (JP.get y.1 LV).isSome = b := ⟨_, rfl⟩
              have hbn : (JP.get y.1 O).isNone = !bw := by rw [← hbw]; cases JP.get y.1 O <;> rfl
              rw [hbw] at HG1
              rw [hbi, hbn] at Hrs Hgs
              clear hcell1 hcc1 hy hrs hgs
              go_wp2_with fail
              refine HG1.out.mono ?_
              rintro E w2 ⟨vg, rfl, _, _, hb2⟩
              have HK2 := Lib.hid (HK.out.grow hb2)
              have HB2 := Lib.hid (HB.out.trans (hb2.mono HB.out.size))
              have HI2 := Lib.hid (hI.out _ _ _ _ HIr.out hb2)
              have HOut2 := Lib.hid (HOut.out.keepJ (KeepT.of hb2))
              have HG2 := Lib.hid (get_g (x := y.1) HOut2.out (by omega))
              rw [hgt, hbi] at HG2
              clear hb2 HG1 e0 hgt hbw hbi hbn
              go_wp2_with fail
              refine HG2.out.mono ?_
              rintro E w3 ⟨vg2, rfl, _, _, hb3⟩
              have HK3 := Lib.hid (HK2.out.grow hb3)
              have HB3 := Lib.hid (HB2.out.trans (hb3.mono HB2.out.size))
              have HI3 := Lib.hid (hI.out _ _ _ _ HI2.out hb3)
              have HOut3 := Lib.hid (HOut2.out.keepJ (KeepT.of hb3))
              clear hb3 HG2 HK2 HB2 HI2 HOut2
              by_cases hgo : bi = true ∧ bw = false
              · obtain ⟨rfl, rfl⟩ := hgo
                have Hr2 : Hid (JP.remF (H.take (i + 1)) O LV = JP.cut y.1 (JP.remF (H.take i) O LV)) := Lib.hid (by rw [Hrs.out, if_pos ⟨rfl, rfl⟩])
                have Hg2 : Hid ((d ++ (JP.goesL (H.take i) O LV).map (fun n => way ++ [n])) ++ [way ++ [y.1]] = d ++ (JP.goesL (H.take (i + 1)) O LV).map (fun n => way ++ [n])) := Lib.hid (by rw [Hgs.out, if_pos ⟨rfl, rfl⟩, List.map_append, List.append_assoc]; rfl)
                clear Hrs Hgs
                have HCl := Lib.hid (cloneStr_any sv _ w3 (str_raw3 (str_keepT HSv.out HOff.out (HK3.out).keep)) (by rw [List.length_map, List.length_map]; have := HWl.out; omega))
                go_wp2_with fail
                refine HCl.out.mono ?_
                rintro E wc ⟨vc, rfl, hown, hbc⟩
                have HOwn := Lib.hid hown
                have Hbc := Lib.hid hbc
                clear hown hbc HCl
                have hb7 : Below wc.heap.size wc (wc.alloc (.cells #[.string (mkB y.1)] 9)) := (Below.refl _ wc).alloc (Nat.le_refl _) _
                have HOwn7 := Lib.hid (HOwn.out.below stays_val hb7)
                have Hb7 := Lib.hid (Hbc.out.trans (hb7.mono Hbc.out.size))
                have Hs7 : Hid (w3.heap.size ≤ (wc.alloc (.cells #[.string (mkB y.1)] 9)).heap.size) := Lib.hid Hb7.out.size
                have hr1 : RowAt RVal 1 (wc.alloc (.cells #[.string (mkB y.1)] 9)) (.slice (some ⟨wc.heap.size, 0, none⟩) 1 1) [Value.string (mkB y.1)] := RowAt.one (R := RVal) (x := Value.string (mkB y.1)) (heap_alloc_new wc _) rfl ⟨rfl, rfl⟩
                have bd1 : ((way.map mkB).map Value.string).length + [Value.string (mkB y.1)].length ≤ maxLen := by unfold maxLen; rw [List.length_map, List.length_map]; simp only [List.length_cons, List.length_nil]; have := HWl.out; omega
                have bd2 : (((way.map mkB).map Value.string).length + [Value.string (mkB y.1)].length) * 16 ≤ 140737488355328 := by rw [List.length_map, List.length_map]; simp only [List.length_cons, List.length_nil]; have := HWl.out; omega
                clear hb7
                go_wp2_with (at_builtin; refine wpList_append_ownAt (R := RVal) (k := 1) (e := 9) (B := w3.heap.size) (l := (way.map mkB).map .string) (m := [.string (mkB y.1)]) _ (by rfl) _ _ _ (by rfl) i0 _ 16 Tryz.underlying25 hi0 hz0 hz1 hz2 rfl (by omega) flat_val one_val _ (by rfl) HOwn7.out _ (by rfl) hr1 bd1 bd2 Hs7.out ?_)
                intro v8 w8 hv8 hg8 hr8 _
                have hb8 : Below w3.heap.size w3 w8 := Hb7.out.trans (below_of_grown (Below.refl _ _) Hs7.out hg8 hr8)
                have hst8 : StrAt w8 v8 ((way ++ [y.1]).map mkB) := raw_str3 (by have h9 := hv8.row; rw [List.map_append, List.map_append]; simpa using h9)
                have hoff8 : OffT T v8 ((way ++ [y.1]).map mkB) := off_own hv8 (HK3.out).lt
                have Hb8 := Lib.hid hb8
                have Hst8 := Lib.hid hst8
                have Hoff8 := Lib.hid hoff8
                clear hv8 hg8 hr8 hb8 hst8 hoff8 HOwn7 HOwn Hb7 Hs7 hr1 bd1 bd2 Hbc
                have hdl : (d ++ (JP.goesL (H.take i) O LV).map (fun n => way ++ [n])).length ≤ 40000000 := by
                  have h1 : (JP.goesL (H.take i) O LV).length ≤ 4000 := by
                    unfold JP.goesL
                    rw [List.length_map]
                    have h2 := List.length_filter_le (fun y => (JP.get y.1 LV).isSome && (JP.get y.1 O).isNone) (H.take i)
                    have h3 : (H.take i).length ≤ H.length := by rw [List.length_take]; omega
                    have := JP.lenF_length H; have := hHl.out; omega
                  rw [List.length_append, List.length_map]
                  have := HDl.out; omega
                have HCa := Lib.hid (HC.out (d ++ (JP.goesL (H.take i) O LV).map (fun n => way ++ [n])) T (way ++ [y.1]) v8 w8 (hI.out _ _ _ _ HI3.out Hb8.out) (HK3.out.grow Hb8.out).lt Hst8.out (by rw [way_sum]; have h8 : H[i]? = some (y.1, y.2) := Hy.out; have := JP.name_len h8; have := hHl.out; have := HWs.out; omega) (HB3.out.trans (Hb8.out.mono HB3.out.size)) hdl)
                clear hdl
                go_wp2_with fail
                refine HCa.out.mono ?_
                rintro E w9 ⟨rfl, T9, hi9, hk9, hb9⟩
                have HK9 := Lib.hid ((HK3.out.grow Hb8.out).trans hk9)
                have HOut9 := Lib.hid ((HOut3.out.keepJ (KeepT.of Hb8.out)).keJ hk9)
                have HB9 := Lib.hid hb9
                have HI9 := Lib.hid hi9
                have HWo := Lib.hid (without_any (x := y.1) HOut9.out HK9.out.lt (by omega))
                clear hi9 hk9 hb9 HCa
                go_wp2_with fail
                refine HWo.out.mono ?_
                rintro E wd ⟨qn, rfl, hon, hbn⟩
                have HOn : Hid (ObR (JvR M T9) T9 wd qn (JP.remF (H.take (i + 1)) O LV)) := Lib.hid (by rw [Hr2.out]; exact hon)
                have HIn : Hid (I (d ++ (JP.goesL (H.take (i + 1)) O LV).map (fun n => way ++ [n])) T9 wd) := Lib.hid (by rw [← Hg2.out]; exact hI.out _ _ _ _ HI9.out hbn)
                have HKn := Lib.hid (HK9.out.grow hbn)
                have HBn := Lib.hid (HB9.out.trans (hbn.mono HB9.out.size))
                clear hon hbn HWo
                go_wp2_with fail
                go_roundg k
                case measure => omega
                case rel => exact ⟨i + 1, qn, M, T9, by omega, by go_num, rfl, HOn, HIn, HKn, HBn⟩
              · have Hr2 : Hid (JP.remF (H.take (i + 1)) O LV = JP.remF (H.take i) O LV) := Lib.hid (by rw [Hrs.out, if_neg (fun e => hgo ⟨e.1, nb3 e.2⟩)])
                have Hg2 : Hid (JP.goesL (H.take (i + 1)) O LV = JP.goesL (H.take i) O LV) := Lib.hid (by rw [Hgs.out, if_neg (fun e => hgo ⟨e.1, nb3 e.2⟩), List.append_nil])
                have HOn : Hid (ObR (JvR M T) T w3 qo (JP.remF (H.take (i + 1)) O LV)) := Lib.hid (by rw [Hr2.out]; exact HOut3.out)
                have HIn : Hid (I (d ++ (JP.goesL (H.take (i + 1)) O LV).map (fun n => way ++ [n])) T w3) := Lib.hid (by rw [Hg2.out]; exact HI3.out)
                clear Hrs Hgs
                have hways := two3 hgo
                clear hgo
                rcases hways with rfl | ⟨rfl, rfl⟩
                · go_wp2_with fail
                  go_roundg k
                  case measure => omega
                  case rel => exact ⟨i + 1, qo, M, T, by omega, by go_num, rfl, HOn, HIn, HK3, HB3⟩
                · go_wp2_with fail
                  go_roundg k
                  case measure => omega
                  case rel => exact ⟨i + 1, qo, M, T, by omega, by go_num, rfl, HOn, HIn, HK3, HB3⟩
            | zero =>
              have hil : i = lh := by omega
              subst hil
              have q9 : ¬ (i : Int) < (i : Int) := by omega
              have htk : H.take i = H := List.take_of_length_le (by rw [Hlh.out]; exact Nat.le_refl _)
              rw [htk] at HOut HIr holen
              have HR0 := HOut
              have HIR := HIr
              obtain ⟨R, hR⟩ : ∃ R, JP.remF H O LV = R := ⟨_, rfl⟩
              obtain ⟨Gs, hGs⟩ : ∃ R, (JP.goesL H O LV).map (fun n => way ++ [n]) = R := ⟨_, rfl⟩
              rw [hR] at HR0
              rw [hGs] at HIR
              have HR := Lib.hid hR
              have HGs := Lib.hid hGs
              have hRs : JP.Srt R := by rw [← hR]; exact JP.srt_rem HsL.out
              have HRs := Lib.hid hRs
              have hRf : JP.Fld R := by rw [← hR]; exact ⟨JP.srt_rem HsL.out, JP.wfF_filter _ hLf.out⟩
              have HRf := Lib.hid hRf
              have hRl : JP.lenF R ≤ 4000 := by rw [← hR]; have := JP.rem_len H O LV; have := hLl.out; omega
              have HRl := Lib.hid hRl
              have cn2 : wr.cell? ⟨qq, 0, none⟩ = some (.slice ao ln co) := HK.out.keep.cell Hcno.out hqO
              clear htk hR hGs hRs hRf hRl HOut HIr holen
              go_wp2_with fail
              refine (names_any qq _ wr cn2).mono ?_
              rintro E wz ⟨rfl, rfl⟩
              clear cn2
              go_wp2_with fail
              go_loopg [94, 13] ln (fun k u94 u13 wr => ∃ (j qo M : Nat) (T : List Nat), j + k = ln ∧ u94 = .int .i64 (j : Int) ∧ u13 = .pointer (some ⟨qo, 0, none⟩) ∧ Hid (ObR (JvR M T) T wr qo (JP.into3F H R (O.take j))) ∧ Hid (I (d ++ Gs ++ (JP.lost3F H R (O.take j)).map (way ++ ·)) T wr) ∧ Hid (KE G T W wr) ∧ Hid (Below w0.heap.size w0 wr))
              case atStart => exact ⟨0, qo, M, T, by omega, rfl, rfl, Lib.hid (by rw [List.take_zero, JP.into3F_nil]; exact HR0.out), Lib.hid (by rw [List.take_zero, JP.lost3F_nil, List.map_nil, List.append_nil]; exact HIR.out), HK, HB⟩
              case round =>
                obtain ⟨j, qp, M2, T2, hjk, rfl, rfl, HP, HIs, HKs, HBs⟩ := hrel
                obtain ⟨hpf, hpl⟩ := JP.into3_fit.2.2 (O.take j) (wfF_take3 j hOf.out) H R HRf.out
                have hpl2 : JP.lenF (O.take j) ≤ JP.lenF O := lenF_take3 j O
                have hplen : (JP.into3F H R (O.take j)).length ≤ 100000 := by have := JP.lenF_length (JP.into3F H R (O.take j)); have := HRl.out; have := hOl.out; omega
                cases gk with
                | zero =>
                  have hjl : j = ln := by omega
                  subst hjl
                  have q8 : ¬ (j : Int) < (j : Int) := by omega
                  have htk : O.take j = O := List.take_of_length_le (by rw [Hln.out]; exact Nat.le_refl _)
                  rw [htk] at HP HIs
                  have Hfin : Hid (RR = .obj (JP.into3F H R O)) := Lib.hid (by rw [← HRR.out, HR.out])
                  have Hlost : Hid (d ++ Gs ++ (JP.lost3F H R O).map (way ++ ·) = LL) := Lib.hid (by rw [← HLL.out, HR.out, List.map_append, ← HGs.out, List.map_map, List.append_assoc]; rfl)
                  clear htk hpf hpl hpl2 hplen
                  go_wp2_with fail
                  go_ret
                  exact ⟨_, T2, rfl, ⟨M2 + 1, by rw [Hfin.out]; exact ⟨qp, rfl, HP.out⟩⟩, by rw [← Hlost.out]; exact HIs.out, HKs.out.before hWb.out, HBs.out⟩
                | succ k =>
                  have hil : j < ln := by omega
                  obtain ⟨y, hy⟩ : ∃ y, O[j]? = some y := ⟨O[j]'(by rw [Hln.out]; exact hil), List.getElem?_eq_getElem _⟩
                  obtain ⟨b1, o1, c', hv1, _, _, hbs1, hcell1⟩ := HrnO.out.form (by rw [List.length_map, Hln.out]; omega) (by omega)
                  injection hv1 with u1 u2 u3
                  subst u1
                  clear u2 u3
                  obtain ⟨ds1, _, hcc1, hR1⟩ := hcell1 j (mkB y.1) (by rw [List.getElem?_map, hy]; rfl)
                  obtain rfl : ds1 = [.string (mkB y.1)] := hR1
                  have e0 : wr.cell? ⟨b1, o1 + j, none⟩ = some (.string (mkB y.1)) := HKs.out.keep.cell (by simpa using hcc1 0 _ rfl) (HofO.out (by intro e; have := congrArg List.length e; rw [List.length_map, Hln.out] at this; simp at this; omega) b1 rfl)
                  have q1 : (0 : Int) ≤ (j : Int) := by omega
                  have q2 : (j : Int) < (ln : Int) := by omega
                  have Hy := Lib.hid hy
                  have hgO := JP.get_at3 HsO.out hy
                  have hlO := JP.lenF_at3 hy
                  have hnm : y.1.length + 1 + (JP.text y.2).length + 2 ≤ JP.lenF O := JP.name_len (show O[j]? = some (y.1, y.2) from hy)
                  have hwy := JP.wfF_at3 hOf.out hy
                  have htk := JP.into3F_take (had := H) (out := R) hy
                  have hlt := JP.lost3F_take (had := H) (out := R) hy
                  have hgt : JP.gto y.1 (JP.into3F H R (O.take j)) = JP.gto y.1 R := JP.gto_take HsO.out hy
                  have hln3 := (JP.lost_len).2.2 (O.take j) H R hHl.out
                  have HG1 := Lib.hid (get_g (x := y.1) (hhad.out.keJ HKs.out) (by rw [Hlh.out]; omega))
                  have hgs1 : JP.lenF (JP.into3F H R (O.take j)) ≤ 14000 := by have := HRl.out; have := hOl.out; omega
                  obtain ⟨P, hP⟩ : ∃ P, JP.into3F H R (O.take j) = P := ⟨_, rfl⟩
                  rw [hP] at HP htk hlt hgt hplen hgs1
                  have Hgt := Lib.hid hgt
                  have Htk := Lib.hid htk
                  have Hlt := Lib.hid hlt
                  have HlO := Lib.hid hlO
                  have Hnm := Lib.hid hnm
                  have Hwy := Lib.hid hwy
                  have Hln3 := Lib.hid hln3
                  have HgO := Lib.hid hgO
                  clear hcell1 hcc1 hy hgO hlO hnm hwy htk hlt hgt hln3 hpf hpl hpl2 hP hgs1 hbs1
                  go_wp2_with fail
                  refine HG1.out.mono ?_
                  rintro E w2 ⟨va, rfl, _, ⟨ka, hja⟩, hb2⟩
                  have HK2 := Lib.hid (HKs.out.grow hb2)
                  have HB2 := Lib.hid (HBs.out.trans (hb2.mono HBs.out.size))
                  have HI2 := Lib.hid (hI.out _ _ _ _ HIs.out hb2)
                  have HP2 := Lib.hid (HP.out.keepJ (KeepT.of hb2))
                  have HJa := Lib.hid hja
                  have HG2 := Lib.hid (get_g (x := y.1) HP2.out (by omega))
                  clear hb2 HG1 e0 hja
                  go_wp2_with fail
                  refine HG2.out.mono ?_
                  rintro E w3 ⟨vb, rfl, _, ⟨kb, hjb⟩, hb3⟩
                  have HK3 := Lib.hid (HK2.out.grow hb3)
                  have HB3 := Lib.hid (HB2.out.trans (hb3.mono HB2.out.size))
                  have HI3 := Lib.hid (hI.out _ _ _ _ HI2.out hb3)
                  have HP3 := Lib.hid (HP2.out.keepJ (KeepT.of hb3))
                  have HJa3 := Lib.hid (HJa.out.keepT (KeepT.of hb3))
                  have HJb := Lib.hid hjb
                  have HG3 := Lib.hid (get_g (x := y.1) (HO.out.keJ HK3.out) (by rw [Hln.out]; omega))
                  rw [HgO.out] at HG3
                  clear hb3 HG2 HK2 HB2 HI2 HP2 HJa hjb
                  go_wp2_with fail
                  refine HG3.out.mono ?_
                  rintro E w4 ⟨vw, rfl, hjw, _, hb4⟩
                  have HK4 := Lib.hid (HK3.out.grow hb4)
                  have HB4 := Lib.hid (HB3.out.trans (hb4.mono HB3.out.size))
                  have HI4 := Lib.hid (hI.out _ _ _ _ HI3.out hb4)
                  have HP4 := Lib.hid (HP3.out.keepJ (KeepT.of hb4))
                  have HJa4 := Lib.hid (HJa3.out.keepT (KeepT.of hb4))
                  have HJb4 := Lib.hid (HJb.out.keepT (KeepT.of hb4))
                  have HJw4 := Lib.hid (hjw y.2 rfl)
                  clear hb4 HG3 HK3 HB3 HI3 HP3 HJa3 HJb hjw
                  have HCl := Lib.hid (cloneStr_any sv _ w4 (str_raw3 (str_keepT HSv.out HOff.out (HK4.out).keep)) (by rw [List.length_map, List.length_map]; have := HWl.out; omega))
                  go_wp2_with fail
                  refine HCl.out.mono ?_
                  rintro E wc ⟨vc, rfl, hown, hbc⟩
                  have HOwn := Lib.hid hown
                  have Hbc := Lib.hid hbc
                  clear hown hbc HCl
                  have hb7 : Below wc.heap.size wc (wc.alloc (.cells #[.string (mkB y.1)] 9)) := (Below.refl _ wc).alloc (Nat.le_refl _) _
                  have HOwn7 := Lib.hid (HOwn.out.below stays_val hb7)
                  have Hb7 := Lib.hid (Hbc.out.trans (hb7.mono Hbc.out.size))
                  have Hs7 : Hid (w4.heap.size ≤ (wc.alloc (.cells #[.string (mkB y.1)] 9)).heap.size) := Lib.hid Hb7.out.size
                  have hr1 : RowAt RVal 1 (wc.alloc (.cells #[.string (mkB y.1)] 9)) (.slice (some ⟨wc.heap.size, 0, none⟩) 1 1) [Value.string (mkB y.1)] := RowAt.one (R := RVal) (x := Value.string (mkB y.1)) (heap_alloc_new wc _) rfl ⟨rfl, rfl⟩
                  have bd1 : ((way.map mkB).map Value.string).length + [Value.string (mkB y.1)].length ≤ maxLen := by unfold maxLen; rw [List.length_map, List.length_map]; simp only [List.length_cons, List.length_nil]; have := HWl.out; omega
                  have bd2 : (((way.map mkB).map Value.string).length + [Value.string (mkB y.1)].length) * 16 ≤ 140737488355328 := by rw [List.length_map, List.length_map]; simp only [List.length_cons, List.length_nil]; have := HWl.out; omega
                  clear hb7
                  go_wp2_with (at_builtin; refine wpList_append_ownAt (R := RVal) (k := 1) (e := 9) (B := w4.heap.size) (l := (way.map mkB).map .string) (m := [.string (mkB y.1)]) _ (by rfl) _ _ _ (by rfl) i0 _ 16 Tryz.underlying25 hi0 hz0 hz1 hz2 rfl (by omega) flat_val one_val _ (by rfl) HOwn7.out _ (by rfl) hr1 bd1 bd2 Hs7.out ?_)
                  intro v8 w8 hv8 hg8 hr8 _
                  have hb8 : Below w4.heap.size w4 w8 := Hb7.out.trans (below_of_grown (Below.refl _ _) Hs7.out hg8 hr8)
                  have hst8 : StrAt w8 v8 ((way ++ [y.1]).map mkB) := raw_str3 (by have h9 := hv8.row; rw [List.map_append, List.map_append]; simpa using h9)
                  have hoff8 : OffT T2 v8 ((way ++ [y.1]).map mkB) := off_own hv8 (HK4.out).lt
                  have Hb8 := Lib.hid hb8
                  have Hst8 := Lib.hid hst8
                  have Hoff8 := Lib.hid hoff8
                  clear hv8 hg8 hr8 hb8 hst8 hoff8 HOwn7 HOwn Hb7 Hs7 hr1 bd1 bd2 Hbc
                  have hIH := IH.out ka kb T2 va vb vw v8 (JP.gto y.1 H) (JP.gto y.1 P) y.2 (way ++ [y.1]) (d ++ Gs ++ (JP.lost3F H R (O.take j)).map (way ++ ·)) w8 (HJa4.out.keepT (KeepT.of Hb8.out)) (HJb4.out.keepT (KeepT.of Hb8.out)) (HJw4.out.keepT (KeepT.of Hb8.out))
                    (by rw [Hgt.out]; exact JP.wf_gto HRf.out.2) Hwy.out (by have := JP.gto_len y.1 H; have := hHl.out; omega) (by rw [Hgt.out]; have := JP.gto_len y.1 R; have := HRl.out; omega)
                    (by rw [way_sum]; have := Hnm.out; have := HWs.out; omega) Hst8.out Hoff8.out (hI.out _ _ _ _ HI4.out Hb8.out) (HK4.out.grow Hb8.out).lt (HB4.out.trans (Hb8.out.mono HB4.out.size))
                    (by
                      rw [List.length_append, List.length_append, List.length_map]
                      have h1 : Gs.length ≤ 4000 := by
                        rw [← HGs.out, List.length_map]
                        unfold JP.goesL
                        rw [List.length_map]
                        have h2 := List.length_filter_le (fun y => (JP.get y.1 LV).isSome && (JP.get y.1 O).isNone) H
                        have := JP.lenF_length H; have := hHl.out; omega
                      have := Hln3.out; have := HlO.out; have := HDl.out
                      omega)
                  have HIH := Lib.hid hIH
                  clear hIH
                  go_wp2_with fail
                  refine HIH.out.mono ?_
                  rintro E w9 ⟨u9, T9, rfl, ⟨k9, hj9⟩, hi9, hk9, hb9⟩
                  have HK9 := Lib.hid ((HK4.out.grow Hb8.out).trans hk9)
                  have HP9 := Lib.hid ((HP4.out.keepJ (KeepT.of Hb8.out)).keJ hk9)
                  have HWi := Lib.hid (with_any (x := y.1) (HP9.out.upsJ (Nat.le_max_left M2 k9)) (hj9.ups (Nat.le_max_right M2 k9)) HK9.out.lt (by omega))
                  have HI9 := Lib.hid hi9
                  have HB9 := Lib.hid hb9
                  clear hj9 hi9 hk9 hb9 HIH
                  go_wp2_with fail
                  refine HWi.out.mono ?_
                  rintro E wd ⟨qn, rfl, hon, hbn⟩
                  have HOn : Hid (ObR (JvR (max M2 k9) T9) T9 wd qn (JP.into3F H R (O.take (j + 1)))) := Lib.hid (by rw [Htk.out]; exact hon)
                  have HIn : Hid (I (d ++ Gs ++ (JP.lost3F H R (O.take (j + 1))).map (way ++ ·)) T9 wd) := Lib.hid (by
                    rw [Hlt.out, List.map_append, ← List.append_assoc, List.map_map]
                    have h9 := hI.out _ _ _ _ HI9.out hbn
                    have e9 : (JP.lost3 (JP.gto y.1 H) (JP.gto y.1 P) y.2).map (fun r => (way ++ [y.1]) ++ r) = (JP.lost3 (JP.gto y.1 H) (JP.gto y.1 P) y.2).map ((way ++ ·) ∘ (y.1 :: ·)) := List.map_congr_left fun r _ => by show way ++ [y.1] ++ r = way ++ (y.1 :: r); rw [List.append_assoc]; rfl
                    rw [← e9]
                    exact h9)
                  have HKn := Lib.hid (HK9.out.grow hbn)
                  have HBn := Lib.hid (HB9.out.trans (hbn.mono HB9.out.size))
                  clear hon hbn HWi
                  go_wp2_with fail
                  go_roundg k
                  case measure => omega
                  case rel => exact ⟨j + 1, qn, max M2 k9, T9, by omega, by go_num, rfl, HOn, HIn, HKn, HBn⟩
    · have hn : ∀ l, x ≠ .obj l := fun l e => hob ⟨l, e⟩
      have G1 := as_other h hn
      have HJ := Lib.hid h
      have Hd := Lib.hid hd
      have Hw0 := Lib.hid hw0
      have HGl := Lib.hid hG
      have e1 : JP.into3 xa xb x = x := JP.into3_not hn _ _
      have e2 : JP.lost3 xa xb x = [] := JP.lost3_not hn _ _
      rw [e1, e2, List.map_nil, List.append_nil]
      clear ih ha hb h hwb hwx hla hlb hlx hs hoff hd hG hw0 hob hn e1 e2 hdn
      go_enter Tryz.func27, Tryz.ntmps27
      go_wp2_with fail
      go_ret
      exact ⟨_, G, rfl, ⟨n + 1, HJ.out⟩, Hd.out, KE.refl HGl.out, Hw0.out⟩
end Go.Proofs.YtnmhjabihfhobaaGreatDoor
