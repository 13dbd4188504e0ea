/- Texts of ours joined. -/
import Derived.Lib.LaidTab
import Derived.Deep.DeepHandedRow
import Derived.Stop.LaidErr
import Derived.Deep.MidRow
import Derived.ArgAppend
import Derived.BigQuiet
import Derived.Deep.DeepCutAuto
import Derived.Deep.LoopGhost
import Derived.WalkSpells
import Derived.Test.YtnmhjabihfhobaaGreatDoorMt5
set_option linter.unusedVariables false
set_option linter.unusedSimpArgs false
namespace Go.Proofs.YtnmhjabihfhobaaGreatDoor
open Go.RowKit
open JP (JV Bs)
/-- what the library reads -/
def Env (w : World) : Prop := TabOK w ∧ ErrOK w ∧ ∃ m, MaxOK m w
theorem Env.below {w w' : World} (h : Env w) (hb : Below w.heap.size w w') : Env w' := ⟨h.1.below hb, h.2.1.below hb, by obtain ⟨m, hm⟩ := h.2.2; exact ⟨m, hm.below hb⟩⟩
theorem steps_mem {p : Bs} {l : List Bs} (h : stepsP p = (0, l)) : ∀ s ∈ l, s.length ≤ p.length := fun s hs => by
  have h1 : (l.map fun s : Bs => s.length + 1).sum ≤ p.length := steps_total h
  have : ∀ (k : List Bs), s ∈ k → s.length ≤ (k.map fun s => s.length + 1).sum := by
    intro k
    induction k with
    | nil => intro h; cases h
    | cons a r ih =>
      intro hm
      rw [List.map_cons, List.sum_cons]
      rcases List.mem_cons.1 hm with rfl | hm
      · omega
      · have := ih hm; omega
  have := this l hs
  omega
theorem map_mk (L : List ByteArray) : (L.map (·.data.toList)).map mkB = L := by
  rw [List.map_map]
  conv => rhs; rw [← List.map_id L]
  exact List.map_congr_left fun s _ => mkB_of s
set_option maxRecDepth 100000 in
set_option maxHeartbeats 3200000 in
theorem pboth_any (d p : ByteArray) (w : World) (hd : d.size ≤ 1048576) (hp : p.size ≤ 4194304) (hE : Env w) :
    Calls Tryz.prog 33 #[.string d, .string p] w fun e w' => ∃ v sv, e = .returned (.tuple #[v, sv, .int .i64 (JP.dpE d.data.toList p.data.toList)]) ∧ (JP.dpE d.data.toList p.data.toList = 0 → (∃ n, JvAt n [] w' v (JP.readL d.data.toList).1) ∧ StrAt w' sv ((stepsP p.data.toList).2.map mkB)) ∧ Below w.heap.size w w' := by
  have HR := Lib.hid (read_any d w hd)
  obtain ⟨m, hm⟩ := hE.2.2
  have HS := Lib.hid (fun (w' : World) (hb : Below w.heap.size w w') => ptrSteps_any p m w' (by omega) (hm.below hb))
  obtain ⟨x, hx⟩ : ∃ x, (JP.readL d.data.toList).1 = x := ⟨_, rfl⟩
  obtain ⟨er, her⟩ : ∃ er, (JP.readL d.data.toList).2 = er := ⟨_, rfl⟩
  obtain ⟨ep, hep⟩ : ∃ er, (stepsP p.data.toList).1 = er := ⟨_, rfl⟩
  obtain ⟨l, hl⟩ : ∃ er, (stepsP p.data.toList).2 = er := ⟨_, rfl⟩
  have hsp : stepsP p.data.toList = (ep, l) := Prod.ext hep hl
  obtain ⟨E0, hE0⟩ : ∃ T, JP.dpE d.data.toList p.data.toList = T := ⟨_, rfl⟩
  have HEx : Hid (E0 = if er = 0 then ep else er) := Lib.hid (by rw [← hE0]; unfold JP.dpE; rw [her, hep])
  rw [hx, her] at HR
  rw [hsp] at HS
  rw [hE0, hx, hl]
  clear hx her hep hl hsp hE0 hE hm
  go_enter Tryz.func33, Tryz.ntmps33
  go_wp2_with fail
  refine HR.out.mono ?_
  rintro E w1 ⟨u, rfl, ⟨n, hj⟩, hb⟩
  have HJ := Lib.hid hj
  have HB := Lib.hid hb
  clear hj hb HR
  by_cases he : er = 0
  · subst he
    have HEt : Hid (E0 = ep) := Lib.hid (by rw [HEx.out]; exact if_pos rfl)
    go_wp2_with fail
    refine (HS.out w1 HB.out).mono ?_
    rintro E w2 ⟨sv, rfl, ⟨L, hL, hLl⟩, hb⟩
    have hLl : L.map (·.data.toList) = l := hLl
    have HSt : Hid (StrAt w2 sv (l.map mkB)) := Lib.hid (by rw [← hLl, map_mk]; exact hL)
    have HJ1 := Lib.hid (HJ.out.below hb)
    have HB2 := Lib.hid (HB.out.trans (hb.mono HB.out.size))
    clear hb hL hLl HJ HB
    go_wp2_with fail
    go_ret3
    exact ⟨_, _, by rw [HEt.out] <;> rfl, fun _ => ⟨⟨_, HJ1.out⟩, HSt.out⟩, HB2.out⟩
  · have n0 : (er != 0) = true := by rw [bne_iff_ne]; exact he
    have HEt : Hid (E0 = er) := Lib.hid (by rw [HEx.out]; exact if_neg he)
    have Hne := Lib.hid he
    clear he
    go_wp2_with fail
    go_ret3
    exact ⟨_, _, by rw [HEt.out] <;> rfl, fun h => absurd (HEt.out.symm.trans h) Hne.out, HB.out⟩
def AnsAt (t : Bs) (c : Int) (w : World) (e : Ending) (w' : World) : Prop := e = .returned (.tuple #[.string (mkB t), .int .i64 c]) ∧ Below w.heap.size w w'
theorem AnsAt.mk' {t t' : Bs} {c c' : Int} {w w' : World} (h1 : t = t') (h2 : c = c') (hb : Below w.heap.size w w') : AnsAt t c w (.returned (.tuple #[.string (mkB t'), .int .i64 c'])) w' := ⟨by rw [h1, h2], hb⟩
theorem AnsAt.no {t : Bs} {c c' : Int} {w w' : World} (h1 : t = []) (h2 : c = c') (hb : Below w.heap.size w w') : AnsAt t c w (.returned (.tuple #[.string ⟨#[]⟩, .int .i64 c'])) w' := ⟨by rw [h1, h2]; rfl, hb⟩
set_option maxRecDepth 100000 in
set_option maxHeartbeats 3200000 in
theorem pgetW_any (d p : ByteArray) (w : World) (hd : d.size ≤ 1048576) (hp : p.size ≤ 4194304) (hsm : ∀ l, stepsP p.data.toList = (0, l) → ∀ s ∈ l, s.length ≤ 1048576) (hE : Env w) :
    Calls Tryz.prog 15 #[.string d, .string p] w (AnsAt (JP.getT d.data.toList p.data.toList) (JP.getE d.data.toList p.data.toList) w) := by
  have HP := Lib.hid (pboth_any d p w hd hp hE)
  have HEn := Lib.hid hE
  by_cases h0 : JP.dpE d.data.toList p.data.toList = 0
  · obtain ⟨x, l, h1, h2, h3, h4, h5⟩ := JP.dp_ok h0
    have hlm := hsm l h2
    have hg := JP.get_of h1 h2
    have hz := h3.2.2.2
    rw [h0, h1, h2] at HP
    obtain ⟨E0, hE0⟩ : ∃ T, JP.getE d.data.toList p.data.toList = T := ⟨_, rfl⟩
    obtain ⟨T0, hT0⟩ : ∃ T, JP.getT d.data.toList p.data.toList = T := ⟨_, rfl⟩
    rw [hE0, hT0] at hg ⊢
    have Hg := Lib.hid hg
    have Hlm : Hid (∀ s ∈ l, s.length ≤ 1048576) := Lib.hid hlm
    clear hg h0 h1 h2 h3 h4 hlm hE0 hT0 hE hsm hd hp
    go_enter Tryz.func15, Tryz.ntmps15
    go_wp2_with fail
    refine HP.out.mono ?_
    rintro E w1 ⟨v, sv, rfl, hvs, hb⟩
    obtain ⟨⟨n, hj⟩, hst⟩ := hvs (by first | rfl | trivial)
    have HB := Lib.hid hb
    have HA := Lib.hid (at_any hj (by show (JP.text x).length ≤ 1000000; omega) hst Hlm.out (by show l.length ≤ 1048576; omega) (HEn.out.1.below hb) (HEn.out.2.1.below hb))
    clear hb hvs hj hst
    obtain ⟨A0, hA0⟩ : ∃ A, JP.atW x l = A := ⟨_, rfl⟩
    have HA : Hid (Calls Tryz.prog 34 #[v, sv] w1 (ChildAt A0 w1)) := Lib.hid (by rw [← hA0]; exact HA.out)
    have Hg2 : Hid ((∀ c, A0 = some c → E0 = 0 ∧ T0 = JP.text c) ∧ (A0 = none → E0 = 7 ∧ T0 = [])) := Lib.hid (by rw [← hA0]; exact Hg.out)
    have Hfit : Hid (∀ c, A0 = some c → (JP.text c).length ≤ 4194304) := Lib.hid (fun c hc => by
      have h9 : (JP.text x).length ≤ 2000 := hz
      rw [← hA0] at hc
      have : ∀ (l : List Bs) (x : JV), JP.atW x l = some c → (JP.text c).length ≤ (JP.text x).length := by
        intro l
        induction l with
        | nil => intro x h; rw [JP.atW] at h; cases h; exact Nat.le_refl _
        | cons s r ih =>
          intro x h
          rw [JP.atW_cons] at h
          obtain ⟨y, h1, h2⟩ := Option.bind_eq_some_iff.1 h
          have := ih y h2
          have := (JP.child_len h1).1
          omega
      have := this l x hc
      omega)
    clear hA0
    cases A0 with
    | none =>
      have Hf := Lib.hid (Hg2.out.2 rfl)
      go_wp2_with fail
      refine HA.out.mono ?_
      rintro E w2 ⟨u, rfl, _, hb⟩
      have HB2 := Lib.hid (HB.out.trans (hb.mono HB.out.size))
      clear hb
      go_wp2_with fail
      go_ret2
      exact AnsAt.no Hf.out.2 Hf.out.1 HB2.out
    | some c =>
      have Hf := Lib.hid (Hg2.out.1 c rfl)
      go_wp2_with fail
      refine HA.out.mono ?_
      rintro E w2 ⟨u, rfl, hu, hb⟩
      obtain ⟨k, hk⟩ := hu c rfl
      have HB2 := Lib.hid (HB.out.trans (hb.mono HB.out.size))
      have HT := Lib.hid (text_any k u c w2 hk (Hfit.out c rfl) (HEn.out.1.below HB2.out))
      clear hb hu hk
      go_wp2_with fail
      refine HT.out.mono ?_
      rintro E w3 ⟨rfl, hb⟩
      have HB3 := Lib.hid (HB2.out.trans (hb.mono HB2.out.size))
      clear hb
      go_wp2_with fail
      go_ret2
      exact AnsAt.mk' Hf.out.2 Hf.out.1 HB3.out
  · have e1 : JP.getE d.data.toList p.data.toList = JP.dpE d.data.toList p.data.toList := if_neg h0
    have e2 : JP.getT d.data.toList p.data.toList = [] := if_neg h0
    rw [e1, e2]
    obtain ⟨E0, hE0⟩ : ∃ T, JP.dpE d.data.toList p.data.toList = T := ⟨_, rfl⟩
    rw [hE0] at HP h0 ⊢
    have n0 : (E0 != 0) = true := by rw [bne_iff_ne]; exact h0
    clear h0 e1 e2 hE0 hE hsm hd hp
    go_enter Tryz.func15, Tryz.ntmps15
    go_wp2_with fail
    refine HP.out.mono ?_
    rintro E w1 ⟨v, sv, rfl, _, hb⟩
    have HB := Lib.hid hb
    clear hb
    go_wp2_with fail
    go_ret2
    exact AnsAt.no rfl rfl HB.out
theorem pget_any (d p : ByteArray) (w : World) (hd : d.size ≤ 1048576) (hp : p.size ≤ 1048576) (hE : Env w) :
    Calls Tryz.prog 15 #[.string d, .string p] w (AnsAt (JP.getT d.data.toList p.data.toList) (JP.getE d.data.toList p.data.toList) w) :=
  pgetW_any d p w hd (by omega) (fun l hl s hs => Nat.le_trans (steps_mem hl s hs) (by rw [list_size]; exact hp)) hE
end Go.Proofs.YtnmhjabihfhobaaGreatDoor
namespace Go.Proofs.YtnmhjabihfhobaaGreatDoor
open Go.RowKit Go.ChangeShapes Go.WideShapes Go.ChangeAt
theorem laid_tail {P : Program} {W : World} {x : String × DataW Unit} {r : List (String × DataW Unit)} (h : laidMet P (x :: r) W) : laidMet P r W := by
  obtain ⟨ps, ⟨g, t, cs, fuel, p, q, _, _, _, _, hq, rfl⟩, hnd, hall⟩ := h
  exact ⟨q, hq, (List.nodup_append.1 hnd).2.1, fun b off hb => hall b off (List.mem_append_right _ hb)⟩
noncomputable def tabG : Nat := (Tryz.prog.globalNamed "internal/strconv.uint64pow10").getD 0
noncomputable def tabT : TypeId := ((Tryz.prog.globals[tabG]?).map (·.type)).getD 0
noncomputable def tabE : TypeId := match Tryz.prog.underlying tabT with | some (.array _ e) => e | _ => 0
noncomputable def tabN : Nat := match Tryz.prog.underlying tabT with | some (.array n _) => n | _ => 0
theorem gTab1 : Tryz.prog.globalNamed "internal/strconv.uint64pow10" = some tabG := by kernel_rfl
theorem gTab2 : (Tryz.prog.globals[tabG]?).map (·.type) = some tabT := by kernel_rfl
theorem gTab3 : Tryz.prog.underlying tabT = some (.array tabN tabE) := by kernel_rfl
theorem gTab4 : Tryz.prog.underlying tabE = some (.int .u64) := by kernel_rfl
theorem gTab5 : Tryz.prog.cellsOf tabE = 1 := by kernel_rfl
theorem gTab6 : Tryz.prog.cellsOf tabT = tabN := by kernel_rfl
theorem tab_of {W : World} {x1 x2 : String × DataW Unit} {r : List (String × DataW Unit)} {d : DataW Unit} (hd : d = Lib.tabData .u64 Lib.pow10Tab) (h : laidMet Tryz.prog (x1 :: x2 :: ("internal/strconv.uint64pow10", d) :: r) W) : TabOK W := by
  subst hd
  exact Lib.tabIs_of_head gTab1 gTab2 gTab3 gTab4 gTab5 gTab6 (laid_tail (laid_tail h))
end Go.Proofs.YtnmhjabihfhobaaGreatDoor
namespace Go.Proofs.YtnmhjabihfhobaaGreatDoor
open Go.RowKit Go.ChangeShapes Go.WideShapes Go.ChangeAt
theorem star_err : "*" ++ "errors.errorString" = "*errors.errorString" := by decide
theorem row_err (u : TypeId) (h : Tryz.prog.typeName? 3 u = some "*errors.errorString") : u = 235 :=
  typeName_ptr_named (nm := "errors.errorString") (by rw [star_err]; kernel_rfl) (by kernel_rfl) (by decide) u (by rw [star_err]; exact h)
noncomputable def errR : Nat := (Tryz.prog.globalNamed "strconv.ErrRange").getD 0
noncomputable def errS : Nat := (Tryz.prog.globalNamed "strconv.ErrSyntax").getD 0
theorem errR1 : Tryz.prog.globalNamed "strconv.ErrRange" = some errR := by kernel_rfl
theorem errS1 : Tryz.prog.globalNamed "strconv.ErrSyntax" = some errS := by kernel_rfl
theorem errR2 : (Tryz.prog.globals[errR]?).map (·.type) = some 160 := by kernel_rfl
theorem errS2 : (Tryz.prog.globals[errS]?).map (·.type) = some 160 := by kernel_rfl
theorem errCells : Tryz.prog.cellsOf 237 = 1 := by kernel_rfl
theorem errCells2 : Tryz.prog.cellsOf 9 = 1 := by kernel_rfl
theorem err_of {W : World} {x1 x2 x3 x4 : String × DataW Unit} {t1 t2 : List UInt8} {d1 d2 : DataW Unit} {r : List (String × DataW Unit)} (h1 : d1 = .iface "*errors.errorString" (.ptr (.agg [.lit (.string t1)]))) (h2 : d2 = .iface "*errors.errorString" (.ptr (.agg [.lit (.string t2)]))) (h : laidMet Tryz.prog (x1 :: x2 :: x3 :: x4 :: ("strconv.ErrRange", d1) :: ("strconv.ErrSyntax", d2) :: r) W) : ErrOK W := by
  subst h1; subst h2
  have h4 := h.tail.tail.tail.tail
  obtain ⟨a0, s0, hv0, _⟩ := laid_sentinel h4 errR1 errR2 Tryz.underlying160 row_err Tryz.underlying235 Tryz.underlying237 rfl rfl Tryz.underlying9 errCells errCells2
  obtain ⟨a1, s1, hv1, _⟩ := laid_sentinel h4.tail errS1 errS2 Tryz.underlying160 row_err Tryz.underlying235 Tryz.underlying237 rfl rfl Tryz.underlying9 errCells errCells2
  exact ⟨_, _, _, _, hv1, hv0⟩
theorem env_of {W : World} {x1 x2 x4 : String × DataW Unit} {t1 t2 : List UInt8} {d d1 d2 : DataW Unit} {r : List (String × DataW Unit)} (hd : d = Lib.tabData .u64 Lib.pow10Tab) (h1 : d1 = .iface "*errors.errorString" (.ptr (.agg [.lit (.string t1)]))) (h2 : d2 = .iface "*errors.errorString" (.ptr (.agg [.lit (.string t2)]))) (h : laidMet Tryz.prog (x1 :: x2 :: ("internal/strconv.uint64pow10", d) :: x4 :: ("strconv.ErrRange", d1) :: ("strconv.ErrSyntax", d2) :: r) W) (hs : W.ShapedOpen Tryz.prog) : Env W :=
  ⟨tab_of hd h, err_of h1 h2 h, max_of hs⟩
end Go.Proofs.YtnmhjabihfhobaaGreatDoor
namespace Go.Proofs.YtnmhjabihfhobaaGreatDoor
open Go.RowKit Go.ChangeShapes Go.WideShapes
structure GField where
  name : ByteArray
  part : Int
def FieldR : Rd GField := fun _ cs x => cs = [.string x.name, .int .i64 x.part] ∧ (Lit.int .i64 x.part).wf = true
theorem stays_field : Stays FieldR := fun _ _ _ _ _ h => h
def fieldB (x : GField) : Nat := ((x.name.size + 1) + (1 + 0)) + 1
set_option maxRecDepth 10000 in
theorem opens_field : Opens Tryz.prog 89 FieldR fieldB := by
  intro H enc w base spare held fuel cs x h
  obtain ⟨xs, n, _, rfl, hl, hx, hf⟩ := DataW.trod_struct Tryz.underlying89 h
  have hl2 : cs.length = 2 := hl.trans (by kernel_rfl)
  clear hl h
  match cs, hl2, xs, hx, hf with
  | [c0, c1], _, [x0, x1], _, hf =>
    obtain ⟨a0, r0, m0⟩ := (opens_string Tryz.underlying9).at (o := 0) (cs := [c0, c1]) (ds := [c0]) (x := x0) (hf 0 _ rfl) (k := 1) (by kernel_rfl) rfl
    obtain ⟨a1, r1, m1⟩ := (opens_int Tryz.underlying3).at (o := 1) (cs := [c0, c1]) (ds := [c1]) (x := x1) (hf 1 _ rfl) (k := 1) (by kernel_rfl) rfl
    clear hf
    obtain rfl : c0 = .string a0 := by simpa [RString] using r0
    obtain ⟨r1, w1⟩ := r1
    obtain rfl : c1 = .int .i64 a1 := by simpa using r1
    refine ⟨⟨a0, a1⟩, ⟨rfl, w1⟩, ?_⟩
    simp only [List.map_cons, List.map_nil, Rows.uptoBulk, Rows.uptoBulkAll, fieldB]
    omega
structure GPart where
  kind : Int
  fields : List GField
  need : List ByteArray
  extra : Bool
  items : Int
  least : Int
  most : Int
  enum : List ByteArray
  deflt : ByteArray
def PartR : Rd GPart := fun w cs x => ∃ v1 v2 v7, cs = [.int .i64 x.kind, v1, v2, .bool x.extra, .int .i64 x.items, .int .i64 x.least, .int .i64 x.most, v7, .string x.deflt] ∧ (Lit.int .i64 x.kind).wf = true ∧ RowAt FieldR 2 w v1 x.fields ∧ StrAt w v2 x.need ∧ (Lit.int .i64 x.items).wf = true ∧ (Lit.int .i64 x.least).wf = true ∧ (Lit.int .i64 x.most).wf = true ∧ StrAt w v7 x.enum
theorem stays_part : Stays PartR := fun _ _ _ _ hk ⟨v1, v2, v7, h, g0_0, g1, g2, g4_0, g5_0, g6_0, g7⟩ => ⟨v1, v2, v7, h, g0_0, g1.keep stays_field hk, g2.keep hk, g4_0, g5_0, g6_0, g7.keep hk⟩
def partB (x : GPart) : Nat := (1 + (((x.fields.map fieldB).sum + 1) + ((total x.need + 1) + (1 + (1 + (1 + (1 + ((total x.enum + 1) + ((x.deflt.size + 1) + 0))))))))) + 1
set_option maxRecDepth 10000 in
theorem opens_part : Opens Tryz.prog 73 PartR partB := by
  intro H enc w base spare held fuel cs x h
  obtain ⟨xs, n, _, rfl, hl, hx, hf⟩ := DataW.trod_struct Tryz.underlying73 h
  have hl2 : cs.length = 9 := hl.trans (by kernel_rfl)
  clear hl h
  match cs, hl2, xs, hx, hf with
  | [c0, c1, c2, c3, c4, c5, c6, c7, c8], _, [x0, x1, x2, x3, x4, x5, x6, x7, x8], _, hf =>
    obtain ⟨a0, r0, m0⟩ := (opens_int Tryz.underlying3).at (o := 0) (cs := [c0, c1, c2, c3, c4, c5, c6, c7, c8]) (ds := [c0]) (x := x0) (hf 0 _ rfl) (k := 1) (by kernel_rfl) rfl
    obtain ⟨a1, r1, m1⟩ := (opens_row (k := 2) Tryz.underlying71 (by kernel_rfl) opens_field).at (o := 1) (cs := [c0, c1, c2, c3, c4, c5, c6, c7, c8]) (ds := [c1]) (x := x1) (hf 1 _ rfl) (k := 1) (by kernel_rfl) rfl
    obtain ⟨a2, r2, m2⟩ := (opens_strs Tryz.underlying25 Tryz.underlying9 (by kernel_rfl)).at (o := 2) (cs := [c0, c1, c2, c3, c4, c5, c6, c7, c8]) (ds := [c2]) (x := x2) (hf 2 _ rfl) (k := 1) (by kernel_rfl) rfl
    obtain ⟨a3, r3, m3⟩ := (opens_bool Tryz.underlying4).at (o := 3) (cs := [c0, c1, c2, c3, c4, c5, c6, c7, c8]) (ds := [c3]) (x := x3) (hf 3 _ rfl) (k := 1) (by kernel_rfl) rfl
    obtain ⟨a4, r4, m4⟩ := (opens_int Tryz.underlying3).at (o := 4) (cs := [c0, c1, c2, c3, c4, c5, c6, c7, c8]) (ds := [c4]) (x := x4) (hf 4 _ rfl) (k := 1) (by kernel_rfl) rfl
    obtain ⟨a5, r5, m5⟩ := (opens_int Tryz.underlying2).at (o := 5) (cs := [c0, c1, c2, c3, c4, c5, c6, c7, c8]) (ds := [c5]) (x := x5) (hf 5 _ rfl) (k := 1) (by kernel_rfl) rfl
    obtain ⟨a6, r6, m6⟩ := (opens_int Tryz.underlying2).at (o := 6) (cs := [c0, c1, c2, c3, c4, c5, c6, c7, c8]) (ds := [c6]) (x := x6) (hf 6 _ rfl) (k := 1) (by kernel_rfl) rfl
    obtain ⟨a7, r7, m7⟩ := (opens_strs Tryz.underlying25 Tryz.underlying9 (by kernel_rfl)).at (o := 7) (cs := [c0, c1, c2, c3, c4, c5, c6, c7, c8]) (ds := [c7]) (x := x7) (hf 7 _ rfl) (k := 1) (by kernel_rfl) rfl
    obtain ⟨a8, r8, m8⟩ := (opens_string Tryz.underlying9).at (o := 8) (cs := [c0, c1, c2, c3, c4, c5, c6, c7, c8]) (ds := [c8]) (x := x8) (hf 8 _ rfl) (k := 1) (by kernel_rfl) rfl
    clear hf
    obtain ⟨r0, w0⟩ := r0
    obtain rfl : c0 = .int .i64 a0 := by simpa using r0
    obtain ⟨v1, r1, s1⟩ := r1
    obtain rfl : c1 = v1 := by simpa using r1
    obtain ⟨v2, r2, s2⟩ := r2
    obtain rfl : c2 = v2 := by simpa using r2
    obtain rfl : c3 = .bool a3 := by simpa [RBool] using r3
    obtain ⟨r4, w4⟩ := r4
    obtain rfl : c4 = .int .i64 a4 := by simpa using r4
    obtain ⟨r5, w5⟩ := r5
    obtain rfl : c5 = .int .i64 a5 := by simpa using r5
    obtain ⟨r6, w6⟩ := r6
    obtain rfl : c6 = .int .i64 a6 := by simpa using r6
    obtain ⟨v7, r7, s7⟩ := r7
    obtain rfl : c7 = v7 := by simpa using r7
    obtain rfl : c8 = .string a8 := by simpa [RString] using r8
    refine ⟨⟨a0, a1, a2, a3, a4, a5, a6, a7, a8⟩, ⟨c1, c2, c7, rfl, w0, s1, s2, w4, w5, w6, s7⟩, ?_⟩
    simp only [List.map_cons, List.map_nil, Rows.uptoBulk, Rows.uptoBulkAll, partB]
    omega
structure GFault where
  path : ByteArray
  what : Int
def FaultR : Rd GFault := fun _ cs x => cs = [.string x.path, .int .i64 x.what] ∧ (Lit.int .i64 x.what).wf = true
theorem stays_fault : Stays FaultR := fun _ _ _ _ _ h => h
end Go.Proofs.YtnmhjabihfhobaaGreatDoor
namespace Go.Proofs.YtnmhjabihfhobaaGreatDoor
open Go
namespace JP
mutual
def gat : List Bs → JV → List (List Bs × JV)
  | way, .obj l => if l.isEmpty = true then (if way.isEmpty = true then [] else [(way, .obj [])]) else gatF way l
  | way, .list l => [(way, .list l)]
  | way, .nul => [(way, .nul)]
  | way, .bool b => [(way, .bool b)]
  | way, .num n => [(way, .num n)]
  | way, .str s => [(way, .str s)]
termination_by structural _ x => x
def gatF : List Bs → List (Bs × JV) → List (List Bs × JV)
  | _, [] => []
  | way, (n, v) :: r => gat (way ++ [n]) v ++ gatF way r
termination_by structural _ x => x
end
theorem gat_other {x : JV} (h : ∀ l, x ≠ .obj l) (way : List Bs) : gat way x = [(way, x)] := by
  cases x with
  | obj l => exact absurd rfl (h l)
  | _ => rw [gat]
theorem gatF_append (way : List Bs) : ∀ a b : List (Bs × JV), gatF way (a ++ b) = gatF way a ++ gatF way b
  | [], b => by rw [gatF]; rfl
  | (n, v) :: r, b => by rw [List.cons_append, gatF, gatF, gatF_append way r b, List.append_assoc]
theorem gatF_one (way : List Bs) (n : Bs) (v : JV) : gatF way [(n, v)] = gat (way ++ [n]) v := by rw [gatF, gatF, List.append_nil]
theorem gatF_step (way : List Bs) {l : List (Bs × JV)} {i : Nat} {y : Bs × JV} (h : l[i]? = some y) : gatF way (l.take (i + 1)) = gatF way (l.take i) ++ gat (way ++ [y.1]) y.2 := by
  rw [List.take_add_one, h, gatF_append]
  show _ ++ gatF way [(y.1, y.2)] = _
  rw [gatF_one]
theorem sizeF_here : ∀ {l : List (Bs × JV)} {j : Nat} {y : Bs × JV}, l[j]? = some y → sizeF (l.take j) + size y.2 ≤ sizeF l
  | [], j, y, h => by simp at h
  | (n, v) :: r, 0, y, h => by
    simp at h
    subst h
    rw [List.take_zero, sizeF, sizeF]; simp only; omega
  | (n, v) :: r, j + 1, y, h => by
    rw [List.getElem?_cons_succ] at h
    have := sizeF_here h
    rw [List.take_succ_cons, sizeF, sizeF]
    omega
mutual
theorem gat_len : ∀ (way : List Bs) (x : JV), (gat way x).length ≤ size x
  | way, .obj l => by
    rw [gat, size]
    split
    · split <;> simp
    · have := gatF_len way l; omega
  | way, .list l => by rw [gat]; have := size_pos (.list l); simpa using this
  | way, .nul => by rw [gat]; simp [size]
  | way, .bool b => by rw [gat]; simp [size]
  | way, .num n => by rw [gat]; simp [size]
  | way, .str s => by rw [gat]; simp [size]
termination_by structural _ x => x
theorem gatF_len : ∀ (way : List Bs) (l : List (Bs × JV)), (gatF way l).length ≤ sizeF l
  | _, [] => by rw [gatF]; simp
  | way, (n, v) :: r => by
    rw [gatF, sizeF, List.length_append]
    have := gat_len (way ++ [n]) v
    have := gatF_len way r
    omega
termination_by structural _ x => x
end
end JP
end Go.Proofs.YtnmhjabihfhobaaGreatDoor
namespace Go.Proofs.YtnmhjabihfhobaaGreatDoor
open Go.RowKit
/-- stores into a row of the call's own, one behind the other: all else stays -/
theorem setCells_all (g : Nat) (t : TypeId) : ∀ (vs : List Value) (i : Nat) (cur : Array Value) (w : World), w.heap[g]? = some (.cells cur t (0, 0)) → i + vs.length ≤ cur.size →
    ∃ cur', (w.setCells g i vs).heap[g]? = some (.cells cur' t (0, 0)) ∧ cur'.size = cur.size ∧ (∀ j, j < i ∨ i + vs.length ≤ j → cur'[j]? = cur[j]?) ∧ (∀ j u, vs[j]? = some u → cur'[i + j]? = some u) ∧ Touch g w (w.setCells g i vs)
  | [], i, cur, w, hg, _ => ⟨cur, hg, rfl, fun _ _ => rfl, fun j u h => by simp at h, ⟨rfl, rfl, rfl, rfl, fun _ _ => rfl⟩⟩
  | v :: r, i, cur, w, hg, hl => by
    simp only [List.length_cons] at hl
    obtain ⟨h1, h2⟩ := touch_setCell (w := w) (i := i) (v := v) hg
    obtain ⟨cur', g1, g2, g3, g4, g5⟩ := setCells_all g t r (i + 1) _ _ h1 (by simp; omega)
    refine ⟨cur', g1, by simpa using g2, fun j hj => ?_, fun j u hu => ?_, ?_⟩
    · simp only [List.length_cons] at hj
      rw [g3 j (by omega), Array.getElem?_setIfInBounds, if_neg (by omega)]
    · cases j with
      | zero =>
        simp only [List.getElem?_cons_zero, Option.some.injEq] at hu
        subst hu
        rw [Nat.add_zero, g3 i (by omega), Array.getElem?_setIfInBounds, if_pos rfl, if_pos (by omega)]
      | succ j =>
        have := g4 j u (by simpa using hu)
        rwa [show i + 1 + j = i + (j + 1) by omega] at this
    · show Touch g w ((w.setCell ⟨g, i, none⟩ v).setCells g (i + 1) r)
      exact ⟨g5.os.trans h2.os, g5.tape.trans h2.tape, g5.output.trans h2.output, g5.size.trans h2.size, fun b hb => (g5.other b hb).trans (h2.other b hb)⟩
section
variable {α : Type} {R : Rd α} {k B : Nat} {e : TypeId} {w : World} {g n c : Nat} {l : List α}
/-- its cells may be written -/
theorem OwnAt.there (h : OwnAt R k w B e (.slice (some ⟨g, 0, none⟩) n c) l) {o m : Nat} (hm : o + m ≤ c * k) : w.there g o m := by
  obtain ⟨css, h1, h2, h3, h4⟩ := h
  rcases h3.2 with ⟨h5, _⟩ | ⟨g', cap, cur, hv, hB, hh, hle, hmx, hz, ht⟩
  · cases h5
  · cases hv
    intro j hj
    refine ⟨?_, free_block hh _⟩
    rw [cell_block hh, Array.getElem?_eq_getElem (by omega)]
    rfl
/-- a whole element is stored -/
theorem OwnAt.storeElem (hf : Flat R) (h : OwnAt R k w B e (.slice (some ⟨g, 0, none⟩) n c) l) {i : Nat} (hi : i < l.length) {cs : List Value} (hk : cs.length = k) {x : α} (hR : R w cs x) :
    OwnAt R k (w.setCells g (i * k) cs) B e (.slice (some ⟨g, 0, none⟩) n c) (l.set i x) ∧ Touch g w (w.setCells g (i * k) cs) := by
  obtain ⟨css, h1, h2, h3, h4⟩ := h
  rcases h3.2 with ⟨h5, _⟩ | ⟨g', cap, cur, hv, hB, hh, hle, hmx, hz, ht⟩
  · cases h5
  · have hlen : css.flatten.length = l.length * k := by rw [flat_len h2, h1]
    cases hv
    have hik : i * k + k ≤ l.length * k := by rw [← Nat.succ_mul]; exact Nat.mul_le_mul_right k hi
    have hlc : l.length * k ≤ c * k := Nat.mul_le_mul_right k hle
    obtain ⟨cur', g1, g2, g3, g4, g5⟩ := setCells_all g e cs (i * k) cur w hh (by rw [hk, hz]; omega)
    have hk2 : ∀ q ∈ css.set i cs, q.length = k := fun q hq => by
      rcases List.mem_or_eq_of_mem_set hq with h6 | h6
      · exact h2 q h6
      · rw [h6]; exact hk
    have hfl : ∀ t, t < l.length * k → cur'[t]? = (css.set i cs).flatten[t]? := fun t htl => by
      have hk0 : 0 < k := by
        rcases Nat.eq_zero_or_pos k with h0 | h0
        · subst h0; simp at htl
        · exact h0
      have hdm : t = t / k * k + t % k := by rw [Nat.mul_comm]; exact (Nat.div_add_mod t k).symm
      have hmod : t % k < k := Nat.mod_lt _ hk0
      have hdiv : t / k < css.length := by rw [h1]; exact (Nat.div_lt_iff_lt_mul hk0).2 htl
      by_cases hti : t / k = i
      · have hu : cs[t % k]? = some (cs[t % k]'(by omega)) := List.getElem?_eq_getElem _
        have e1 := get_flat hk2 (j := i) (i := t % k) (cs := cs) (by rw [List.getElem?_set, if_pos rfl, if_pos (by omega)]) hu
        have e2 := g4 (t % k) _ hu
        rw [← hti, ← hdm] at e2
        rw [← hti, ← hdm] at e1
        rw [hti] at e1
        rw [e2, e1]
      · have hq : css[t / k]? = some css[t / k] := List.getElem?_eq_getElem hdiv
        have hu : (css[t / k])[t % k]? = some ((css[t / k])[t % k]'(by rw [h2 _ (List.getElem_mem _)]; exact hmod)) := List.getElem?_eq_getElem _
        have e1 := get_flat hk2 (j := t / k) (i := t % k) (by rw [List.getElem?_set, if_neg (fun h => hti h.symm)]; exact hq) hu
        have e3 := get_flat h2 (j := t / k) (i := t % k) hq hu
        rw [← hdm] at e1 e3
        have hout : t < i * k ∨ i * k + cs.length ≤ t := by
          rw [hk]
          rcases Nat.lt_or_gt_of_ne hti with h7 | h7
          · left
            have : (t / k + 1) * k ≤ i * k := Nat.mul_le_mul_right k h7
            rw [Nat.succ_mul] at this; omega
          · right
            have : (i + 1) * k ≤ t / k * k := Nat.mul_le_mul_right k h7
            rw [Nat.succ_mul] at this; omega
        rw [g3 t hout, e1, ← e3, ← ht, List.getElem?_take_of_lt htl, Array.getElem?_toList]
    refine ⟨⟨css.set i cs, by simp [h1], hk2, ?_, fun j q y hq hy => ?_⟩, g5⟩
    · rw [List.length_set]
      refine ⟨by rw [flat_len hk2, List.length_set, h1], .inr ⟨g, c, cur', rfl, hB, g1, hle, hmx, by rw [g2]; exact hz, ?_⟩⟩
      apply List.ext_getElem?
      intro t
      by_cases htl : t < l.length * k
      · rw [List.getElem?_take_of_lt htl, Array.getElem?_toList, hfl t htl]
      · rw [List.getElem?_eq_none (by rw [List.length_take]; omega), List.getElem?_eq_none (by rw [flat_len hk2, List.length_set, h1]; omega)]
    · by_cases hij : i = j
      · subst hij
        rw [List.getElem?_set, if_pos rfl, if_pos (by omega)] at hq
        rw [List.getElem?_set, if_pos rfl, if_pos hi] at hy
        cases hq; cases hy
        exact hf _ _ _ _ hR
      · rw [List.getElem?_set, if_neg hij] at hq hy
        exact hf _ _ _ _ (h4 j q y hq hy)
/-- stores behind the first i; cut short there -/
theorem OwnAt.behind (hf : Flat R) (h : OwnAt R k w B e (.slice (some ⟨g, 0, none⟩) n c) l) {i : Nat} (hi : i ≤ l.length) {vs : List Value} (hvs : i * k + vs.length ≤ c * k) :
    OwnAt R k (w.setCells g (i * k) vs) B e (.slice (some ⟨g, 0, none⟩) i c) (l.take i) ∧ Touch g w (w.setCells g (i * k) vs) := by
  obtain ⟨css, h1, h2, h3, h4⟩ := h
  rcases h3.2 with ⟨h5, _⟩ | ⟨g', cap, cur, hv, hB, hh, hle, hmx, hz, ht⟩
  · cases h5
  · cases hv
    obtain ⟨cur', g1, g2, g3, g4, g5⟩ := setCells_all g e vs (i * k) cur w hh (by rw [hz]; exact hvs)
    have hik : i * k ≤ l.length * k := Nat.mul_le_mul_right k hi
    have hlk : (l.take i).length = i := by rw [List.length_take]; omega
    have hk2 : ∀ q ∈ css.take i, q.length = k := fun q hq => h2 q (List.mem_of_mem_take hq)
    have hfl : (css.take i).flatten.length = i * k := by rw [flat_len hk2, List.length_take, h1]; congr 1; omega
    have hpre : (css.take i).flatten = css.flatten.take (i * k) := by
      have h7 : css.flatten = (css.take i).flatten ++ (css.drop i).flatten := by rw [← List.flatten_append, List.take_append_drop]
      rw [h7, ← hfl, List.take_left]
    refine ⟨⟨css.take i, by rw [List.length_take, List.length_take, h1], hk2, ?_, fun j q y hq hy => ?_⟩, g5⟩
    · rw [hlk]
      refine ⟨hfl, .inr ⟨g, c, cur', rfl, hB, g1, by omega, hmx, by rw [g2]; exact hz, ?_⟩⟩
      rw [hpre, ← ht]
      apply List.ext_getElem?
      intro t
      by_cases htl : t < i * k
      · rw [List.getElem?_take_of_lt htl, Array.getElem?_toList, g3 t (.inl htl), List.getElem?_take_of_lt htl, List.getElem?_take_of_lt (by omega), Array.getElem?_toList]
      · rw [List.getElem?_eq_none (by rw [List.length_take]; omega), List.getElem?_eq_none (by rw [List.length_take]; omega)]
    · have hj : j < i := by have := (List.getElem?_eq_some_iff.1 hy).1; omega
      rw [List.getElem?_take_of_lt hj] at hq hy
      exact hf _ _ _ _ (h4 j q y hq hy)
end
end Go.Proofs.YtnmhjabihfhobaaGreatDoor
namespace Go.Proofs.YtnmhjabihfhobaaGreatDoor
open Go.RowKit
end Go.Proofs.YtnmhjabihfhobaaGreatDoor
namespace Go.Proofs.YtnmhjabihfhobaaGreatDoor
open Go.RowKit
end Go.Proofs.YtnmhjabihfhobaaGreatDoor
namespace Go.Proofs.YtnmhjabihfhobaaGreatDoor
open Go.RowKit
open JP (JV Bs)
end Go.Proofs.YtnmhjabihfhobaaGreatDoor
namespace Go.Proofs.YtnmhjabihfhobaaGreatDoor
open Go.RowKit
open JP (JV Bs)
namespace JP
theorem get_memS {n : Bs} {w : JV} : ∀ {l : Fs}, Srt l → (n, w) ∈ l → get n l = some w
  | [], _, h => by cases h
  | (m, x) :: r, hs, h => by
    rw [get]
    rcases List.mem_cons.1 h with h | h
    · cases h; rw [if_pos rfl]
    · have h9 := (List.pairwise_cons.1 hs).1 (n, w) h
      by_cases e : m = n
      · subst e; exact absurd h9 (List.lt_irrefl m)
      · rw [if_neg e]; exact get_memS (List.pairwise_cons.1 hs).2 h
end JP
end Go.Proofs.YtnmhjabihfhobaaGreatDoor
namespace Go.Proofs.YtnmhjabihfhobaaGreatDoor
open Go.RowKit
open JP (JV Bs)
namespace JP
theorem take_snoc {l : Fs} {i : Nat} {y : Bs × JV} (h : l[i]? = some y) : l.take (i + 1) = l.take i ++ [y] := by
  obtain ⟨h1, h2⟩ := List.getElem?_eq_some_iff.1 h
  rw [List.take_add_one, h]; rfl
theorem name_len {n : Bs} {w : JV} : ∀ {l : Fs} {i : Nat}, l[i]? = some (n, w) → n.length + 1 + (text w).length + 2 ≤ lenF l
  | [], _, h => by simp at h
  | (m, x) :: r, 0, h => by
    simp only [List.getElem?_cons_zero, Option.some.injEq] at h
    cases h
    rw [lenF, quote_len]
    have : n.length ≤ (n.flatMap escB).length := by
      induction n with
      | nil => exact Nat.le_refl _
      | cons c r ih =>
        rw [List.flatMap_cons, List.length_append, List.length_cons]
        have : 1 ≤ (escB c).length := by unfold escB; split; · simp
                                         · split; · simp
                                           · split <;> simp
        omega
    omega
  | (m, x) :: r, i + 1, h => by
    rw [List.getElem?_cons_succ] at h
    have := name_len h
    rw [lenF]; omega
theorem get_at3 {l : Fs} (hs : Srt l) {j : Nat} {y : Bs × JV} (h : l[j]? = some y) : get y.1 l = some y.2 := get_memS hs (List.mem_of_getElem? h)
end JP
end Go.Proofs.YtnmhjabihfhobaaGreatDoor
namespace Go.Proofs.YtnmhjabihfhobaaGreatDoor
open Go.RowKit
set_option maxRecDepth 100000 in
theorem names_any (q : Nat) (vn : Value) (w : World) (h : w.cell? ⟨q, 0, none⟩ = some vn) :
    Calls Tryz.prog 42 #[.pointer (some ⟨q, 0, none⟩)] w fun e w' => e = .returned vn ∧ w = w' := by
  go_enter Tryz.func42, Tryz.ntmps42
  go_wp2_with fail
  go_ret
  exact ⟨rfl, rfl⟩
end Go.Proofs.YtnmhjabihfhobaaGreatDoor
namespace Go.Proofs.YtnmhjabihfhobaaGreatDoor
open Go.RowKit
open JP (JV Bs)
abbrev Leaf := List Bs × JV
def pathP (way : List Bs) : Bs := if 10 < way.length then [] else joinK way
/-- a leaf in memory: its value as it lay in w0 -/
def LeafX (w0 : World) : Rd Leaf := fun w cs p => ∃ sv vv k, cs = [.string (mkB (pathP p.1)), sv, vv] ∧ StrX 68 w sv (p.1.map mkB) ∧ JvAt k [] w0 vv p.2
theorem leafX_staysX (w0 : World) : StaysX 68 (LeafX w0) := fun _ _ _ _ hs ⟨sv, vv, k, h1, h2, h3⟩ => ⟨sv, vv, k, h1, h2.stays hs, h3⟩
theorem strX_cell {e : TypeId} {w : World} {v : Value} {l : List ByteArray} (h : StrX e w v l) : v.oneCell' = true := by
  obtain ⟨a, c, hv, _, _⟩ := h.1.len
  rw [hv]; rfl
theorem leafX_one (w0 : World) : OneR (LeafX w0) := fun w cs x ⟨sv, vv, k, h1, h2, h3⟩ u hu => by
  rw [h1] at hu
  simp only [List.mem_cons, List.not_mem_nil, or_false] at hu
  rcases hu with rfl | rfl | rfl
  · rfl
  · exact strX_cell h2
  · exact one_jv k [] w0 [u] x.2 ⟨u, rfl, h3⟩ u (List.mem_singleton.2 rfl)
theorem Tryz.infoLeaf : (Tryz.prog.info? 68).map (fun i => (i.zero, i.size, i.bytes)) = some (some (.agg #[.string ByteArray.empty, .slice none 0 0, .nilIface]), 3, 56) := by kernel_rfl
def GatAt (w0 : World) (out : List Leaf) (x : JV) (way : List Bs) (w : World) (e : Ending) (w' : World) : Prop :=
  ∃ ov', e = .returned ov' ∧ OwnAt (LeafX w0) 3 w' w0.heap.size 68 ov' (out ++ JP.gat way x) ∧ Below w0.heap.size w0 w' ∧ SameBut 68 w w' ∧ w.heap.size ≤ w'.heap.size
def GatIn (n : Nat) : Prop := ∀ (v wv ov : Value) (x : JV) (way : List Bs) (out : List Leaf) (w0 w : World), JvAt n [] w0 v x → StrX 68 w wv (way.map mkB) → OwnAt (LeafX w0) 3 w w0.heap.size 68 ov out → Below w0.heap.size w0 w →
    out.length + JP.size x ≤ 1048576 → (way.map fun s => s.length + 1).sum + (JP.text x).length ≤ 20000 → (∃ m, MaxOK m w0) → Calls Tryz.prog 65 #[v, wv, ov] w (GatAt w0 out x way w)
theorem below_drewG (B : Nat) (w : World) (k : Nat) : Below B w (w.drewN k) := ⟨rfl, rfl, rfl, Nat.le_refl _, fun _ _ => rfl⟩
theorem joinL_mk (way : List Bs) : joinL (way.map mkB) = joinK way := by
  rw [joinL_map, List.map_map]
  have : ((fun s : ByteArray => s.data.toList) ∘ mkB) = id := funext fun s => mkB_list s
  rw [this, List.map_id]
theorem total_mk (way : List Bs) : total (way.map mkB) = (way.map fun s => s.length + 1).sum := by
  unfold total
  rw [List.map_map]
  refine congrArg List.sum (List.map_congr_left fun s _ => ?_)
  show (mkB s).size + 1 = _
  rw [mkB_size]
theorem way_len2 (way : List Bs) : way.length ≤ (way.map fun s => s.length + 1).sum := by
  induction way with
  | nil => exact Nat.le_refl _
  | cons s r ih => rw [List.map_cons, List.sum_cons, List.length_cons]; omega
theorem way_sum2 (way : List Bs) (n : Bs) : ((way ++ [n]).map fun s => s.length + 1).sum = (way.map fun s => s.length + 1).sum + (n.length + 1) := by
  rw [List.map_append, List.sum_append]; simp
theorem JP.sizeF_long : ∀ l : List (Bs × JV), l.length ≤ JP.sizeF l
  | [] => Nat.zero_le _
  | (n, v) :: r => by
    have := JP.sizeF_long r
    have := JP.size_pos v
    rw [List.length_cons, JP.sizeF]; omega
theorem jv_shape {n : Nat} {T : List Nat} {w : World} {v : Value} {x : JV} (h : JvAt n T w v x) : v = .nilIface ∨ ∃ t u, v = .iface t u := by
  cases n with
  | zero => cases h
  | succ n =>
    cases x with
    | nul => exact .inl h
    | bool b => exact .inr ⟨_, _, h⟩
    | num k => exact .inr ⟨_, _, h.1⟩
    | str s => exact .inr ⟨_, _, h⟩
    | list l => obtain ⟨u, h1, _⟩ := h; exact .inr ⟨_, _, h1⟩
    | obj l => obtain ⟨q, h1, _⟩ := h; exact .inr ⟨_, _, h1⟩
theorem strX_raw {w : World} {v : Value} {L : List ByteArray} (h : StrAt w v L) : RowAt RVal 1 w v (L.map .string) := by
  rcases h.row with ⟨h1, rfl⟩ | ⟨a, c, h1, h2, h3, h4⟩
  · exact .inl ⟨h1, rfl⟩
  · refine .inr ⟨a, c, by rw [List.length_map]; exact h1, by rw [List.length_map]; exact h2, h3, fun j x hx => ?_⟩
    rw [List.getElem?_map] at hx
    obtain ⟨y, hy, rfl⟩ := Option.map_eq_some_iff.1 hx
    obtain ⟨cs, g1, g2, g3⟩ := h4 j y hy
    obtain rfl : cs = [.string y] := g3
    exact ⟨_, g1, g2, rfl, rfl⟩
theorem raw_own {w : World} {B : Nat} {e : TypeId} {v : Value} {L : List ByteArray} (h : OwnAt RVal 1 w B e v (L.map .string)) : OwnAt RString 1 w B e v L := by
  obtain ⟨css, h1, h2, h3, h4⟩ := h
  rw [List.length_map] at h1 h3
  refine ⟨css, h1, h2, h3, fun j cs x hcs hx => ?_⟩
  have := h4 j cs (.string x) hcs (by rw [List.getElem?_map, hx]; rfl)
  exact this.1
def AtJ (n : Nat) (w0 : World) : Rd JV := fun _ cs x => ∃ v, cs = [v] ∧ JvAt n [] w0 v x
set_option maxRecDepth 100000 in
set_option maxHeartbeats 1600000 in
theorem get_at {n : Nat} {w0 : World} {T : List Nat} {q : Nat} {d : List (Bs × JV)} {x : Bs} {w : World} (h : ObR (AtJ n w0) T w q d) (hl : d.length ≤ 1048576) :
    Calls Tryz.prog 49 #[.pointer (some ⟨q, 0, none⟩), .string (mkB x)] w fun e w' => ∃ v, e = .returned (.tuple #[v, .bool (JP.get x d).isSome]) ∧ (∀ y, JP.get x d = some y → JvAt n [] w0 v y) ∧ (JP.get x d = none → v = .nilIface) ∧ ∃ k, w' = w.drewN k := by
  obtain ⟨_, hs, vn, vv, cn, cv, hrn, _, hrv, _⟩ := h
  have HS := Lib.hid (search_any (x := x) hs hrn hl)
  have hpl := JP.pos_le x d
  have HF := Lib.hid (JP.find_spec (n := x) hs)
  obtain ⟨p, hp⟩ : ∃ p, JP.pos x d = p := ⟨_, rfl⟩
  rw [hp] at HS HF hpl
  have Hrv := Lib.hid hrv
  clear hrn hrv hs hp
  rcases HF.out with ⟨y, hy, hg, _⟩ | ⟨_, hg, _⟩
  · have hlt : p < d.length := (List.getElem?_eq_some_iff.1 hy).1
    obtain ⟨b, o, c, rfl, _, _, hbs, hcell⟩ := Hrv.out.form (by rw [List.length_map]; omega) (by omega)
    rw [List.length_map] at cv
    obtain ⟨cs, _, hcc, vx, rfl, hvx⟩ := hcell p y (by rw [List.getElem?_map, hy]; rfl)
    have e0 : w.cell? ⟨b, o + p, none⟩ = some vx := by simpa using hcc 0 _ rfl
    have HX := Lib.hid hvx
    have HG := Lib.hid hg
    rw [hg] at HS
    have q1 : (0 : Int) ≤ (p : Int) := by omega
    have q2 : (p : Int) < (d.length : Int) := by omega
    clear hcell hcc hvx hg hy HF
    go_enter Tryz.func49, Tryz.ntmps49
    go_wp2_with fail
    refine HS.out.mono ?_
    rintro E w1 ⟨rfl, k, rfl⟩
    have e1 : (w.drewN k).cell? ⟨b, o + p, none⟩ = some vx := e0
    have cv1 : (w.drewN k).cell? ⟨q, 1, none⟩ = _ := cv
    go_wp2_with fail
    go_ret2
    have hg := HG.out
    refine ⟨vx, by rw [hg]; rfl, ?_, ?_, k, rfl⟩
    · intro y' h'
      rw [hg] at h'
      cases h'
      exact HX.out
    · intro h'
      rw [hg] at h'
      cases h'
  · have HG := Lib.hid hg
    rw [hg] at HS
    clear hg HF
    go_enter Tryz.func49, Tryz.ntmps49
    go_wp2_with fail
    refine HS.out.mono ?_
    rintro E w1 ⟨rfl, k, rfl⟩
    go_wp2_with fail
    go_ret2
    have hg := HG.out
    refine ⟨.nilIface, by rw [hg]; rfl, ?_, fun _ => rfl, k, rfl⟩
    intro y' h'
    rw [hg] at h'
    cases h'
/-- what a leaf's append makes of the row -/
theorem gat_leaf {w0 : World} {out : List Leaf} {x : JV} {way : List Bs} {w w' : World} {ov' : Value} (h1 : JP.gat way x = [(way, x)]) (hv : OwnAt (LeafX w0) 3 w' w0.heap.size 68 ov' (out ++ [(way, x)])) (hb : Below w0.heap.size w0 w') (hs : SameBut 68 w w') (hz : w.heap.size ≤ w'.heap.size) : GatAt w0 out x way w (.returned ov') w' :=
  ⟨ov', rfl, by rw [h1]; exact hv, hb, hs, hz⟩
set_option maxRecDepth 100000 in
set_option maxHeartbeats 12800000 in
theorem gather_step (n : Nat) (ih : GatIn n) : GatIn (n + 1) := by
  intro v wv ov x way out w0 w hv hw ho hb hl ht hm
  obtain ⟨mx, hm⟩ := hm
  obtain ⟨i0, hi0, hz0, hz1, hz2⟩ := info_parts Tryz.infoLeaf
  obtain ⟨j0, hj0, hy0, hy1, hy2⟩ := info_parts Tryz.infoStr
  have hway := way_len2 way
  have htot := total_mk way
  have hgl := JP.gat_len way x
  have hxs := JP.size_pos x
  obtain ⟨wa, wc, hwe, _, _⟩ := hw.1.len
  obtain ⟨wn, hwn⟩ : ∃ m, (way.map mkB).length = m := ⟨_, rfl⟩
  rw [hwn] at hwe
  subst hwe
  have hwl : way.length = wn := by rw [← hwn, List.length_map]
  have hJ0 := ptrJoin_any (.slice wa wn wc) (way.map mkB) mx w hw.1 (by rw [htot]; omega) (hm.below hb)
  have hJr : (if 10 < (way.map mkB).length then Value.tuple #[.string ⟨#[]⟩, .int .i64 2] else .tuple #[.string ⟨(joinL (way.map mkB)).toArray⟩, .int .i64 0]) = .tuple #[.string (mkB (pathP way)), .int .i64 (if 10 < way.length then 2 else 0)] := by
    rw [joinL_mk, List.length_map]
    unfold pathP
    split <;> rfl
  rw [hJr] at hJ0
  obtain ⟨JE, hJE⟩ : ∃ e : Int, (if 10 < way.length then 2 else 0) = e := ⟨_, rfl⟩
  rw [hJE] at hJ0
  have HJ := Lib.hid hJ0
  have HO := Lib.hid ho
  have HW := Lib.hid hw
  have HB := Lib.hid hb
  have Hm := Lib.hid hm
  have hs := hb.size
  clear hJ0 hJr hJE ho hm htot
  by_cases hobj : ∃ l, x = .obj l
  · obtain ⟨l, rfl⟩ := hobj
    obtain ⟨q, rfl, hob⟩ := hv
    have GB := (as_obj (.pointer (some ⟨q, 0, none⟩))).2.2.2.2
    have hqm : q ∉ ([] : List Nat) := hob.1
    have hob0 := hob
    obtain ⟨_, hsrt, vn, vv, cn, cv, hrn, _, hrv, _⟩ := hob0
    obtain ⟨an, cn2, hne, _, _⟩ := hrn.len
    obtain ⟨ln, hln⟩ : ∃ m, l.length = m := ⟨_, rfl⟩
    rw [List.length_map, hln] at hne
    subst hne
    have hq0 : q < w0.heap.size := World.block_lt_of_cell? w0 _ cn
    have cnw := (hb.cell (p := ⟨q, 0, none⟩) hq0).trans cn
    have HOb := Lib.hid hob
    have HRn := Lib.hid hrn
    have HV : Hid (JvAt (n + 1) [] w0 (.iface 74 (.pointer (some ⟨q, 0, none⟩))) (.obj l)) := Lib.hid ⟨q, rfl, hob⟩
    have HCn := Lib.hid cn
    by_cases h0 : ln = 0
    · subst h0
      obtain rfl : l = [] := List.eq_nil_of_length_eq_zero hln
      by_cases hw0 : wn = 0
      · have hwy : way = [] := List.eq_nil_of_length_eq_zero (by omega)
        have HGo : Hid (GatAt w0 out (.obj []) way w (.returned ov) w) := Lib.hid ⟨ov, rfl, by rw [hwy, JP.gat]; simpa using HO.out, HB.out, fun _ _ _ _ h _ => h, Nat.le_refl _⟩
        have HNm := Lib.hid (names_any q _ w cnw)
        subst hw0
        clear hwy hwl hwn hln hob hrn hrv cn cv hsrt hqm ih hw hb cnw hgl HJ
        go_enter Tryz.func65, Tryz.ntmps65
        go_wp2_with fail
        refine HNm.out.mono ?_
        rintro E wz ⟨rfl, rfl⟩
        go_wp2_with fail
        go_ret
        exact HGo.out
      · have hwy : way ≠ [] := fun e => hw0 (by rw [← hwl, e]; rfl)
        have Hgat : Hid (JP.gat way (.obj []) = [(way, .obj [])]) := Lib.hid (by rw [JP.gat]; simp [hwy])
        have HNm := Lib.hid (names_any q _ w cnw)
        have qn : ((wn : Int) == 0) = false := by rw [beq_eq_false_iff_ne]; omega
        obtain ⟨x0, hx0⟩ : ∃ y, y = JV.obj [] := ⟨_, rfl⟩
        rw [← hx0] at HV Hgat hl ht ⊢
        clear hwy hwl hwn hln hob hrn hrv cn cv hsrt hqm ih hw hb cnw hgl hx0 hw0
        go_enter Tryz.func65, Tryz.ntmps65
        go_wp2_with fail
        refine HNm.out.mono ?_
        rintro E wz ⟨rfl, rfl⟩
        clear HNm
        go_wp2_with fail
        refine HJ.out.mono ?_
        rintro E w1 ⟨rfl, hb1⟩
        have HO1 := Lib.hid (HO.out.belowX (leafX_staysX _) hb1)
        have HB1 := Lib.hid (HB.out.trans (hb1.mono HB.out.size))
        have HW1 := Lib.hid (HW.out.stays (sameBut_below hb1))
        have HS1 := Lib.hid (sameBut_below (e := 68) hb1)
        have hs1 := hb1.size
        have hs0 := HB1.out.size
        clear hb1 HJ HO HB HW
        obtain ⟨w2, hw2⟩ : ∃ w2, w2 = w1.alloc (.cells #[.string (mkB (pathP way)), .slice wa wn wc, .iface 74 (.pointer (some ⟨q, 0, none⟩))] 68) := ⟨_, rfl⟩
        have hb2 : Below w1.heap.size w1 w2 := by rw [hw2]; exact (Below.refl _ w1).alloc (Nat.le_refl _) _
        have hx2 : LeafX w0 w2 [.string (mkB (pathP way)), .slice wa wn wc, .iface 74 (.pointer (some ⟨q, 0, none⟩))] (way, x0) := ⟨_, _, _, rfl, HW1.out.stays (sameBut_below hb2), HV.out⟩
        have hr2 : RowAt (LeafX w0) 3 w2 (.slice (some ⟨w1.heap.size, 0, none⟩) 1 1) [(way, x0)] := by rw [hw2]; exact RowAt.one (R := LeafX w0) (k := 3) (cs := #[.string (mkB (pathP way)), .slice wa wn wc, .iface 74 (.pointer (some ⟨q, 0, none⟩))]) (heap_alloc_new w1 _) rfl (by rw [← hw2]; exact hx2)
        have HR2 := Lib.hid hr2
        have HO2 := Lib.hid (HO1.out.belowX (leafX_staysX _) hb2)
        have HB2 := Lib.hid (HB1.out.trans (hb2.mono HB1.out.size))
        have HS2 := Lib.hid (HS1.out.trans (sameBut_below (e := 68) hb2))
        have hs2 := hb2.size
        have hs02 : w0.heap.size ≤ w2.heap.size := by omega
        clear hb2 hx2 hr2 HO1 HB1 HW1 HS1
        go_wp2_with (at_builtin; rw [← hw2]; refine wpList_append_ownAtX (R := LeafX w0) (k := 3) (e := 68) (B := w0.heap.size) (l := out) (m := [(way, x0)]) _ (by rfl) _ _ _ (by rfl) i0 _ 56 Tryz.underlying65 hi0 hz0 hz1 hz2 rfl (by omega) (leafX_staysX _) (leafX_one _) _ (by rfl) HO2.out _ (by rfl) HR2.out (by unfold maxLen; simp; omega) (by simp; omega) hs02 ?_)
        intro v' w3 hv' hgr hr _
        rw [← hw2] at hgr
        have hb3 := below_of_grown HB2.out hs02 hgr hr
        have hs3 := HS2.out.trans (HO2.out.sameBut hgr)
        have HGo := Lib.hid (gat_leaf (w := w) (Hgat.out) hv' hb3 hs3 (by have := hgr.size; omega))
        clear hv' hgr hr hb3 hs3 hw2 HR2 HO2 HB2 HS2
        go_wp2_with fail
        go_ret
        exact HGo.out
    · have hpos : (0 : Int) < (ln : Int) := by omega
      have Hgat : Hid (JP.gat way (.obj l) = JP.gatF way l) := Lib.hid (by
        rw [JP.gat, if_neg]
        intro e
        have : l = [] := by simpa using e
        rw [this] at hln
        exact h0 hln.symm)
      have HNm := Lib.hid (names_any q _ w cnw)
      have Hln := Lib.hid hln
      have hln9 : ln ≤ 1048576 := by
        have h8 : JP.size (.obj l) = 1 + JP.sizeF l := by rw [JP.size]
        have h9 := JP.sizeF_long l
        omega
      have Hsz : Hid (out.length + 1 + JP.sizeF l ≤ 1048576) := Lib.hid (by have h8 : JP.size (.obj l) = 1 + JP.sizeF l := by rw [JP.size]
                                                                            show _ ≤ _; omega)
      have Hty : Hid ((way.map fun s => s.length + 1).sum + (JP.text (.obj l)).length ≤ 20000) := Lib.hid ht
      have HIh := Lib.hid ih
      have Hwn := Lib.hid hwn
      have Hsrt := Lib.hid hsrt
      have Hw0 : Hid (way.length ≤ 20000) := Lib.hid (by have := ht; omega)
      clear h0 hwl hwn hln hob hrn hrv cn cv hsrt hqm ih hw hb hgl HJ hl ht hxs
      go_enter Tryz.func65, Tryz.ntmps65
      go_wp2_with fail
      refine HNm.out.mono ?_
      rintro E wz ⟨rfl, rfl⟩
      go_wp2_with fail
      refine HNm.out.mono ?_
      rintro E wz ⟨rfl, rfl⟩
      clear HNm
      go_wp2_with fail
      go_loopg [2, 30] ln (fun k u2 u30 wr => ∃ i : Nat, i + k = ln ∧ u30 = .int .i64 (i : Int) ∧ Hid (OwnAt (LeafX w0) 3 wr w0.heap.size 68 u2 (out ++ JP.gatF way (l.take i))) ∧ Hid (Below w0.heap.size w0 wr) ∧ Hid (SameBut 68 w wr) ∧ Hid (w.heap.size ≤ wr.heap.size))
      case atStart => exact ⟨0, by omega, rfl, Lib.hid (by rw [List.take_zero, JP.gatF, List.append_nil]; exact HO.out), HB, Lib.hid (fun _ _ _ _ h _ => h), Lib.hid (Nat.le_refl _)⟩
      case round =>
        obtain ⟨i, hik, rfl, HO, HB, HS, HZ⟩ := hrel
        cases gk with
        | zero =>
          have hil : i = ln := by omega
          subst hil
          have q9 : ¬ (i : Int) < (i : Int) := by omega
          have htk : l.take i = l := List.take_of_length_le (by rw [Hln.out]; exact Nat.le_refl _)
          rw [htk] at HO
          have HGo := Lib.hid (show GatAt w0 out (.obj l) way w (.returned _) _ from ⟨_, rfl, by rw [Hgat.out]; exact HO.out, HB.out, HS.out, HZ.out⟩)
          clear htk HO HB HS HZ
          go_wp2_with fail
          go_ret
          exact HGo.out
        | succ k =>
          have hil : i < ln := by omega
          obtain ⟨y, hy⟩ : ∃ y, l[i]? = some y := ⟨l[i]'(by rw [Hln.out]; exact hil), List.getElem?_eq_getElem _⟩
          obtain ⟨b1, o1, c', hv1, _, _, hbs1, hcell1⟩ := HRn.out.form (by rw [List.length_map, Hln.out]; omega) (by omega)
          injection hv1 with u1 u2 u3
          subst u1
          clear u2 u3
          obtain ⟨ds1, _, hcc1, hR1⟩ := hcell1 i (mkB y.1) (by rw [List.getElem?_map, hy]; rfl)
          obtain rfl : ds1 = [.string (mkB y.1)] := hR1
          have e9 : w0.cell? ⟨b1, o1 + i, none⟩ = some (.string (mkB y.1)) := by simpa using hcc1 0 _ rfl
          have e0 := (HB.out.cell (p := ⟨b1, o1 + i, none⟩) (World.block_lt_of_cell? w0 _ e9)).trans e9
          have q1 : (0 : Int) ≤ (i : Int) := by omega
          have q2 : (i : Int) < (ln : Int) := by omega
          have Hy := Lib.hid hy
          have HG := Lib.hid (get_at (x := y.1) (HOb.out.keepT (R' := AtJ n w0) (KeepT.of HB.out) (fun _ _ h => h)) (by rw [Hln.out]; exact hln9))
          have hget := JP.get_at3 Hsrt.out hy
          rw [hget] at HG
          have Hst := Lib.hid (JP.gatF_step way hy)
          have Hs1 := Lib.hid (JP.sizeF_here hy)
          have Hs2 := Lib.hid (JP.gatF_len way (l.take i))
          have Hs3 : Hid (y.1.length + 1 + (JP.text y.2).length + 2 ≤ JP.lenF l) := Lib.hid (JP.name_len (show l[i]? = some (y.1, y.2) from hy))
          have Hs4 := Lib.hid (lenF_text l)
          clear hcell1 hcc1 hy e9 hget hbs1
          go_wp2_with fail
          refine HG.out.mono ?_
          rintro E w1 ⟨vg, rfl, hvg, _, kd, rfl⟩
          have Hvg := Lib.hid (hvg y.2 rfl)
          have hbd := below_drewG (wr.heap.size) wr kd
          obtain ⟨w3, hw3⟩ : ∃ u, wr.drewN kd = u := ⟨_, rfl⟩
          rw [hw3] at hbd ⊢
          have HO3 := Lib.hid (HO.out.belowX (leafX_staysX _) hbd)
          have HB3 := Lib.hid (HB.out.trans (hbd.mono HB.out.size))
          have HS3 := Lib.hid (HS.out.trans (sameBut_below (e := 68) hbd))
          have HZ3 : Hid (w.heap.size ≤ w3.heap.size) := Lib.hid (Nat.le_trans HZ.out hbd.size)
          have HW3 := Lib.hid (HW.out.stays HS3.out)
          clear hvg hbd hw3 HG e0 HO HB HS HZ
          have HCl := Lib.hid (cloneStr_any (.slice wa wn wc) _ w3 (strX_raw HW3.out.1) (by rw [List.length_map, List.length_map]; have := Hw0.out; omega))
          go_wp2_with fail
          refine HCl.out.mono ?_
          rintro E wk ⟨vc, rfl, hown, hbc⟩
          have HOwn := Lib.hid hown
          have Hbc := Lib.hid hbc
          clear hown hbc HCl
          have hb7 : Below wk.heap.size wk (wk.alloc (.cells #[.string (mkB y.1)] 9)) := (Below.refl _ wk).alloc (Nat.le_refl _) _
          have HOwn7 := Lib.hid (HOwn.out.below stays_val hb7)
          have Hb7 := Lib.hid (Hbc.out.trans (hb7.mono Hbc.out.size))
          have Hs7 : Hid (w3.heap.size ≤ (wk.alloc (.cells #[.string (mkB y.1)] 9)).heap.size) := Lib.hid Hb7.out.size
          have hr1 : RowAt RVal 1 (wk.alloc (.cells #[.string (mkB y.1)] 9)) (.slice (some ⟨wk.heap.size, 0, none⟩) 1 1) [Value.string (mkB y.1)] := RowAt.one (R := RVal) (x := Value.string (mkB y.1)) (heap_alloc_new wk _) rfl ⟨rfl, rfl⟩
          have bd1 : ((way.map mkB).map Value.string).length + [Value.string (mkB y.1)].length ≤ maxLen := by unfold maxLen; rw [List.length_map, List.length_map]; simp only [List.length_cons, List.length_nil]; have := Hw0.out; omega
          have bd2 : (((way.map mkB).map Value.string).length + [Value.string (mkB y.1)].length) * 16 ≤ 140737488355328 := by rw [List.length_map, List.length_map]; simp only [List.length_cons, List.length_nil]; have := Hw0.out; omega
          clear hb7
          go_wp2_with (at_builtin; refine wpList_append_ownAt (R := RVal) (k := 1) (e := 9) (B := w3.heap.size) (l := (way.map mkB).map .string) (m := [.string (mkB y.1)]) _ (by rfl) _ _ _ (by rfl) j0 _ 16 Tryz.underlying25 hj0 hy0 hy1 hy2 rfl (by omega) flat_val one_val _ (by rfl) HOwn7.out _ (by rfl) hr1 bd1 bd2 Hs7.out ?_)
          intro v8 w8 hv8 hg8 hr8 _
          have hb8 : Below w3.heap.size w3 w8 := Hb7.out.trans (below_of_grown (Below.refl _ _) Hs7.out hg8 hr8)
          have hst8 : StrX 68 w8 v8 ((way ++ [y.1]).map mkB) := by
            refine (raw_own (L := (way ++ [y.1]).map mkB) (by rw [List.map_append, List.map_append, List.map_map]; exact hv8)).strX (by decide)
          have HO8 := Lib.hid (HO3.out.belowX (leafX_staysX _) hb8)
          have HB8 := Lib.hid (HB3.out.trans (hb8.mono HB3.out.size))
          have HS8 := Lib.hid (HS3.out.trans (sameBut_below (e := 68) hb8))
          have HZ8 : Hid (w.heap.size ≤ w8.heap.size) := Lib.hid (Nat.le_trans HZ3.out hb8.size)
          have HI := Lib.hid (HIh.out vg v8 _ y.2 (way ++ [y.1]) (out ++ JP.gatF way (l.take i)) w0 w8 Hvg.out hst8 HO8.out HB8.out (by rw [List.length_append]; have := Hs1.out; have := Hs2.out; have := Hsz.out; omega) (by rw [way_sum2]; have := Hs3.out; have := Hs4.out; have := Hty.out; omega) ⟨mx, Hm.out⟩)
          clear hv8 hg8 hr8 hb8 hst8 HOwn7 HOwn Hb7 Hs7 hr1 bd1 bd2 Hbc HO3 HB3 HS3 HZ3 HW3 HO8 HB8
          go_wp2_with fail
          refine HI.out.mono ?_
          rintro E w9 ⟨v9, rfl, ho9, hb9, hs9, hz9⟩
          have HO9 : Hid (OwnAt (LeafX w0) 3 w9 w0.heap.size 68 v9 (out ++ JP.gatF way (l.take (i + 1)))) := Lib.hid (by rw [Hst.out, ← List.append_assoc]; exact ho9)
          have HB9 := Lib.hid hb9
          have HS9 := Lib.hid (HS8.out.trans hs9)
          have HZ9 : Hid (w.heap.size ≤ w9.heap.size) := Lib.hid (Nat.le_trans HZ8.out hz9)
          clear ho9 hb9 hs9 hz9 HI HS8 HZ8
          go_wp2_with fail
          go_roundg k
          case measure => omega
          case rel => exact ⟨i + 1, by omega, by go_num, HO9, HB9, HS9, HZ9⟩
  · have hno : ∀ l, x ≠ .obj l := fun l e => hobj ⟨l, e⟩
    have GA := as_other hv hno
    have hgat := JP.gat_other hno way
    obtain ⟨x0, hx0⟩ : ∃ y, x = y := ⟨_, rfl⟩
    have HV := Lib.hid hv
    rw [hx0] at HV hgat ⊢
    have Hgat := Lib.hid hgat
    have hform := jv_shape hv
    clear hobj hno hv hw hb hgat ih hgl hx0 hwn hwl
    rcases hform with rfl | ⟨vt, vu, rfl⟩
    · go_enter Tryz.func65, Tryz.ntmps65
      go_wp2_with fail
      refine HJ.out.mono ?_
      rintro E w1 ⟨rfl, hb1⟩
      have HO1 := Lib.hid (HO.out.belowX (leafX_staysX _) hb1)
      have HB1 := Lib.hid (HB.out.trans (hb1.mono HB.out.size))
      have HW1 := Lib.hid (HW.out.stays (sameBut_below hb1))
      have HS1 := Lib.hid (sameBut_below (e := 68) hb1)
      have hs1 := hb1.size
      have hs0 := HB1.out.size
      clear hb1 HJ HO HB HW
      obtain ⟨w2, hw2⟩ : ∃ w2, w2 = w1.alloc (.cells #[.string (mkB (pathP way)), .slice wa wn wc, .nilIface] 68) := ⟨_, rfl⟩
      have hb2 : Below w1.heap.size w1 w2 := by rw [hw2]; exact (Below.refl _ w1).alloc (Nat.le_refl _) _
      have hx2 : LeafX w0 w2 [.string (mkB (pathP way)), .slice wa wn wc, .nilIface] (way, x0) := ⟨_, _, _, rfl, HW1.out.stays (sameBut_below hb2), HV.out⟩
      have hr2 : RowAt (LeafX w0) 3 w2 (.slice (some ⟨w1.heap.size, 0, none⟩) 1 1) [(way, x0)] := by rw [hw2]; exact RowAt.one (R := LeafX w0) (k := 3) (cs := #[.string (mkB (pathP way)), .slice wa wn wc, .nilIface]) (heap_alloc_new w1 _) rfl (by rw [← hw2]; exact hx2)
      have HR2 := Lib.hid hr2
      have HO2 := Lib.hid (HO1.out.belowX (leafX_staysX _) hb2)
      have HB2 := Lib.hid (HB1.out.trans (hb2.mono HB1.out.size))
      have HS2 := Lib.hid (HS1.out.trans (sameBut_below (e := 68) hb2))
      have hs2 := hb2.size
      have hs02 : w0.heap.size ≤ w2.heap.size := by omega
      clear hb2 hx2 hr2 HO1 HB1 HW1 HS1
      go_wp2_with (at_builtin; rw [← hw2]; refine wpList_append_ownAtX (R := LeafX w0) (k := 3) (e := 68) (B := w0.heap.size) (l := out) (m := [(way, x0)]) _ (by rfl) _ _ _ (by rfl) i0 _ 56 Tryz.underlying65 hi0 hz0 hz1 hz2 rfl (by omega) (leafX_staysX _) (leafX_one _) _ (by rfl) HO2.out _ (by rfl) HR2.out (by unfold maxLen; simp; omega) (by simp; omega) hs02 ?_)
      intro v' w3 hv' hgr hr _
      rw [← hw2] at hgr
      have hb3 := below_of_grown HB2.out hs02 hgr hr
      have hs3 := HS2.out.trans (HO2.out.sameBut hgr)
      have HGo := Lib.hid (gat_leaf (w := w) (Hgat.out) hv' hb3 hs3 (by have := hgr.size; omega))
      clear hv' hgr hr hb3 hs3 hw2 HR2 HO2 HB2 HS2
      go_wp2_with fail
      go_ret
      exact HGo.out
    · go_enter Tryz.func65, Tryz.ntmps65
      go_wp2_with fail
      refine HJ.out.mono ?_
      rintro E w1 ⟨rfl, hb1⟩
      have HO1 := Lib.hid (HO.out.belowX (leafX_staysX _) hb1)
      have HB1 := Lib.hid (HB.out.trans (hb1.mono HB.out.size))
      have HW1 := Lib.hid (HW.out.stays (sameBut_below hb1))
      have HS1 := Lib.hid (sameBut_below (e := 68) hb1)
      have hs1 := hb1.size
      have hs0 := HB1.out.size
      clear hb1 HJ HO HB HW
      obtain ⟨w2, hw2⟩ : ∃ w2, w2 = w1.alloc (.cells #[.string (mkB (pathP way)), .slice wa wn wc, .iface vt vu] 68) := ⟨_, rfl⟩
      have hb2 : Below w1.heap.size w1 w2 := by rw [hw2]; exact (Below.refl _ w1).alloc (Nat.le_refl _) _
      have hx2 : LeafX w0 w2 [.string (mkB (pathP way)), .slice wa wn wc, .iface vt vu] (way, x0) := ⟨_, _, _, rfl, HW1.out.stays (sameBut_below hb2), HV.out⟩
      have hr2 : RowAt (LeafX w0) 3 w2 (.slice (some ⟨w1.heap.size, 0, none⟩) 1 1) [(way, x0)] := by rw [hw2]; exact RowAt.one (R := LeafX w0) (k := 3) (cs := #[.string (mkB (pathP way)), .slice wa wn wc, .iface vt vu]) (heap_alloc_new w1 _) rfl (by rw [← hw2]; exact hx2)
      have HR2 := Lib.hid hr2
      have HO2 := Lib.hid (HO1.out.belowX (leafX_staysX _) hb2)
      have HB2 := Lib.hid (HB1.out.trans (hb2.mono HB1.out.size))
      have HS2 := Lib.hid (HS1.out.trans (sameBut_below (e := 68) hb2))
      have hs2 := hb2.size
      have hs02 : w0.heap.size ≤ w2.heap.size := by omega
      clear hb2 hx2 hr2 HO1 HB1 HW1 HS1
      go_wp2_with (at_builtin; rw [← hw2]; refine wpList_append_ownAtX (R := LeafX w0) (k := 3) (e := 68) (B := w0.heap.size) (l := out) (m := [(way, x0)]) _ (by rfl) _ _ _ (by rfl) i0 _ 56 Tryz.underlying65 hi0 hz0 hz1 hz2 rfl (by omega) (leafX_staysX _) (leafX_one _) _ (by rfl) HO2.out _ (by rfl) HR2.out (by unfold maxLen; simp; omega) (by simp; omega) hs02 ?_)
      intro v' w3 hv' hgr hr _
      rw [← hw2] at hgr
      have hb3 := below_of_grown HB2.out hs02 hgr hr
      have hs3 := HS2.out.trans (HO2.out.sameBut hgr)
      have HGo := Lib.hid (gat_leaf (w := w) (Hgat.out) hv' hb3 hs3 (by have := hgr.size; omega))
      clear hv' hgr hr hb3 hs3 hw2 HR2 HO2 HB2 HS2
      go_wp2_with fail
      go_ret
      exact HGo.out
end Go.Proofs.YtnmhjabihfhobaaGreatDoor
namespace Go.Proofs.YtnmhjabihfhobaaGreatDoor
open Go.RowKit
open JP (JV Bs)
/-- the part of a field -/
def fieldL : List GField → ByteArray → Option Int
  | [], _ => none
  | f :: r, n => if f.name = n then some f.part else fieldL r n
theorem fieldL_none : ∀ {l : List GField} {n : ByteArray}, (∀ f ∈ l, f.name ≠ n) → fieldL l n = none
  | [], _, _ => rfl
  | f :: r, n, h => by rw [fieldL, if_neg (h f (List.mem_cons_self ..))]; exact fieldL_none fun g hg => h g (List.mem_cons_of_mem _ hg)
theorem fieldL_at : ∀ {l : List GField} {n : ByteArray} {i : Nat} {y : GField}, l[i]? = some y → (∀ f ∈ l.take i, f.name ≠ n) → y.name = n → fieldL l n = some y.part
  | [], _, _, _, h, _, _ => by simp at h
  | f :: r, n, 0, y, h, _, hn => by
    simp only [List.getElem?_cons_zero, Option.some.injEq] at h
    subst h
    rw [fieldL, if_pos hn]
  | f :: r, n, i + 1, y, h, ha, hn => by
    rw [List.getElem?_cons_succ] at h
    rw [fieldL, if_neg (ha f (by simp))]
    exact fieldL_at h (fun g hg => ha g (by rw [List.take_succ_cons]; exact List.mem_cons_of_mem _ hg)) hn
set_option maxRecDepth 100000 in
set_option maxHeartbeats 3200000 in
theorem schField_any (k : Int) (fa : Option Addr) (fn fc : Nat) (na : Option Addr) (nn nc : Nat) (ex : Bool) (it le mo : Int) (ea : Option Addr) (en ec : Nat) (df : ByteArray) (F : List GField) (name : ByteArray) (w : World) (h : RowAt FieldR 2 w (.slice fa fn fc) F) (hl : F.length ≤ 1048576) :
    Calls Tryz.prog 43 #[.agg #[.int .i64 k, .slice fa fn fc, .slice na nn nc, .bool ex, .int .i64 it, .int .i64 le, .int .i64 mo, .slice ea en ec, .string df], .string name] w fun e w' => e = .returned (.tuple #[.int .i64 ((fieldL F name).getD 0), .bool (fieldL F name).isSome]) ∧ Below w.heap.size w w' := by
  obtain ⟨a1, c1, e1, _, _⟩ := h.len
  injection e1 with u1 u2 u3
  obtain ⟨ln, hln⟩ : ∃ n, F.length = n := ⟨_, rfl⟩
  rw [hln] at u2
  subst u2
  have HRow := Lib.hid h
  have Hln := Lib.hid hln
  obtain ⟨O, hO⟩ : ∃ O, fieldL F name = O := ⟨_, rfl⟩
  have HF := Lib.hid hO
  rw [hO]
  rw [hln] at hl
  clear u1 u3 h hln hO
  go_enter Tryz.func43, Tryz.ntmps43
  go_wp2_with fail
  go_loopg [11] fn (fun k9 u11 wr => ∃ i : Nat, i + k9 = fn ∧ u11 = .int .i64 (i : Int) ∧ Hid (∀ f ∈ F.take i, f.name ≠ name) ∧ Hid (Below w.heap.size w wr))
  case atStart => exact ⟨0, by omega, rfl, Lib.hid (by simp), Lib.hid ((Below.refl _ w).alloc (Nat.le_refl _) _)⟩
  case round =>
    obtain ⟨i, hik, rfl, HN, HR⟩ := hrel
    cases gk with
    | zero =>
      have hil : i = fn := by omega
      subst hil
      have q9 : ¬ (i : Int) < (i : Int) := by omega
      have hn : fieldL F name = none := fieldL_none (by have := HN.out; rwa [List.take_of_length_le (by rw [Hln.out]; exact Nat.le_refl _)] at this)
      have hO : O = none := by rw [← HF.out, hn]
      subst hO
      clear hn HN
      go_wp2_with fail
      go_ret2
      exact ⟨rfl, HR.out⟩
    | succ k9 =>
      have hil : i < fn := by omega
      obtain ⟨y, hy⟩ : ∃ y, F[i]? = some y := ⟨F[i]'(by rw [Hln.out]; exact hil), List.getElem?_eq_getElem _⟩
      obtain ⟨b1, o1, c', hv1, _, _, hbs1, hcell1⟩ := HRow.out.form (by rw [Hln.out]; omega) (by omega)
      injection hv1 with u1 u2 u3
      subst u1
      clear u2 u3
      obtain ⟨ds1, _, hcc1, hds, hwf⟩ := hcell1 i y hy
      subst hds
      have e0 : wr.cell? ⟨b1, o1 + i * 2, none⟩ = some (.string y.name) := (HR.out.cell (p := ⟨b1, _, none⟩) hbs1).trans (by simpa using hcc1 0 _ rfl)
      have e1 : wr.cell? ⟨b1, o1 + i * 2 + 1, none⟩ = some (.int .i64 y.part) := (HR.out.cell (p := ⟨b1, _, none⟩) hbs1).trans (hcc1 1 _ rfl)
      have q1 : (0 : Int) ≤ (i : Int) := by omega
      have q2 : (i : Int) < (fn : Int) := by omega
      have Hy := Lib.hid hy
      have HRa : Hid (∀ o, Below w.heap.size w (wr.alloc o)) := Lib.hid (fun o => HR.out.alloc HR.out.size o)
      clear hcell1 hcc1 hy hbs1 hwf
      by_cases hn : y.name = name
      · have q3 : (y.name.toList == name.toList) = true := by rw [hn]; simp
        have hO : O = some y.part := by rw [← HF.out]; exact fieldL_at Hy.out HN.out hn
        subst hO
        clear hn
        go_wp2_with fail
        go_ret2
        exact ⟨rfl, HRa.out _⟩
      · have q3 : (y.name.toList == name.toList) = false := by rw [beq_eq_false_iff_ne]; exact fun h => hn (toList_inj h)
        have HN1 : Hid (∀ f ∈ F.take (i + 1), f.name ≠ name) := Lib.hid (by
          intro f hf
          rw [List.take_add_one, Hy.out] at hf
          rcases List.mem_append.1 hf with hf | hf
          · exact HN.out f hf
          · obtain rfl : f = y := by simpa using hf
            exact hn)
        clear hn
        go_wp2_with fail
        go_roundg k9
        case measure => omega
        case rel => exact ⟨i + 1, by omega, by go_num, HN1, Lib.hid (HRa.out _)⟩
set_option maxRecDepth 100000 in
set_option maxHeartbeats 3200000 in
theorem step_any (wv : Value) (way : List ByteArray) (n : ByteArray) (w : World) (h : StrAt w wv way) (hl : way.length ≤ 100000) :
    Calls Tryz.prog 80 #[wv, .string n] w fun e w' => ∃ v', e = .returned v' ∧ OwnAt RString 1 w' w.heap.size 9 v' (way ++ [n]) ∧ Below w.heap.size w w' := by
  obtain ⟨j0, hj0, hy0, hy1, hy2⟩ := info_parts Tryz.infoStr
  have HCl := Lib.hid (cloneStr_any wv _ w (strX_raw h) (by rw [List.length_map]; omega))
  have Hl := Lib.hid hl
  clear h hl
  go_enter Tryz.func80, Tryz.ntmps80
  go_wp2_with fail
  refine HCl.out.mono ?_
  rintro E wk ⟨vc, rfl, hown, hbc⟩
  have hb7 : Below wk.heap.size wk (wk.alloc (.cells #[.string n] 9)) := (Below.refl _ wk).alloc (Nat.le_refl _) _
  have HOwn7 := Lib.hid (hown.below stays_val hb7)
  have Hb7 := Lib.hid (hbc.trans (hb7.mono hbc.size))
  have Hs7 : Hid (w.heap.size ≤ (wk.alloc (.cells #[.string n] 9)).heap.size) := Lib.hid Hb7.out.size
  have Hr1 : Hid (RowAt RVal 1 (wk.alloc (.cells #[.string n] 9)) (.slice (some ⟨wk.heap.size, 0, none⟩) 1 1) [Value.string n]) := Lib.hid (RowAt.one (R := RVal) (x := Value.string n) (heap_alloc_new wk _) rfl ⟨rfl, rfl⟩)
  clear hown hbc hb7 HCl
  go_wp2_with (at_builtin; refine wpList_append_ownAt (R := RVal) (k := 1) (e := 9) (B := w.heap.size) (l := way.map .string) (m := [.string n]) _ (by rfl) _ _ _ (by rfl) j0 _ 16 Tryz.underlying25 hj0 hy0 hy1 hy2 rfl (by omega) flat_val one_val _ (by rfl) HOwn7.out _ (by rfl) Hr1.out (by rw [List.length_map]; simp only [List.length_cons, List.length_nil]; exact Nat.le_trans (m := 100001) (by have := Hl.out; omega) (by decide)) (by rw [List.length_map]; simp only [List.length_cons, List.length_nil]; have := Hl.out; omega) Hs7.out ?_)
  intro v8 w8 hv8 hg8 hr8 _
  have HB : Hid (Below w.heap.size w w8) := Lib.hid (Hb7.out.trans (below_of_grown (Below.refl _ _) Hs7.out hg8 hr8))
  have HO : Hid (OwnAt RString 1 w8 w.heap.size 9 v8 (way ++ [n])) := Lib.hid (raw_own (L := way ++ [n]) (by rw [List.map_append]; exact hv8))
  clear hv8 hg8 hr8 HOwn7 Hb7 Hs7 Hr1
  go_wp2_with fail
  go_ret
  exact ⟨_, rfl, HO.out, HB.out⟩
end Go.Proofs.YtnmhjabihfhobaaGreatDoor
namespace Go.Proofs.YtnmhjabihfhobaaGreatDoor
open Go.RowKit
open JP (JV Bs)
def noPart : GPart := ⟨0, [], [], false, 0, 0, 0, [], ByteArray.empty⟩
def partAt (s : List GPart) (i : Int) : GPart := (s[i.toNat]?).getD noPart
def spanL (p : GPart) (n : Int) (way : List Bs) : List (List Bs × Int) := (if n < p.least then [(way, 1)] else []) ++ (if p.most < n then [(way, 2)] else [])
def enumHas (p : GPart) (v : JV) : Bool := p.enum.any fun d => decide (JP.text v = JP.text (JP.readL d.data.toList).1)
def bodyL (s : List GPart) (rec : GPart → List Bs → JV → List (List Bs × Int)) (p : GPart) (way : List Bs) : JV → List (List Bs × Int)
  | .nul => []
  | .bool _ => []
  | .num k => spanL p k way
  | .str b => spanL p b.length way
  | .list l => spanL p l.length way ++ (List.range l.length).flatMap (fun (i : Nat) => rec (partAt s p.items) (way ++ [Lib.itoa (i : Int)]) ((l[i]?).getD .nul))
  | .obj l => p.need.flatMap (fun m => if (JP.get m.data.toList l).isSome = true then [] else [((way ++ [m.data.toList], 7) : List Bs × Int)]) ++
        (l.flatMap (fun y => if (fieldL p.fields (mkB y.1)).isSome = true ∨ p.extra = true then [] else [((way ++ [y.1], 6) : List Bs × Int)]) ++
        l.flatMap (fun y => match fieldL p.fields (mkB y.1) with
          | some k => rec (partAt s k) (way ++ [y.1]) y.2
          | none => []))
/-- the faults, with their ways, in the order in which they are told; n: how many parts may yet follow one another -/
def lookV (s : List GPart) : Nat → GPart → List Bs → JV → List (List Bs × Int)
  | 0, _, _, _ => []
  | n + 1, p, way, v =>
    if JP.kind v ≠ p.kind then [(way, 8)] else
    (if 0 < p.enum.length ∧ enumHas p v = false then [(way, 19)] else []) ++ bodyL s (lookV s n) p way v
end Go.Proofs.YtnmhjabihfhobaaGreatDoor
namespace Go.Proofs.YtnmhjabihfhobaaGreatDoor
namespace Sch
open Go.RowKit
open JP (JV Bs)
/-- all blocks stay but those that the looking turns -/
def StrKeep (w w' : World) : Prop := ∀ (b : Nat) (cs : Array Value) (t : TypeId) (fr : Nat × Nat), w.heap[b]? = some (.cells cs t fr) → t ≠ 84 → t ≠ 46 → w'.heap[b]? = some (.cells cs t fr)
theorem StrKeep.refl (w : World) : StrKeep w w := fun _ _ _ _ h _ _ => h
theorem StrKeep.trans {a b c : World} (h : StrKeep a b) (k : StrKeep b c) : StrKeep a c := fun q cs t fr hq n1 n2 => k q cs t fr (h q cs t fr hq n1 n2) n1 n2
theorem StrKeep.below {w w' : World} (h : Below w.heap.size w w') : StrKeep w w' := fun _ _ _ _ hb _ _ => below_block h hb
/-- texts in a row of texts -/
def StrS (w : World) (v : Value) (l : List ByteArray) : Prop := StrAt w v l ∧ (0 < l.length → ∃ (b o n c : Nat) (cs : Array Value) (fr : Nat × Nat), v = .slice (some ⟨b, o, none⟩) n c ∧ w.heap[b]? = some (.cells cs 9 fr))
theorem StrS.stays {w w' : World} {v : Value} {l : List ByteArray} (h : StrS w v l) (hs : StrKeep w w') : StrS w' v l := by
  obtain ⟨h1, h2⟩ := h
  refine ⟨?_, fun hl => ?_⟩
  · rcases h1 with h3 | ⟨a, c, rfl, h3, h4, h5⟩
    · exact .inl h3
    · refine .inr ⟨a, c, rfl, h3, h4, fun j x hx => ?_⟩
      have hl : 0 < l.length := by have := (List.getElem?_eq_some_iff.1 hx).1; omega
      obtain ⟨b, o, n, c', cs, fr, hv, hb⟩ := h2 hl
      cases hv
      have h6 := h5 j x hx
      have hb' := hs b cs _ fr hb (by decide) (by decide)
      rw [add_plain'] at h6 ⊢
      rw [World.cell?_of_block (a := ⟨b, o + j, none⟩) (w := w) (w' := w') (by show w'.heap[b]? = w.heap[b]?; rw [hb, hb'])]
      exact h6
  · obtain ⟨b, o, n, c', cs, fr, hv, hb⟩ := h2 hl
    exact ⟨b, o, n, c', cs, fr, hv, hs b cs _ fr hb (by decide) (by decide)⟩
theorem strS_own {w : World} {B : Nat} {v : Value} {l : List ByteArray} (h : OwnAt RString 1 w B 9 v l) : StrS w v l := by
  refine ⟨h.row.strs, fun hl => ?_⟩
  rcases h.form with ⟨_, rfl⟩ | ⟨g, c, rfl, _, _, _, _⟩
  · simp at hl
  · obtain ⟨_, _, cur, hc⟩ := h.at (g := g) rfl
    exact ⟨g, 0, _, c, cur, _, rfl, hc⟩
theorem StrS.nil (w : World) : StrS w (.slice none 0 0) [] := ⟨.inl ⟨rfl, rfl⟩, fun h => absurd h (by decide)⟩
theorem join4_any {sv : Value} {way : List Bs} {w : World} (hs : StrAt w sv (way.map mkB)) (ht : (way.map fun s => s.length + 1).sum ≤ 4194304) (hE : Env w) :
    ∃ c, Calls Tryz.prog 17 #[sv] w fun e w' => e = .returned (.tuple #[.string (mkB (pathP way)), .int .i64 c]) ∧ Below w.heap.size w w' := by
  obtain ⟨m, hm⟩ := hE.2.2
  have HJ := ptrJoin_any sv (way.map mkB) m w hs (by rw [total_mk]; exact ht) hm
  rw [List.length_map] at HJ
  unfold pathP
  by_cases h : 10 < way.length
  · rw [if_pos h] at HJ ⊢
    exact ⟨_, HJ⟩
  · rw [if_neg h, joinL_mk] at HJ
    rw [if_neg h]
    exact ⟨_, HJ⟩
/-- a fault as it is told -/
def told (x : List Bs × Int) : GFault := ⟨mkB (pathP x.1), x.2⟩
/-- what was found so far lies there -/
def LookAt (g : Nat) (sv : Value) (F : List GFault) (w : World) : Prop := ∃ fv, w.heap[g]? = some (.cells #[sv, fv] 84 (0, 0)) ∧ OwnAt FaultR 2 w (g + 1) 46 fv F
theorem flat_fault : Flat FaultR := fun _ _ _ _ h => h
theorem one_fault : OneR FaultR := fun w cs x ⟨h1, _⟩ u hu => by
  rw [h1] at hu
  simp only [List.mem_cons, List.not_mem_nil, or_false] at hu
  rcases hu with rfl | rfl <;> rfl
theorem LookAt.below {g : Nat} {sv : Value} {F : List GFault} {w w' : World} (h : LookAt g sv F w) (hb : Below w.heap.size w w') : LookAt g sv F w' := by
  obtain ⟨fv, h1, h2⟩ := h
  exact ⟨fv, below_block hb h1, h2.below stays_fault hb⟩
theorem LookAt.lt {g : Nat} {sv : Value} {F : List GFault} {w : World} (h : LookAt g sv F w) : g < w.heap.size := by
  obtain ⟨fv, h1, _⟩ := h
  exact blk_lt h1
theorem i64_wfS {n : Int} (h1 : -9223372036854775808 ≤ n) (h2 : n ≤ 9223372036854775807) : (Lit.int .i64 n).wf = true := by show (decide _ && decide _) = true; rw [Bool.and_eq_true]; exact ⟨decide_eq_true h1, decide_eq_true h2⟩
/-- what a method of it does -/
def LookSaid (w0 : World) (g : Nat) (sv : Value) (F : List GFault) (w : World) (E : Ending) (w' : World) : Prop :=
  E = .returned (.tuple #[]) ∧ LookAt g sv F w' ∧ Below w0.heap.size w0 w' ∧ StrKeep w w' ∧ w.heap.size ≤ w'.heap.size
theorem Tryz.infoFault : (Tryz.prog.info? 46).map (fun i => (i.zero, i.size, i.bytes)) = some (some (.agg #[.string ByteArray.empty, .int .i64 0]), 2, 24) := by kernel_rfl
set_option maxRecDepth 100000 in
set_option maxHeartbeats 3200000 in
theorem fault_any (w0 : World) (g : Nat) (sv wv : Value) (F : List GFault) (way : List Bs) (e : Int) (w : World) (h : LookAt g sv F w) (hw : StrAt w wv (way.map mkB)) (ht : (way.map fun s => s.length + 1).sum ≤ 4194304) (he : 0 ≤ e ∧ e ≤ 100)
    (hF : F.length ≤ 10000000) (hb0 : Below w0.heap.size w0 w) (hg0 : w0.heap.size ≤ g) (hE : Env w0) :
    Calls Tryz.prog 75 #[.pointer (some ⟨g, 0, none⟩), wv, .int .i64 e] w (LookSaid w0 g sv (F ++ [told (way, e)]) w) := by
  obtain ⟨fv, hg, hown⟩ := h
  obtain ⟨cj, hj⟩ := join4_any hw ht (hE.below hb0)
  obtain ⟨P, hP⟩ : ∃ p, mkB (pathP way) = p := ⟨_, rfl⟩
  have hnew : told (way, e) = ⟨P, e⟩ := by rw [← hP]; rfl
  rw [hnew]
  rw [hP] at hj
  have HJ := Lib.hid hj
  obtain ⟨ao, co, e1, _⟩ := hown.row.len
  obtain ⟨lo, hlo⟩ : ∃ n, F.length = n := ⟨_, rfl⟩
  rw [hlo] at e1
  subst e1
  have hgw : g < w.heap.size := blk_lt hg
  have G1 := Lib.hid hg
  have HOw := Lib.hid hown
  have Hb0 := Lib.hid hb0
  have Hlo := Lib.hid hlo
  have hF2 : F.length ≤ 10000000 := hF
  have Hwf : Hid ((Lit.int .i64 e).wf = true) := Lib.hid (i64_wfS (by omega) (by omega))
  obtain ⟨i0, hi0, hz0, hz1, hz2⟩ := info_parts Tryz.infoFault
  obtain ⟨asv, csv, esv, _⟩ := hw.row.len
  obtain ⟨nsv, hnsv⟩ : ∃ n, (way.map mkB).length = n := ⟨_, rfl⟩
  rw [hnsv] at esv
  subst esv
  clear hg hown hw hb0 hE hj hP hnew hlo hnsv he ht
  go_enter Tryz.func75, Tryz.ntmps75
  go_wp2_with fail
  refine HJ.out.mono ?_
  rintro E w1 ⟨rfl, hb⟩
  have q1 := cell_block (below_block hb G1.out) 1
  have z1 := free_block (below_block hb G1.out) 1
  have HB1 := Lib.hid hb
  have hs1 := hb.size
  have G2 := Lib.hid (below_block hb G1.out)
  have HOw2 := Lib.hid (HOw.out.below stays_fault hb)
  clear hb
  go_wp2_with (at_builtin; refine wpList_append_ownAt (R := FaultR) (k := 2) (e := 46) (B := g + 1) (l := F) (m := [⟨P, e⟩]) _ (by rfl) _ _ _ (by rfl) i0 _ 24 Tryz.underlying42 hi0 hz0 hz1 hz2 rfl (by omega) flat_fault one_fault _ (by rfl) (HOw2.out.alloc stays_fault _) (.slice (some ⟨w1.heap.size, 0, none⟩) 1 1) (by rfl) (RowAt.one (R := FaultR) (k := 2) (cs := #[.string P, .int .i64 e]) (heap_alloc_new w1 _) rfl ⟨rfl, Hwf.out⟩) (by simp only [List.length_cons, List.length_nil]; exact Nat.le_trans (m := 10000001) (by omega) (by decide)) (by simp; omega) (by simp; omega) ?_)
  intro v8 w8 hv8 hg8 hr8 ha8
  have hb8 : Below (g + 1) w1 w8 := below_of_grown (((Below.refl _ w1).alloc (by omega) _)) (by simp; omega) hg8 hr8
  have g8 : w8.heap[g]? = some (.cells #[sv, .slice ao lo co] 84 (0, 0)) := (hb8.block g (by omega)).trans G2.out
  obtain ⟨a8, c8, e8, _⟩ := hv8.row.len
  obtain ⟨n8, hn8⟩ : ∃ n, (F ++ [(⟨P, e⟩ : GFault)]).length = n := ⟨_, rfl⟩
  rw [hn8] at e8
  subst e8
  obtain ⟨W, hW⟩ : ∃ W, W = w8.setCell ⟨g, 1, none⟩ (.slice a8 n8 c8) := ⟨_, rfl⟩
  obtain ⟨t1, t2⟩ := touch_setCell (i := 1) (v := .slice a8 n8 c8) g8
  rw [← hW] at t1 t2
  have HG : Hid (LookAt g sv (F ++ [⟨P, e⟩]) W) := Lib.hid ⟨.slice a8 n8 c8, t1, hv8.touchLow flat_fault t2 (by omega)⟩
  have hsa := sameBut_below (e := 46) ((Below.refl _ w1).alloc (Nat.le_refl _) (.cells #[.string P, .int .i64 e] 46))
  have hsb := (HOw2.out.alloc stays_fault (.cells #[.string P, .int .i64 e] 46)).sameBut hg8
  have HK : Hid (StrKeep w W) := Lib.hid (fun b cs t fr hq n1 n2 => by
    have h1 := StrKeep.below HB1.out b cs t fr hq n1 n2
    have h2 := hsa b cs t fr h1 n2
    have h3 := hsb b cs t fr h2 n2
    refine (t2.other b fun e => ?_).trans h3
    rw [e, g8] at h3
    cases h3
    exact n1 rfl)
  have hbw8 : Below (g + 1) w w8 := (HB1.out.mono (by omega)).trans hb8
  have hb08 : Below w0.heap.size w0 w8 := Hb0.out.trans (hbw8.mono (by omega))
  have HB := Lib.hid (t2.below hb08 hg0)
  have HZ : Hid (w.heap.size ≤ W.heap.size) := Lib.hid (by rw [t2.size]; exact hbw8.size)
  have q8 := cell_block g8 1
  have z8 := free_block g8 1
  clear t1 t2 hv8 hg8 hr8 hb8 g8 hbw8 hn8 q1 z1 hsa hsb ha8 hb08
  go_wp2_with fail
  rw [← hW]
  go_end0
  exact ⟨rfl, HG.out, HB.out, HK.out, HZ.out⟩
set_option maxRecDepth 100000 in
set_option maxHeartbeats 3200000 in
theorem span_any (w0 : World) (g : Nat) (sv wv : Value) (F : List GFault) (way : List Bs) (n : Int) (p : GPart) (v1 v2 v7 : Value) (w : World) (h : LookAt g sv F w) (hw : StrS w wv (way.map mkB)) (ht : (way.map fun s => s.length + 1).sum ≤ 4194304)
    (hF : F.length ≤ 9000000) (hb0 : Below w0.heap.size w0 w) (hg0 : w0.heap.size ≤ g) (hE : Env w0) :
    Calls Tryz.prog 79 #[.pointer (some ⟨g, 0, none⟩), .agg #[.int .i64 p.kind, v1, v2, .bool p.extra, .int .i64 p.items, .int .i64 p.least, .int .i64 p.most, v7, .string p.deflt], .int .i64 n, wv] w (LookSaid w0 g sv (F ++ (spanL p n way).map told) w) := by
  have HL := Lib.hid h
  have HW := Lib.hid hw
  have HB := Lib.hid hb0
  have HE := Lib.hid hE
  obtain ⟨asv, csv, esv, _⟩ := hw.1.row.len
  obtain ⟨nsv, hnsv⟩ : ∃ n, (way.map mkB).length = n := ⟨_, rfl⟩
  rw [hnsv] at esv
  subst esv
  obtain ⟨w1, hw1⟩ : ∃ w1, w1 = w.alloc (.cells #[.int .i64 p.kind, v1, v2, .bool p.extra, .int .i64 p.items, .int .i64 p.least, .int .i64 p.most, v7, .string p.deflt] 73) := ⟨_, rfl⟩
  have hb1 : Below w.heap.size w w1 := by rw [hw1]; exact (Below.refl _ w).alloc (Nat.le_refl _) _
  have hbox : w1.heap[w.heap.size]? = some (.cells #[.int .i64 p.kind, v1, v2, .bool p.extra, .int .i64 p.items, .int .i64 p.least, .int .i64 p.most, v7, .string p.deflt] 73 (0, 0)) := by rw [hw1]; exact heap_alloc_new w _
  obtain ⟨gp, hgp⟩ : ∃ gp, gp = w.heap.size := ⟨_, rfl⟩
  have hgg : g < gp := by rw [hgp]; exact h.lt
  rw [← hgp] at hbox
  have L1 := Lib.hid (h.below hb1)
  have W1 := Lib.hid (hw.stays (StrKeep.below hb1))
  have B1 := Lib.hid (hb0.trans (hb1.mono hb0.size))
  have K1 := Lib.hid (StrKeep.below hb1)
  have Z1 : Hid (w.heap.size ≤ w1.heap.size) := Lib.hid hb1.size
  have c5 := cell_block hbox 5
  have c6 := cell_block hbox 6
  have BX := Lib.hid hbox
  obtain ⟨l1, hl1⟩ : ∃ b, decide (n < p.least) = b := ⟨_, rfl⟩
  obtain ⟨l2, hl2⟩ : ∃ b, decide (p.most < n) = b := ⟨_, rfl⟩
  have Hres : Hid ((spanL p n way).map told = (if l1 = true then [told (way, 1)] else []) ++ (if l2 = true then [told (way, 2)] else [])) := Lib.hid (by
    unfold spanL
    rw [List.map_append, ← hl1, ← hl2]
    congr 1
    · by_cases h : n < p.least
      · rw [if_pos h, if_pos (decide_eq_true h)]; rfl
      · rw [if_neg h, if_neg (by simpa using h)]; rfl
    · by_cases h : p.most < n
      · rw [if_pos h, if_pos (decide_eq_true h)]; rfl
      · rw [if_neg h, if_neg (by simpa using h)]; rfl)
  clear h hw hb0 hE hb1 hbox hnsv
  go_enter Tryz.func79, Tryz.ntmps79
  go_upto_region 1 with fail
  rw [← hw1]
  rw [← hgp]
  clear hw1 hgp
  cases l1 with
  | true =>
    go_wp2_with fail
    refine (fault_any w0 g sv _ F way 1 w1 L1.out W1.out.1 ht ⟨by decide, by decide⟩ (by omega) B1.out hg0 HE.out).mono ?_
    rintro E w2 ⟨rfl, h1, h2, h3, h4⟩
    have L2 := Lib.hid h1
    have B2 := Lib.hid h2
    have W2 := Lib.hid (W1.out.stays h3)
    have K2 := Lib.hid (K1.out.trans h3)
    have Z2 : Hid (w.heap.size ≤ w2.heap.size) := Lib.hid (Nat.le_trans Z1.out h4)
    have BX2 := h3 _ _ _ _ BX.out (by decide) (by decide)
    clear c5 c6
    have c5 := cell_block BX2 5
    have c6 := cell_block BX2 6
    clear h1 h2 h3 h4 BX2
    cases l2 with
    | true =>
      go_wp2_with fail
      refine (fault_any w0 g sv _ (F ++ [told (way, 1)]) way 2 w2 L2.out W2.out.1 ht ⟨by decide, by decide⟩ (by simp; omega) B2.out hg0 HE.out).mono ?_
      rintro E w3 ⟨rfl, h1, h2, h3, h4⟩
      have L3 := Lib.hid h1
      have B3 := Lib.hid h2
      have K3 := Lib.hid (K2.out.trans h3)
      have Z3 : Hid (w.heap.size ≤ w3.heap.size) := Lib.hid (Nat.le_trans Z2.out h4)
      clear h1 h2 h3 h4
      go_wp2_with fail
      go_end0
      exact ⟨rfl, by rw [Hres.out]; simpa using L3.out, B3.out, K3.out, Z3.out⟩
    | false =>
      go_wp2_with fail
      go_end0
      exact ⟨rfl, by rw [Hres.out]; simpa using L2.out, B2.out, K2.out, Z2.out⟩
  | false =>
    cases l2 with
    | true =>
      go_wp2_with fail
      refine (fault_any w0 g sv _ F way 2 w1 L1.out W1.out.1 ht ⟨by decide, by decide⟩ (by omega) B1.out hg0 HE.out).mono ?_
      rintro E w3 ⟨rfl, h1, h2, h3, h4⟩
      have L3 := Lib.hid h1
      have B3 := Lib.hid h2
      have K3 := Lib.hid (K1.out.trans h3)
      have Z3 : Hid (w.heap.size ≤ w3.heap.size) := Lib.hid (Nat.le_trans Z1.out h4)
      clear h1 h2 h3 h4
      go_wp2_with fail
      go_end0
      exact ⟨rfl, by rw [Hres.out]; simpa using L3.out, B3.out, K3.out, Z3.out⟩
    | false =>
      go_wp2_with fail
      go_end0
      exact ⟨rfl, by rw [Hres.out]; simpa using L1.out, B1.out, K1.out, Z1.out⟩
end Sch
end Go.Proofs.YtnmhjabihfhobaaGreatDoor
namespace Go.Proofs.YtnmhjabihfhobaaGreatDoor
open Go.RowKit
open JP (JV Bs)
abbrev Flds := List (Bs × JV)
def kidV (p : GPart) (rec : Int → JV → JV) (y : Bs × JV) : Bs × JV := match fieldL p.fields (mkB y.1) with
  | some k => (y.1, rec k y.2)
  | none => y
def bodyT (s : List GPart) (mk : GPart → Flds → Flds) (rec : GPart → JV → JV) (p : GPart) : JV → JV
  | .list l => .list (l.map (rec (partAt s p.items)))
  | .obj l => .obj ((mk p l).map (kidV p fun k => rec (partAt s k)))
  | v => v
/-- something made of each object of a part, from the outermost one on -/
def thruV (s : List GPart) (mk : GPart → Flds → Flds) : Nat → GPart → JV → JV
  | 0, _, v => v
  | n + 1, p, v => if JP.kind v ≠ p.kind then v else bodyT s mk (thruV s mk n) p v
theorem kidV_name (p : GPart) (rec : Int → JV → JV) (y : Bs × JV) : (kidV p rec y).1 = y.1 := by
  unfold kidV; split <;> rfl
theorem kind_bodyT (s : List GPart) (mk : GPart → Flds → Flds) (rec : GPart → JV → JV) (p : GPart) (v : JV) : JP.kind (bodyT s mk rec p v) = JP.kind v := by cases v <;> rfl
end Go.Proofs.YtnmhjabihfhobaaGreatDoor
namespace Go.Proofs.YtnmhjabihfhobaaGreatDoor
open Go.RowKit
open JP (JV Bs)
/-- no more than -/
def LessV (a b : JV) : Prop := JP.size a ≤ JP.size b ∧ JP.deep a ≤ JP.deep b ∧ (JP.text a).length ≤ (JP.text b).length ∧ (JP.wf b → JP.wf a)
theorem LessV.refl (v : JV) : LessV v v := ⟨Nat.le_refl _, Nat.le_refl _, Nat.le_refl _, id⟩
end Go.Proofs.YtnmhjabihfhobaaGreatDoor
namespace Go.Proofs.YtnmhjabihfhobaaGreatDoor
open Go.RowKit
open JP (JV Bs)
end Go.Proofs.YtnmhjabihfhobaaGreatDoor
namespace Go.Proofs.YtnmhjabihfhobaaGreatDoor
namespace Sch
open Go.RowKit
/-- the first thing that was wrong lies there -/
def IsBad (g : Nat) (w : World) (b : Int) : Prop := w.heap[g]? = some (.cells #[.int .i64 b] 123 (0, 0))
theorem IsBad.below {g : Nat} {w w' : World} {b : Int} (h : IsBad g w b) (hb : Below w.heap.size w w') : IsBad g w' b := below_block hb h
theorem IsBad.lt {g : Nat} {w : World} {b : Int} (h : IsBad g w b) : g < w.heap.size := by
  rcases Nat.lt_or_ge g w.heap.size with h1 | h1
  · exact h1
  · unfold IsBad at h; rw [Array.getElem?_eq_none h1] at h; cases h
def needE (b : Int) (is : Bool) (e : Int) : Int := if b = 0 ∧ is = false then e else b
/-- what a checker's method does -/
def Said (g : Nat) (b : Int) (w : World) (E : Ending) (w' : World) : Prop := E = .returned (.tuple #[]) ∧ IsBad g w' b ∧ But g w w'
set_option maxRecDepth 100000 in
theorem need_any (g : Nat) (b e : Int) (is : Bool) (w : World) (h : IsBad g w b) : Calls Tryz.prog 73 #[.pointer (some ⟨g, 0, none⟩), .bool is, .int .i64 e] w (Said g (needE b is e) w) := by
  have h' : w.heap[g]? = some (.cells #[.int .i64 b] 123 (0, 0)) := h
  have c0 : w.cell? ⟨g, 0, none⟩ = some (.int .i64 b) := cell_block h' 0
  have z0 : w.frozen? ⟨g, 0, none⟩ = false := free_block h' 0
  have Hh := Lib.hid h'
  clear h h'
  by_cases hb : b = 0
  · subst hb
    cases is
    · go_enter Tryz.func73, Tryz.ntmps73
      go_wp2_with fail
      obtain ⟨t1, t2⟩ := touch_setCell (i := 0) (v := .int .i64 e) Hh.out
      go_end0
      exact ⟨rfl, t1, But.touch t2⟩
    · go_enter Tryz.func73, Tryz.ntmps73
      go_wp2_with fail
      go_end0
      exact ⟨rfl, Hh.out, But.refl _ _⟩
  · have q : (b == 0) = false := by rw [beq_eq_false_iff_ne]; exact hb
    have Hs : Hid (needE b is e = b) := Lib.hid (by unfold needE; rw [if_neg (fun h => hb h.1)])
    clear hb
    go_enter Tryz.func73, Tryz.ntmps73
    go_wp2_with fail
    go_end0
    exact ⟨rfl, by rw [Hs.out]; exact Hh.out, But.refl _ _⟩
end Sch
end Go.Proofs.YtnmhjabihfhobaaGreatDoor
namespace Go.Proofs.YtnmhjabihfhobaaGreatDoor
namespace Sch
open Go.RowKit
open JP (JV Bs)
abbrev Ts := List (Bool × Int)
def runT (b : Int) (l : Ts) : Int := l.foldl (fun b t => needE b t.1 t.2) b
theorem runT_append (b : Int) (l m : Ts) : runT b (l ++ m) = runT (runT b l) m := List.foldl_append
theorem runT_cons (b : Int) (t : Bool × Int) (l : Ts) : runT b (t :: l) = runT (needE b t.1 t.2) l := rfl
theorem runT_stays {b : Int} (h : b ≠ 0) : ∀ l : Ts, runT b l = b
  | [] => rfl
  | t :: r => by
    rw [runT_cons]
    have e : needE b t.1 t.2 = b := by unfold needE; rw [if_neg (fun h2 => h h2.1)]
    rw [e]
    exact runT_stays h r
theorem runT_ok : ∀ {l : Ts}, runT 0 l = 0 → ∀ t ∈ l, t.1 = true ∨ t.2 = 0
  | [], _, _, h => by cases h
  | t :: r, h, u, hu => by
    rw [runT_cons] at h
    by_cases e : needE 0 t.1 t.2 = 0
    · rw [e] at h
      rcases List.mem_cons.1 hu with rfl | hu
      · unfold needE at e
        by_cases h1 : u.1 = true
        · exact .inl h1
        · rw [if_pos ⟨rfl, by simpa using h1⟩] at e
          exact .inr e
      · exact runT_ok h u hu
    · rw [runT_stays e] at h
      exact absurd h e
/-- what is wrong with a document -/
def readE (d : ByteArray) : Int := (JP.readL d.data.toList).2
def docT (d : ByteArray) : Bool × Int := (decide (readE d = 0), readE d)
def behindB (n i : Nat) (k : Int) : Bool := decide ((i : Int) < k) && decide (k < (n : Int))
def fieldTs (n i : Nat) (F : List GField) (k : Nat) : Ts := match F[k]? with
  | some f => [(!((F.take k).any fun g => decide (g.name = f.name)), 5), (behindB n i f.part, 7)]
  | none => []
def headTs (p : GPart) : Ts := [
  (decide (2 ≤ p.kind) && decide (p.kind ≤ 6), 1),
  (decide (p.fields.length ≤ 8) && decide (p.need.length ≤ 8) && decide (p.enum.length ≤ 8), 2),
  (decide (p.kind = 6) || (decide (p.fields.length + p.need.length = 0) && !p.extra), 1),
  (decide (p.kind = 5) || decide (p.items = 0), 1),
  ((!decide (p.kind = 5) && !decide (p.kind = 6)) || decide (p.enum.length = 0), 1),
  ((!decide (p.kind = 6) && !decide (p.kind = 2)) || (decide (p.least = 0) && decide (p.most = 0)), 1)]
def partTs (n i : Nat) (p : GPart) : Ts :=
  headTs p ++ ((List.range p.fields.length).flatMap (fieldTs n i p.fields) ++ ([(!decide (p.kind = 5) || behindB n i p.items, 7)] ++ (p.enum.map docT ++ (if p.deflt = ByteArray.empty then [] else [docT p.deflt]))))
def allTs (s : List GPart) : Ts := [(decide (0 < s.length), 1), (decide (s.length ≤ 30), 2)] ++ (List.range s.length).flatMap fun i => partTs s.length i (partAt s (i : Int))
/-- what a part that is in order keeps to -/
structure GoodP (n i : Nat) (p : GPart) : Prop where
  kind : 2 ≤ p.kind ∧ p.kind ≤ 6
  few : p.fields.length ≤ 8 ∧ p.need.length ≤ 8 ∧ p.enum.length ≤ 8
  obj : p.kind = 6 ∨ p.fields = [] ∧ p.need = [] ∧ p.extra = false
  enums : p.kind = 5 ∨ p.kind = 6 → p.enum = []
  parts : ∀ f ∈ p.fields, (i : Int) < f.part ∧ f.part < n
  names : ∀ (k : Nat) (f : GField), p.fields[k]? = some f → ∀ g ∈ p.fields.take k, g.name ≠ f.name
  items : p.kind = 5 → (i : Int) < p.items ∧ p.items < n
  docs : ∀ d ∈ p.enum, readE d = 0
  deflt : p.deflt ≠ ByteArray.empty → readE p.deflt = 0
def GoodS (s : List GPart) : Prop := 0 < s.length ∧ s.length ≤ 30 ∧ ∀ (i : Nat) (p : GPart), s[i]? = some p → GoodP s.length i p
theorem partAt_of {s : List GPart} {i : Nat} {p : GPart} (h : s[i]? = some p) : partAt s (i : Int) = p := by
  unfold partAt
  rw [Int.toNat_natCast, h]; rfl
theorem no_code {α : Prop} {c : Int} (hc : c ≠ 0) (h : c = 0) : α := absurd h hc
theorem behind_of {n i : Nat} {k : Int} (h : behindB n i k = true) : (i : Int) < k ∧ k < n := by
  unfold behindB at h
  rw [Bool.and_eq_true] at h
  exact ⟨of_decide_eq_true h.1, of_decide_eq_true h.2⟩
theorem doc_of {d : ByteArray} (h : (docT d).1 = true ∨ (docT d).2 = 0) : readE d = 0 := h.elim (fun h => of_decide_eq_true h) id
theorem good_of {s : List GPart} (h : runT 0 (allTs s) = 0) : GoodS s := by
  have hall := runT_ok h
  have h1 := hall (decide (0 < s.length), 1) (by unfold allTs; simp)
  have h2 := hall (decide (s.length ≤ 30), 2) (by unfold allTs; simp)
  refine ⟨by simpa using h1, by simpa using h2, fun i p hp => ?_⟩
  have hpt : ∀ t ∈ partTs s.length i p, t.1 = true ∨ t.2 = 0 := fun t ht => hall t (by
    unfold allTs
    refine List.mem_append_right _ (List.mem_flatMap.2 ⟨i, List.mem_range.2 (List.getElem?_eq_some_iff.1 hp).1, ?_⟩)
    rw [partAt_of hp]; exact ht)
  have hhd : ∀ t ∈ headTs p, t.1 = true ∨ t.2 = 0 := fun t ht => hpt t (by unfold partTs; exact List.mem_append_left _ ht)
  have t0 := hhd _ (show (decide (2 ≤ p.kind) && decide (p.kind ≤ 6), (1 : Int)) ∈ headTs p by unfold headTs; simp)
  have t1 := hhd _ (show (decide (p.fields.length ≤ 8) && decide (p.need.length ≤ 8) && decide (p.enum.length ≤ 8), (2 : Int)) ∈ headTs p by unfold headTs; simp)
  have t2 := hhd _ (show (decide (p.kind = 6) || (decide (p.fields.length + p.need.length = 0) && !p.extra), (1 : Int)) ∈ headTs p by unfold headTs; simp)
  have t4 := hhd _ (show ((!decide (p.kind = 5) && !decide (p.kind = 6)) || decide (p.enum.length = 0), (1 : Int)) ∈ headTs p by unfold headTs; simp)
  refine ⟨by simpa using t0, ?_, ?_, ?_, ?_, ?_, ?_, ?_, ?_⟩
  · have : (p.fields.length ≤ 8 ∧ p.need.length ≤ 8) ∧ p.enum.length ≤ 8 := by simpa using t1
    exact ⟨this.1.1, this.1.2, this.2⟩
  · have : p.kind = 6 ∨ (p.fields = [] ∧ p.need = []) ∧ p.extra = false := by simpa using t2
    rcases this with h | h
    · exact .inl h
    · exact .inr ⟨h.1.1, h.1.2, h.2⟩
  · intro hk
    have : (¬ p.kind = 5 ∧ ¬ p.kind = 6) ∨ p.enum = [] := by simpa using t4
    rcases this with h | h
    · exact absurd hk (by rintro (h3 | h3); exact h.1 h3; exact h.2 h3)
    · exact h
  · intro f hf
    obtain ⟨k, hk, hkf⟩ := List.getElem_of_mem hf
    have := hpt (behindB s.length i f.part, 7) (by
      unfold partTs
      refine List.mem_append_right _ (List.mem_append_left _ (List.mem_flatMap.2 ⟨k, List.mem_range.2 hk, ?_⟩))
      unfold fieldTs
      rw [List.getElem?_eq_getElem hk, hkf]; simp)
    exact behind_of (this.elim id fun h => no_code (c := 7) (by decide) h)
  · intro k f hf g hg he
    have := hpt (!((p.fields.take k).any fun g => decide (g.name = f.name)), 5) (by
      unfold partTs
      refine List.mem_append_right _ (List.mem_append_left _ (List.mem_flatMap.2 ⟨k, List.mem_range.2 (List.getElem?_eq_some_iff.1 hf).1, ?_⟩))
      unfold fieldTs
      rw [hf]; simp)
    have h2 : ((p.fields.take k).any fun g => decide (g.name = f.name)) = false := by
      have := this.elim id fun h => no_code (c := 5) (by decide) h
      simpa using this
    rw [List.any_eq_false] at h2
    exact h2 g hg (decide_eq_true he)
  · intro hk
    have := hpt (!decide (p.kind = 5) || behindB s.length i p.items, 7) (by
      unfold partTs
      exact List.mem_append_right _ (List.mem_append_right _ (List.mem_append_left _ (List.mem_singleton.2 rfl))))
    have := this.elim id fun h => no_code (c := 7) (by decide) h
    rw [hk] at this
    exact behind_of (by simpa using this)
  · intro d hd
    exact doc_of (hpt (docT d) (by
      unfold partTs
      exact List.mem_append_right _ (List.mem_append_right _ (List.mem_append_right _ (List.mem_append_left _ (List.mem_map_of_mem hd))))))
  · intro hd
    exact doc_of (hpt (docT p.deflt) (by
      unfold partTs
      refine List.mem_append_right _ (List.mem_append_right _ (List.mem_append_right _ (List.mem_append_right _ ?_)))
      rw [if_neg hd]; exact List.mem_singleton.2 rfl))
/-- the faults of a value, as a document of part i -/
def faultsV (s : List GPart) (i : Int) (v : JV) : List (List Bs × Int) := lookV s s.length (partAt s i) [] v
def badDef (s : List GPart) (i : Nat) : Bool := decide ((partAt s (i : Int)).deflt ≠ ByteArray.empty) && !(faultsV s (i : Int) (JP.readL (partAt s (i : Int)).deflt.data.toList).1).isEmpty
def checkE (s : List GPart) : Int := if runT 0 (allTs s) ≠ 0 then runT 0 (allTs s) else if (List.range s.length).any (badDef s) then 19 else 0
theorem check_good {s : List GPart} (h : checkE s = 0) : GoodS s ∧ ∀ (i : Nat) (p : GPart), s[i]? = some p → p.deflt ≠ ByteArray.empty → faultsV s (i : Int) (JP.readL p.deflt.data.toList).1 = [] := by
  unfold checkE at h
  by_cases h1 : runT 0 (allTs s) ≠ 0
  · rw [if_pos h1] at h; exact absurd h h1
  · rw [if_neg h1] at h
    refine ⟨good_of (Decidable.not_not.1 h1), fun i p hp hd => ?_⟩
    by_cases h2 : (List.range s.length).any (badDef s) = true
    · rw [if_pos h2] at h; exact no_code (by decide) h
    · have h3 : (List.range s.length).any (badDef s) = false := by simpa using h2
      rw [List.any_eq_false] at h3
      have h4 := h3 i (List.mem_range.2 (List.getElem?_eq_some_iff.1 hp).1)
      unfold badDef at h4
      rw [partAt_of hp] at h4
      simpa [hd] using h4
/-- Faults -/
def bothE (s : List GPart) (d : Bs) : Int := if checkE s = 0 then (JP.readL d).2 else checkE s
theorem both_ok {s : List GPart} {d : Bs} (h : bothE s d = 0) : checkE s = 0 ∧ (JP.readL d).2 = 0 := by
  unfold bothE at h
  split at h
  · exact ⟨by assumption, h⟩
  · exact absurd h (by assumption)
end Sch
end Go.Proofs.YtnmhjabihfhobaaGreatDoor
namespace Go.Proofs.YtnmhjabihfhobaaGreatDoor
open Go.RowKit
/-- is one of them so? -/
def AnyAt {α : Type} (l : List α) (p : α → Bool) (w : World) (e : Ending) (w' : World) : Prop := ∃ n : Int, e = .returned (.int .i64 n) ∧ (decide (0 ≤ n) = l.any p) ∧ Below w.heap.size w w'
set_option maxRecDepth 100000 in
set_option maxHeartbeats 800000 in
theorem idxStr_any {f : FuncId} {cap : Value} {Cap : World → Prop} {p : ByteArray → Bool} {OK : ByteArray → Prop} (enter : ∀ (a : Array Value) (w : World), (callFunc f a).run Tryz.prog w = .ok (.enter f a) w)
    (keepC : ∀ w w' : World, Cap w → Below w.heap.size w w' → Cap w')
    (clo : ∀ (x : ByteArray) (w : World), RString w [.string x] x → OK x → Cap w → Calls Tryz.prog f #[.string x, cap] w fun e w' => e = .returned (.bool (p x)) ∧ Below w.heap.size w w')
    (v : Value) (l : List ByteArray) (w : World) (h : RowAt RString 1 w v l) (hl : l.length ≤ 1073741824) (hok : ∀ x ∈ l, OK x) (hc : Cap w) : Calls Tryz.prog 119 #[v, .func (.func f) #[] #[cap]] w (AnyAt l p w) := by
  obtain ⟨a1, c1, rfl, _, _⟩ := h.len
  have H := Lib.hid h
  have Hc := Lib.hid hc
  have HC := Lib.hid clo
  have HK := Lib.hid keepC
  have Hok := Lib.hid hok
  have ep := enter
  clear h hc clo keepC enter hok
  go_enter Tryz.func119, Tryz.ntmps119
  go_wp2_with fail
  go_loopg [8] l.length (fun g u8 wr => ∃ i : Nat, i + g = l.length ∧ u8 = .int .i64 (i : Int) ∧ Hid (∀ x ∈ l.take i, p x = false) ∧ Hid (Cap wr) ∧ Below w.heap.size w wr)
  case atStart => exact ⟨0, by omega, rfl, Lib.hid (fun x hx => by simp at hx), Hc, Below.refl _ _⟩
  case round =>
    obtain ⟨i, hig, rfl, Hall, Hcr, hbel⟩ := hrel
    cases gk with
    | zero =>
      obtain rfl : i = l.length := by omega
      have Hany : Hid (decide ((0 : Int) ≤ -1) = l.any p) := by
        refine Lib.hid ?_
        rw [decide_eq_false (by omega), eq_comm, List.any_eq_false]
        intro x hx
        rw [Hall.out x (by rw [List.take_length]; exact hx)]; simp
      have Hbel := Lib.hid hbel
      clear hbel
      go_wp2_with fail
      go_ret
      exact ⟨-1, rfl, Hany.out, Hbel.out⟩
    | succ g =>
      have hil : i < l.length := by omega
      obtain ⟨x, hxi⟩ : ∃ x, l[i]? = some x := ⟨l[i]'(by omega), List.getElem?_eq_getElem _⟩
      obtain ⟨b, o, c', hv, _, _, hbs, hcell⟩ := H.out.form (by omega) (by omega)
      cases hv
      obtain ⟨ds, _, hcc, hR⟩ := hcell i x hxi
      have hR2 := hR
      obtain rfl : ds = [.string x] := hR
      have HR := Lib.hid (stays_string _ _ _ _ (keeps_below hbel) hR2)
      have e0 : wr.cell? ⟨b, o + i, none⟩ = some (.string x) := (hbel.cell (p := ⟨b, _, none⟩) hbs).trans (by simpa using hcc 0 _ rfl)
      have q1 : (0 : Int) ≤ (i : Int) := by omega
      have q2 : (i : Int) < (l.length : Int) := by omega
      have Hbel := Lib.hid hbel
      have hs0 := hbel.size
      have Hxi := Lib.hid hxi
      clear hcc hcell hbel hR2 hxi
      obtain ⟨pb, Hpb⟩ : ∃ pb, Hid (p x = pb) := ⟨_, Lib.hid rfl⟩
      go_wp2_with fail
      refine (HC.out x  wr HR.out (Hok.out x (List.mem_of_getElem? Hxi.out)) Hcr.out).mono ?_
      rintro E w1 ⟨rfl, hb1⟩
      rw [Hpb.out]
      have Hb1 := Lib.hid (Hbel.out.trans (hb1.mono hs0))
      have Hc1 := Lib.hid (HK.out _ _ Hcr.out hb1)
      clear hb1 e0
      cases pb with
      | true =>
        have Hany : Hid (decide ((0 : Int) ≤ (i : Int)) = l.any p) := by
          refine Lib.hid ?_
          rw [decide_eq_true (by omega), eq_comm, List.any_eq_true]
          exact ⟨x, List.mem_of_getElem? Hxi.out, Hpb.out⟩
        go_wp2_with fail
        go_ret
        exact ⟨_, rfl, Hany.out, Hb1.out⟩
      | false =>
        have Hall2 : Hid (∀ x ∈ l.take (i + 1), p x = false) := Lib.hid fun y hy => by
          rw [List.take_add_one, Hxi.out] at hy
          rcases List.mem_append.1 hy with h | h
          · exact Hall.out y h
          · have h9 : y = x := by simpa using h
            rw [h9]; exact Hpb.out
        go_wp2_with fail
        go_roundg g
        case measure => omega
        case rel => exact ⟨i + 1, by omega, by go_num, Hall2, Hc1, Hb1.out⟩
set_option maxRecDepth 100000 in
theorem anyStr_any {f : FuncId} {cap : Value} {Cap : World → Prop} {p : ByteArray → Bool} {OK : ByteArray → Prop} (enter : ∀ (a : Array Value) (w : World), (callFunc f a).run Tryz.prog w = .ok (.enter f a) w)
    (keepC : ∀ w w' : World, Cap w → Below w.heap.size w w' → Cap w')
    (clo : ∀ (x : ByteArray) (w : World), RString w [.string x] x → OK x → Cap w → Calls Tryz.prog f #[.string x, cap] w fun e w' => e = .returned (.bool (p x)) ∧ Below w.heap.size w w')
    (v : Value) (l : List ByteArray) (w : World) (h : RowAt RString 1 w v l) (hl : l.length ≤ 1073741824) (hok : ∀ x ∈ l, OK x) (hc : Cap w) : Calls Tryz.prog 76 #[v, .func (.func f) #[] #[cap]] w fun e w' => e = .returned (.bool (l.any p)) ∧ Below w.heap.size w w' := by
  have H := Lib.hid (idxStr_any enter keepC clo v l w h hl hok hc)
  obtain ⟨B, HB⟩ : ∃ B, Hid (l.any p = B) := ⟨_, Lib.hid rfl⟩
  rw [HB.out]
  clear h hc clo keepC enter
  go_enter Tryz.func76, Tryz.ntmps76
  go_wp2_with fail
  refine H.out.mono ?_
  rintro E w1 ⟨n, rfl, hn, hb⟩
  rw [HB.out] at hn
  have Hb := Lib.hid hb
  have Hn := Lib.hid hn
  clear hb hn H
  go_wp2_with fail
  go_ret
  exact ⟨congrArg (fun b => Ending.returned (Value.bool b)) Hn.out, Hb.out⟩
set_option maxRecDepth 100000 in
set_option maxHeartbeats 800000 in
theorem idxField_any {f : FuncId} {cap : Value} {Cap : World → Prop} {p : GField → Bool} {OK : GField → Prop} (enter : ∀ (a : Array Value) (w : World), (callFunc f a).run Tryz.prog w = .ok (.enter f a) w)
    (keepC : ∀ w w' : World, Cap w → Below w.heap.size w w' → Cap w')
    (clo : ∀ (x : GField) (w : World), FieldR w [.string x.name, .int .i64 x.part] x → OK x → Cap w → Calls Tryz.prog f #[.agg #[.string x.name, .int .i64 x.part], cap] w fun e w' => e = .returned (.bool (p x)) ∧ Below w.heap.size w w')
    (v : Value) (l : List GField) (w : World) (h : RowAt FieldR 2 w v l) (hl : l.length ≤ 1073741824) (hok : ∀ x ∈ l, OK x) (hc : Cap w) : Calls Tryz.prog 156 #[v, .func (.func f) #[] #[cap]] w (AnyAt l p w) := by
  obtain ⟨a1, c1, rfl, _, _⟩ := h.len
  have H := Lib.hid h
  have Hc := Lib.hid hc
  have HC := Lib.hid clo
  have HK := Lib.hid keepC
  have Hok := Lib.hid hok
  have ep := enter
  clear h hc clo keepC enter hok
  go_enter Tryz.func156, Tryz.ntmps156
  go_wp2_with fail
  go_loopg [8] l.length (fun g u8 wr => ∃ i : Nat, i + g = l.length ∧ u8 = .int .i64 (i : Int) ∧ Hid (∀ x ∈ l.take i, p x = false) ∧ Hid (Cap wr) ∧ Below w.heap.size w wr)
  case atStart => exact ⟨0, by omega, rfl, Lib.hid (fun x hx => by simp at hx), Hc, Below.refl _ _⟩
  case round =>
    obtain ⟨i, hig, rfl, Hall, Hcr, hbel⟩ := hrel
    cases gk with
    | zero =>
      obtain rfl : i = l.length := by omega
      have Hany : Hid (decide ((0 : Int) ≤ -1) = l.any p) := by
        refine Lib.hid ?_
        rw [decide_eq_false (by omega), eq_comm, List.any_eq_false]
        intro x hx
        rw [Hall.out x (by rw [List.take_length]; exact hx)]; simp
      have Hbel := Lib.hid hbel
      clear hbel
      go_wp2_with fail
      go_ret
      exact ⟨-1, rfl, Hany.out, Hbel.out⟩
    | succ g =>
      have hil : i < l.length := by omega
      obtain ⟨x, hxi⟩ : ∃ x, l[i]? = some x := ⟨l[i]'(by omega), List.getElem?_eq_getElem _⟩
      obtain ⟨b, o, c', hv, _, _, hbs, hcell⟩ := H.out.form (by omega) (by omega)
      cases hv
      obtain ⟨ds, _, hcc, hR⟩ := hcell i x hxi
      have hR2 := hR
      obtain rfl : ds = [.string x.name, .int .i64 x.part] := by first | exact hR | exact hR.1
      have HR := Lib.hid (stays_field _ _ _ _ (keeps_below hbel) hR2)
      have e0 : wr.cell? ⟨b, o + i * 2, none⟩ = some (.string x.name) := (hbel.cell (p := ⟨b, _, none⟩) hbs).trans (by simpa using hcc 0 _ rfl)
      have e1 : wr.cell? ⟨b, o + i * 2 + 1, none⟩ = some (.int .i64 x.part) := (hbel.cell (p := ⟨b, _, none⟩) hbs).trans (hcc 1 _ rfl)
      have q1 : (0 : Int) ≤ (i : Int) := by omega
      have q2 : (i : Int) < (l.length : Int) := by omega
      have Hbel := Lib.hid hbel
      have hs0 := hbel.size
      have Hxi := Lib.hid hxi
      clear hcc hcell hbel hR2 hxi
      obtain ⟨pb, Hpb⟩ : ∃ pb, Hid (p x = pb) := ⟨_, Lib.hid rfl⟩
      go_wp2_with fail
      refine (HC.out x  wr HR.out (Hok.out x (List.mem_of_getElem? Hxi.out)) Hcr.out).mono ?_
      rintro E w1 ⟨rfl, hb1⟩
      rw [Hpb.out]
      have Hb1 := Lib.hid (Hbel.out.trans (hb1.mono hs0))
      have Hc1 := Lib.hid (HK.out _ _ Hcr.out hb1)
      clear hb1 e0 e1
      cases pb with
      | true =>
        have Hany : Hid (decide ((0 : Int) ≤ (i : Int)) = l.any p) := by
          refine Lib.hid ?_
          rw [decide_eq_true (by omega), eq_comm, List.any_eq_true]
          exact ⟨x, List.mem_of_getElem? Hxi.out, Hpb.out⟩
        go_wp2_with fail
        go_ret
        exact ⟨_, rfl, Hany.out, Hb1.out⟩
      | false =>
        have Hall2 : Hid (∀ x ∈ l.take (i + 1), p x = false) := Lib.hid fun y hy => by
          rw [List.take_add_one, Hxi.out] at hy
          rcases List.mem_append.1 hy with h | h
          · exact Hall.out y h
          · have h9 : y = x := by simpa using h
            rw [h9]; exact Hpb.out
        go_wp2_with fail
        go_roundg g
        case measure => omega
        case rel => exact ⟨i + 1, by omega, by go_num, Hall2, Hc1, Hb1.out⟩
set_option maxRecDepth 100000 in
theorem anyField_any {f : FuncId} {cap : Value} {Cap : World → Prop} {p : GField → Bool} {OK : GField → Prop} (enter : ∀ (a : Array Value) (w : World), (callFunc f a).run Tryz.prog w = .ok (.enter f a) w)
    (keepC : ∀ w w' : World, Cap w → Below w.heap.size w w' → Cap w')
    (clo : ∀ (x : GField) (w : World), FieldR w [.string x.name, .int .i64 x.part] x → OK x → Cap w → Calls Tryz.prog f #[.agg #[.string x.name, .int .i64 x.part], cap] w fun e w' => e = .returned (.bool (p x)) ∧ Below w.heap.size w w')
    (v : Value) (l : List GField) (w : World) (h : RowAt FieldR 2 w v l) (hl : l.length ≤ 1073741824) (hok : ∀ x ∈ l, OK x) (hc : Cap w) : Calls Tryz.prog 116 #[v, .func (.func f) #[] #[cap]] w fun e w' => e = .returned (.bool (l.any p)) ∧ Below w.heap.size w w' := by
  have H := Lib.hid (idxField_any enter keepC clo v l w h hl hok hc)
  obtain ⟨B, HB⟩ : ∃ B, Hid (l.any p = B) := ⟨_, Lib.hid rfl⟩
  rw [HB.out]
  clear h hc clo keepC enter
  go_enter Tryz.func116, Tryz.ntmps116
  go_wp2_with fail
  refine H.out.mono ?_
  rintro E w1 ⟨n, rfl, hn, hb⟩
  rw [HB.out] at hn
  have Hb := Lib.hid hb
  have Hn := Lib.hid hn
  clear hb hn H
  go_wp2_with fail
  go_ret
  exact ⟨congrArg (fun b => Ending.returned (Value.bool b)) Hn.out, Hb.out⟩
end Go.Proofs.YtnmhjabihfhobaaGreatDoor
namespace Go.Proofs.YtnmhjabihfhobaaGreatDoor
namespace Sch
open Go.RowKit
open JP (JV Bs)
def SmallP (p : GPart) : Prop := p.fields.length ≤ 1048576 ∧ total p.need ≤ 1048576 ∧ p.enum.length ≤ 1048576 ∧ (∀ d ∈ p.enum, d.size ≤ 1048576) ∧ p.deflt.size ≤ 1048576
/-- the parts lie there -/
structure Lies (S : List GPart) (sv : Value) (w0 : World) : Prop where
  row : RowAt PartR 9 w0 sv S
  small : ∀ p ∈ S, SmallP p
  env : Env w0
theorem Lies.below {S : List GPart} {sv : Value} {w0 w : World} (h : Lies S sv w0) (hb : Below w0.heap.size w0 w) : Lies S sv w := ⟨h.row.keep stays_part (keeps_below hb), h.small, h.env.below hb⟩
/-- a part in its cells -/
structure PartIn (S : List GPart) (w0 : World) (i : Nat) (p : GPart) (b o : Nat) (fa : Option Addr) (fn fc : Nat) (na : Option Addr) (nn nc : Nat) (ea : Option Addr) (en ec : Nat) : Prop where
  at_ : S[i]? = some p
  blk : b < w0.heap.size
  c0 : w0.cell? ⟨b, o, none⟩ = some (.int .i64 p.kind)
  c1 : w0.cell? ⟨b, o + 1, none⟩ = some (.slice fa fn fc)
  c2 : w0.cell? ⟨b, o + 2, none⟩ = some (.slice na nn nc)
  c3 : w0.cell? ⟨b, o + 3, none⟩ = some (.bool p.extra)
  c4 : w0.cell? ⟨b, o + 4, none⟩ = some (.int .i64 p.items)
  c5 : w0.cell? ⟨b, o + 5, none⟩ = some (.int .i64 p.least)
  c6 : w0.cell? ⟨b, o + 6, none⟩ = some (.int .i64 p.most)
  c7 : w0.cell? ⟨b, o + 7, none⟩ = some (.slice ea en ec)
  c8 : w0.cell? ⟨b, o + 8, none⟩ = some (.string p.deflt)
  fields : RowAt FieldR 2 w0 (.slice fa fn fc) p.fields
  need : StrAt w0 (.slice na nn nc) p.need
  enum : StrAt w0 (.slice ea en ec) p.enum
  fl : p.fields.length = fn
  nl : p.need.length = nn
  el : p.enum.length = en
theorem Lies.part {S : List GPart} {sa : Option Addr} {sn sc : Nat} {w0 : World} (h : Lies S (.slice sa sn sc) w0) {i : Nat} (hi : i < S.length) :
    ∃ b o p fa fn fc na nn nc ea en ec, sa = some ⟨b, o, none⟩ ∧ sn = S.length ∧ PartIn S w0 i p b (o + i * 9) fa fn fc na nn nc ea en ec := by
  obtain ⟨p, hp⟩ : ∃ p, S[i]? = some p := ⟨S[i], List.getElem?_eq_getElem hi⟩
  obtain ⟨b, o, c', hv, _, _, hbs, hcell⟩ := h.row.form (by omega) (by omega)
  injection hv with u1 u2 u3
  obtain ⟨ds, _, hcc, v1, v2, v7, hds, _, h1, h2, _, _, _, h7⟩ := hcell i p hp
  subst hds
  obtain ⟨fa, fc, rfl, _⟩ := h1.len
  obtain ⟨na, nc, rfl, _⟩ := h2.row.len
  obtain ⟨ea, ec, rfl, _⟩ := h7.row.len
  exact ⟨b, o, p, fa, _, fc, na, _, nc, ea, _, ec, u1, u2, hp, hbs, by simpa using hcc 0 _ rfl, hcc 1 _ rfl, hcc 2 _ rfl, hcc 3 _ rfl, hcc 4 _ rfl, hcc 5 _ rfl, hcc 6 _ rfl, hcc 7 _ rfl, hcc 8 _ rfl, h1, h2, h7, rfl, rfl, rfl⟩
/-- the value that is looked for -/
def CapV (gb : Nat) (x : JV) (w : World) : Prop := ∃ v n, w.heap[gb]? = some (.cells #[v] 53 (0, 0)) ∧ JvAt n [] w v x ∧ TabOK w
theorem capV_keep (gb : Nat) (x : JV) (w w' : World) (h : CapV gb x w) (hb : Below w.heap.size w w') : CapV gb x w' := by
  obtain ⟨v, n, h1, h2, h3⟩ := h
  exact ⟨v, n, below_block hb h1, h2.below hb, h3.below hb⟩
set_option maxRecDepth 100000 in
set_option maxHeartbeats 1600000 in
theorem cloEnum_any (gb : Nat) (x : JV) (hx : (JP.text x).length ≤ 20000) (d : ByteArray) (w : World) (hd : d.size ≤ 1048576) (he : readE d = 0) (hc : CapV gb x w) :
    Calls Tryz.prog 77 #[.string d, .pointer (some ⟨gb, 0, none⟩)] w fun e w' => e = .returned (.bool (decide (JP.text x = JP.text (JP.readL d.data.toList).1))) ∧ Below w.heap.size w w' := by
  have HR := Lib.hid (read_any d w hd)
  have hz := (JP.read_fit' (a := d.data.toList) he).2.2.2
  obtain ⟨y, hy⟩ : ∃ y, (JP.readL d.data.toList).1 = y := ⟨_, rfl⟩
  rw [hy] at HR hz ⊢
  obtain ⟨e0, he0⟩ : ∃ y, (JP.readL d.data.toList).2 = y := ⟨_, rfl⟩
  rw [he0] at HR
  have HC := Lib.hid hc
  obtain ⟨bb, hbb⟩ : ∃ b, decide (JP.text x = JP.text y) = b := ⟨_, rfl⟩
  rw [hbb]
  have Hbb := Lib.hid hbb
  clear hd he hc hy he0 hbb
  go_enter Tryz.func77, Tryz.ntmps77
  go_wp2_with fail
  refine HR.out.mono ?_
  rintro E w1 ⟨u, rfl, ⟨n1, hu⟩, hb⟩
  obtain ⟨v, n, h1, h2, h3⟩ := capV_keep gb x w w1 HC.out hb
  have c0 := cell_block h1 0
  have hS := same_any h2 hu (by omega) (by omega) h3
  rw [Hbb.out] at hS
  have HS := Lib.hid hS
  have HB := Lib.hid hb
  clear h1 h2 h3 hu hb hS HR HC
  go_wp2_with fail
  refine HS.out.mono ?_
  rintro E w2 ⟨rfl, hb⟩
  have HB2 := Lib.hid (HB.out.trans (hb.mono HB.out.size))
  clear hb
  go_wp2_with fail
  go_ret
  exact ⟨rfl, HB2.out⟩
end Sch
end Go.Proofs.YtnmhjabihfhobaaGreatDoor
