/- Texts of ours joined. -/
import Derived.Shelf.SlLaysF0
import Derived.Test.YtdcmnpeabjallaaGreatDoorProg
import Derived.Lib.LastIndexByte
import Derived.Lib.Strings
import Derived.Test.YtdcmnpeabjallaaGreatDoorShelf
import Derived.WalkSpells
import Derived.Deep.LoopGhost
import Derived.Maps.OwnSet
import Derived.Maps.RangeWalk
import Derived.Below
import Derived.Test.YtdcmnpeabjallaaGreatDoorMz6
set_option linter.unusedVariables false
set_option linter.unusedSimpArgs false
namespace Go.Proofs.YtdcmnpeabjallaaGreatDoor
open Go.Shelf
def Tryz.ownedSort_ren : Go.Shelf.Ren := ⟨fun | 6 => 71 | 15 => 89 | 14 => 106 | 28 => 127 | 29 => 128 | 20 => 142 | 21 => 143 | 22 => 144 | 23 => 145 | 24 => 146 | 25 => 147 | 26 => 148 | 27 => 149 | 46 => 174 | 47 => 160 | 48 => 161 | 49 => 175 | 50 => 176 | 57 => 195 | n => n, fun | 22 => 22 | 24 => 30 | 25 => 105 | 3 => 3 | 39 => 124 | 0 => 0 | 53 => 162 | 55 => 164 | 4 => 4 | 46 => 156 | 45 => 155 | 50 => 133 | 5 => 5 | 9 => 9 | 66 => 186 | 70 => 190 | 76 => 206 | 77 => 106 | n => n, fun | n => n⟩
theorem Tryz.ownedSort : Go.Proofs.SlLaysF0.n6 Tryz.prog Tryz.ownedSort_ren := {
  mixed := by kernel_rfl
  f6 := ⟨Tryz.f71.name, by decide, Tryz.func71.trans (congrArg some (by kernel_rfl))⟩
  f14 := ⟨Tryz.f106.name, by decide, Tryz.func106.trans (congrArg some (by kernel_rfl))⟩
  f15 := Tryz.func89.trans (congrArg some (by kernel_rfl))
  f20 := ⟨Tryz.f142.name, by decide, Tryz.func142.trans (congrArg some (by kernel_rfl))⟩
  f21 := ⟨Tryz.f143.name, by decide, Tryz.func143.trans (congrArg some (by kernel_rfl))⟩
  f22 := ⟨Tryz.f144.name, by decide, Tryz.func144.trans (congrArg some (by kernel_rfl))⟩
  f23 := ⟨Tryz.f145.name, by decide, Tryz.func145.trans (congrArg some (by kernel_rfl))⟩
  f24 := ⟨Tryz.f146.name, by decide, Tryz.func146.trans (congrArg some (by kernel_rfl))⟩
  f25 := ⟨Tryz.f147.name, by decide, Tryz.func147.trans (congrArg some (by kernel_rfl))⟩
  f26 := ⟨Tryz.f148.name, by decide, Tryz.func148.trans (congrArg some (by kernel_rfl))⟩
  f27 := ⟨Tryz.f149.name, by decide, Tryz.func149.trans (congrArg some (by kernel_rfl))⟩
  f28 := Tryz.func127.trans (congrArg some (by kernel_rfl))
  f29 := Tryz.func128.trans (congrArg some (by kernel_rfl))
  f46 := ⟨Tryz.f174.name, by decide, Tryz.func174.trans (congrArg some (by kernel_rfl))⟩
  f47 := Tryz.func160.trans (congrArg some (by kernel_rfl))
  f48 := Tryz.func161.trans (congrArg some (by kernel_rfl))
  f49 := ⟨Tryz.f175.name, by decide, Tryz.func175.trans (congrArg some (by kernel_rfl))⟩
  f50 := ⟨Tryz.f176.name, by decide, Tryz.func176.trans (congrArg some (by kernel_rfl))⟩
  f57 := ⟨Tryz.f195.name, by decide, Tryz.func195.trans (congrArg some (by kernel_rfl))⟩
  t0 := Tryz.underlying0
  a0 := Tryz.isAgg0
  z0 := Tryz.sizeOf0
  v0 := Tryz.zeroValue0
  t3 := Tryz.underlying3
  a3 := Tryz.isAgg3
  z3 := Tryz.sizeOf3
  v3 := Tryz.zeroValue3
  t4 := Tryz.underlying4
  a4 := Tryz.isAgg4
  z4 := Tryz.sizeOf4
  v4 := Tryz.zeroValue4
  t5 := Tryz.underlying5
  a5 := Tryz.isAgg5
  z5 := Tryz.sizeOf5
  v5 := Tryz.zeroValue5
  t9 := Tryz.underlying9
  a9 := Tryz.isAgg9
  z9 := Tryz.sizeOf9
  v9 := Tryz.zeroValue9
  t22 := Tryz.underlying22
  a22 := Tryz.isAgg22
  z22 := Tryz.sizeOf22
  v22 := Tryz.zeroValue22
  t25 := Tryz.underlying105
  a25 := Tryz.isAgg105
  z25 := Tryz.sizeOf105
  v25 := Tryz.zeroValue105
  t39 := Tryz.underlying124
  a39 := Tryz.isAgg124
  z39 := Tryz.sizeOf124
  v39 := Tryz.zeroValue124
  t45 := Tryz.underlying155
  a45 := Tryz.isAgg155
  z45 := Tryz.sizeOf155
  v45 := Tryz.zeroValue155
  t46 := Tryz.underlying156
  a46 := Tryz.isAgg156
  z46 := Tryz.sizeOf156
  v46 := Tryz.zeroValue156
  t50 := Tryz.underlying133
  a50 := Tryz.isAgg133
  z50 := Tryz.sizeOf133
  v50 := Tryz.zeroValue133
  t53 := Tryz.underlying162
  a53 := Tryz.isAgg162
  z53 := Tryz.sizeOf162
  v53 := Tryz.zeroValue162
  t55 := Tryz.underlying164
  a55 := Tryz.isAgg164
  z55 := Tryz.sizeOf164
  v55 := Tryz.zeroValue164
  t66 := Tryz.underlying186
  a66 := Tryz.isAgg186
  z66 := Tryz.sizeOf186
  v66 := Tryz.zeroValue186
  t70 := Tryz.underlying190
  a70 := Tryz.isAgg190
  z70 := Tryz.sizeOf190
  v70 := Tryz.zeroValue190
  t76 := Tryz.underlying206
  a76 := Tryz.isAgg206
  z76 := Tryz.sizeOf206
  v76 := Tryz.zeroValue206
  t77 := Tryz.underlying106
  a77 := Tryz.isAgg106
  z77 := Tryz.sizeOf106
  v77 := Tryz.zeroValue106 }
end Go.Proofs.YtdcmnpeabjallaaGreatDoor
namespace Go.Proofs.YtdcmnpeabjallaaGreatDoor
open Go.RowKit
open JP (JV Bs)
namespace JP
variable {d p q v w : Bs}
end JP
namespace JP
theorem fit_one : Fit (.num 1) := ⟨by rw [wf]; exact ⟨by decide, by decide⟩, by decide, by decide, by decide +kernel⟩
theorem read_one : readL [49] = (.num 1, 0) := by have := fit_read fit_one; rw [show text (.num 1) = [49] from by decide +kernel] at this; exact this
end JP
end Go.Proofs.YtdcmnpeabjallaaGreatDoor
namespace Go.Proofs.YtdcmnpeabjallaaGreatDoor
open Go.RowKit
open JP (JV Bs)
namespace JP
def atO (v : JV) : List Bs → Option JV
  | [] => some v
  | s :: r => (get s (fieldsOf v)).bind fun c => atO c r
def setV (v : JV) : List Bs → JV → JV
  | [], w => w
  | s :: r, w => .obj (put s (setV (gto s (fieldsOf v)) r w) (fieldsOf v))
def Div (a b : List Bs) : Prop := ¬ a <+: b ∧ ¬ b <+: a
theorem atO_nil (v : JV) : atO v [] = some v := by rw [atO]
theorem atO_cons (v : JV) (s : Bs) (r : List Bs) : atO v (s :: r) = (get s (fieldsOf v)).bind fun c => atO c r := by rw [atO]
theorem setV_nil (v w : JV) : setV v [] w = w := by rw [setV]
theorem setV_cons (v : JV) (s : Bs) (r : List Bs) (w : JV) : setV v (s :: r) w = .obj (put s (setV (gto s (fieldsOf v)) r w) (fieldsOf v)) := by rw [setV]
theorem atW_cons' (v : JV) (s : Bs) (r : List Bs) : atW v (s :: r) = (child v s).bind fun c => atW c r := by rw [atW]
theorem get_obj {v c : JV} {s : Bs} (h : get s (fieldsOf v) = some c) : ∃ l, v = .obj l ∧ get s l = some c := by
  cases v with
  | obj l => exact ⟨l, rfl, h⟩
  | _ => unfold fieldsOf at h; rw [get] at h; cases h
theorem child_of {v c : JV} {s : Bs} (h : get s (fieldsOf v) = some c) : child v s = some c := by
  obtain ⟨l, rfl, h1⟩ := get_obj h
  exact h1
theorem atO_atW : ∀ {r : List Bs} {v x : JV}, atO v r = some x → atW v r = some x
  | [], v, x, h => by rw [atO] at h; rw [atW]; exact h
  | s :: r, v, x, h => by
    rw [atO_cons] at h
    cases hg : get s (fieldsOf v) with
    | none => rw [hg] at h; cases h
    | some c =>
      rw [hg] at h
      rw [atW_cons', child_of hg]
      exact atO_atW h
theorem Div.symm {a b : List Bs} (h : Div a b) : Div b a := ⟨h.2, h.1⟩
theorem fields_wfS {v : JV} (h : wfS v) : Srt (fieldsOf v) ∧ wfSF (fieldsOf v) := by
  cases v with
  | obj l => exact wfS_obj h
  | _ => exact ⟨List.Pairwise.nil, by unfold fieldsOf; rw [wfSF]; trivial⟩
theorem gto_wfS {v : JV} (h : wfS v) (s : Bs) : wfS (gto s (fieldsOf v)) := by
  unfold gto
  cases hg : get s (fieldsOf v) with
  | none => show wfS .nul; rw [wfS]; trivial
  | some c => exact wfS_at (fields_wfS h).2 hg
theorem set_wfS : ∀ (r : List Bs) (v w : JV), wfS v → wfS w → wfS (setV v r w)
  | [], v, w, _, hw => by rw [setV]; exact hw
  | s :: r, v, w, hv, hw => by
    rw [setV_cons, wfS]
    exact ⟨put_srt (fields_wfS hv).1, putS_wf (set_wfS r _ w (gto_wfS hv s) hw) (fields_wfS hv).2⟩
end JP
end Go.Proofs.YtdcmnpeabjallaaGreatDoor
namespace Go.Proofs.YtdcmnpeabjallaaGreatDoor
open Go.RowKit
open JP (JV Bs)
namespace JP
end JP
end Go.Proofs.YtdcmnpeabjallaaGreatDoor
namespace Go.Proofs.YtdcmnpeabjallaaGreatDoor
open Go.RowKit
open JP (JV Bs)
namespace JP
theorem at_deep : ∀ {l : List Bs} {v c : JV}, atW v l = some c → l.length + deep c ≤ deep v
  | [], v, c, h => by rw [atW] at h; cases h; simp
  | s :: r, v, c, h => by
    rw [atW_cons] at h
    obtain ⟨x, h1, h2⟩ := Option.bind_eq_some_iff.1 h
    have := at_deep h2
    have := (child_len h1).2.2
    rw [List.length_cons]; omega
end JP
end Go.Proofs.YtdcmnpeabjallaaGreatDoor
namespace Go.Proofs.YtdcmnpeabjallaaGreatDoor.NameP
def edge (c : Nat) : Bool := decide (97 ≤ c ∧ c ≤ 122) || decide (65 ≤ c ∧ c ≤ 90) || decide (48 ≤ c ∧ c ≤ 57)
def low (c : Nat) : Bool := edge c && (decide (c < 65) || decide (90 < c))
def dash (c : Nat) : Bool := c == 45
def made (e v : Nat → Bool) (l : List UInt8) : Bool :=
  match l with
  | [] => false
  | x :: r => e x.toNat && e ((x :: r).getLast (by simp)).toNat && (x :: r).all fun c => e c.toNat || v c.toNat
def isName (l : List UInt8) : Bool := made low dash l
def judge (n most : Nat) (is : Bool) : Int := if most < n then 2 else if is then 0 else 6
def check (l : List UInt8) : Int := judge l.length 63 (isName l)
end Go.Proofs.YtdcmnpeabjallaaGreatDoor.NameP
namespace Go.Proofs.YtdcmnpeabjallaaGreatDoor
open Go.RowKit
open JP (JV Bs)
theorem bs_total {a b : Bs} (h1 : ¬ a < b) (h2 : ¬ b < a) : a = b := List.le_antisymm (List.not_lt.1 h2) (List.not_lt.1 h1)
theorem rise_eq {α : Type} {R : α → α → Prop} (hi : ∀ a, ¬ R a a) (ht : ∀ a b c, R a b → R b c → R a c) : ∀ {l m : List α}, l.Pairwise R → m.Pairwise R → (∀ x, x ∈ l ↔ x ∈ m) → l = m
  | [], [], _, _, _ => rfl
  | [], b :: m, _, _, h => by have := (h b).2 (List.mem_cons_self ..); cases this
  | a :: l, [], _, _, h => by have := (h a).1 (List.mem_cons_self ..); cases this
  | a :: l, b :: m, h1, h2, h => by
    obtain ⟨p1, p2⟩ := List.pairwise_cons.1 h1
    obtain ⟨q1, q2⟩ := List.pairwise_cons.1 h2
    have e : a = b := by
      rcases List.mem_cons.1 ((h a).1 (List.mem_cons_self ..)) with e | ha
      · exact e
      · rcases List.mem_cons.1 ((h b).2 (List.mem_cons_self ..)) with e | hb
        · exact e.symm
        · exact absurd (ht _ _ _ (p1 b hb) (q1 a ha)) (hi _)
    subst e
    congr 1
    refine rise_eq hi ht p2 q2 fun x => ⟨fun hx => ?_, fun hx => ?_⟩
    · rcases List.mem_cons.1 ((h x).1 (List.mem_cons_of_mem _ hx)) with e | h9
      · exact absurd (e ▸ p1 x hx) (hi _)
      · exact h9
    · rcases List.mem_cons.1 ((h x).2 (List.mem_cons_of_mem _ hx)) with e | h9
      · exact absurd (e ▸ q1 x hx) (hi _)
      · exact h9
namespace JP
abbrev Lf := List Bs × JV
abbrev OwnP := Bs × List Bs
theorem mem_gatF' : ∀ {l : Fs} {way : List Bs} {p : Lf}, p ∈ gatF way l → ∃ n w, (n, w) ∈ l ∧ p ∈ gat (way ++ [n]) w
  | [], _, _, h => by rw [gatF] at h; cases h
  | (n, w) :: r, way, p, h => by
    rw [gatF] at h
    rcases List.mem_append.1 h with h | h
    · exact ⟨n, w, List.mem_cons_self .., h⟩
    · obtain ⟨m, v, h1, h2⟩ := mem_gatF' h
      exact ⟨m, v, List.mem_cons_of_mem _ h1, h2⟩
theorem leaf_there : ∀ want : JV, ∀ base : List Bs, Fit want → ∀ p ∈ gat base want, ∃ r, p.1 = base ++ r ∧ atO want r = some p.2 ∧ Fit p.2 ∧ (r = [] → base ≠ [] ∨ ∀ l, want ≠ .obj l) := by
  refine JV.byGet (P := fun want => ∀ base : List Bs, Fit want → ∀ p ∈ gat base want, ∃ r, p.1 = base ++ r ∧ atO want r = some p.2 ∧ Fit p.2 ∧ (r = [] → base ≠ [] ∨ ∀ l, want ≠ .obj l)) (fun want ih => ?_)
  · intro base hf p hp
    rcases obj_or want with ⟨o, rfl⟩ | hn
    · obtain ⟨so, fo⟩ := wf_obj hf.1
      rw [gat] at hp
      by_cases ho : o.isEmpty = true
      · rw [if_pos ho] at hp
        have : o = [] := by simpa using ho
        subst this
        by_cases hb : base.isEmpty = true
        · rw [if_pos hb] at hp; cases hp
        · rw [if_neg hb] at hp
          obtain rfl := List.mem_singleton.1 hp
          exact ⟨[], by simp, atO_nil _, hf, fun _ => .inl (by intro e; rw [e] at hb; exact hb rfl)⟩
      · rw [if_neg ho] at hp
        obtain ⟨n, w, k1, k2⟩ := mem_gatF' hp
        have hg := get_memS so k1
        obtain ⟨r, e1, e2, e3, _⟩ := ih o n w rfl hg (base ++ [n]) (fit_at hf hg) p k2
        refine ⟨n :: r, by rw [e1, List.append_assoc]; rfl, ?_, e3, fun h => by cases h⟩
        rw [atO_cons]
        show (get n o).bind _ = _
        rw [hg]; exact e2
    · rw [gat_other hn] at hp
      obtain rfl := List.mem_singleton.1 hp
      exact ⟨[], by simp, atO_nil _, hf, fun _ => .inr hn⟩
theorem pre_div {base : List Bs} {n m : Bs} {a b : List Bs} (h : n ≠ m) : Div (base ++ n :: a) (base ++ m :: b) :=
  ⟨fun h1 => h (List.cons_prefix_cons.1 ((List.prefix_append_right_inj base).1 h1)).1, fun h1 => h (List.cons_prefix_cons.1 ((List.prefix_append_right_inj base).1 h1)).1.symm⟩
theorem gatF_div (base : List Bs) : ∀ {l : Fs}, Srt l → (∀ n w, (n, w) ∈ l → Fit w ∧ (gat (base ++ [n]) w).Pairwise fun x y : Lf => Div x.1 y.1) → (gatF base l).Pairwise fun x y : Lf => Div x.1 y.1
  | [], _, _ => by rw [gatF]; exact List.Pairwise.nil
  | (n, w) :: r, hs, h => by
    obtain ⟨s1, s2⟩ := List.pairwise_cons.1 hs
    rw [gatF, List.pairwise_append]
    refine ⟨(h n w (List.mem_cons_self ..)).2, gatF_div base s2 fun m v hm => h m v (List.mem_cons_of_mem _ hm), fun x hx y hy => ?_⟩
    obtain ⟨m, v, k1, k2⟩ := mem_gatF' hy
    obtain ⟨a, e1, _⟩ := leaf_there w (base ++ [n]) (h n w (List.mem_cons_self ..)).1 x hx
    obtain ⟨b, e2, _⟩ := leaf_there v (base ++ [m]) (h m v (List.mem_cons_of_mem _ k1)).1 y k2
    rw [e1, e2, List.append_assoc, List.append_assoc]
    exact pre_div (fun e => by have := s1 _ k1; rw [e] at this; exact bs_irrefl _ this)
theorem gat_div : ∀ want : JV, ∀ base : List Bs, Fit want → (gat base want).Pairwise fun x y : Lf => Div x.1 y.1 := by
  refine JV.byGet (P := fun want => ∀ base : List Bs, Fit want → (gat base want).Pairwise fun x y : Lf => Div x.1 y.1) (fun want ih => ?_)
  intro base hf
  rcases obj_or want with ⟨o, rfl⟩ | hn
  · obtain ⟨so, fo⟩ := wf_obj hf.1
    rw [gat]
    split
    · split
      · exact List.Pairwise.nil
      · exact List.pairwise_singleton _ _
    · refine gatF_div base so fun n w h => ?_
      have hg := get_memS so h
      exact ⟨fit_at hf hg, ih o n w rfl hg (base ++ [n]) (fit_at hf hg)⟩
  · rw [gat_other hn]; exact List.pairwise_singleton _ _
def pathL (x : Lf) : Bs := joinK x.1
def IsLeaves (W : List Lf) (want : JV) : Prop := W.Perm (gat [] want) ∧ W.Pairwise fun x y => pathL x < pathL y
theorem path_irrefl (a : Lf) : ¬ pathL a < pathL a := bs_irrefl _
theorem leaves_one {W V : List Lf} {want : JV} (h : IsLeaves W want) (k : IsLeaves V want) : W = V :=
  rise_eq (R := fun x y : Lf => pathL x < pathL y) path_irrefl (fun _ _ _ => bs_trans) h.2 k.2 fun _ => (h.1.mem_iff).trans (k.1.mem_iff).symm
structure LeafOK (want : JV) (x : Lf) : Prop where
  at' : atO want x.1 = some x.2
  fit : Fit x.2
  ne : x.1 ≠ []
  len : x.1.length ≤ 10
def touchB (p q : Bs) : Bool := p == q || Lib.hasPrefix p (q ++ [47]) || Lib.hasPrefix q (p ++ [47])
open Classical in
noncomputable def barsB (live : JV) (x : Lf) (p : Bs) : Bool := touchB p (pathL x) && !(p == pathL x && decide (atW live x.1 = some x.2))
def GoodPaths (l : List Bs) : Prop := l ≠ [] ∧ l.Pairwise (· < ·) ∧ ∀ p ∈ l, ∃ k, stepsP p = (0, k) ∧ k ≠ []
def GoodO (l : List OwnP) : Prop := l.length ≤ 6 ∧ l.Pairwise (fun a b => a.1 < b.1) ∧ ∀ x ∈ l, NameP.check x.1 = 0 ∧ GoodPaths x.2
def had (l : List OwnP) (m : Bs) : List Bs := ((l.find? fun y => y.1 == m).map (·.2)).getD []
def othersB (l : List OwnP) (m : Bs) (like : Bs → Bool) : Bool := l.any fun y => y.1 != m && y.2.any like
noncomputable def confL (live : JV) (l : List OwnP) (m : Bs) (W : List Lf) : List Lf := W.filter fun x => othersB l m (barsB live x)
noncomputable def seizeL (live : JV) (m : Bs) (W : List Lf) (l : List OwnP) : List OwnP := l.map fun y => if y.1 = m then y else (y.1, y.2.filter fun p => !(W.any fun x => barsB live x p))
def cutP (v : JV) (p : Bs) : JV := (cutW v (stepsP p).2).getD v
def dropV (live : JV) (l : List OwnP) (m : Bs) (W : List Lf) (ps : List Bs) : JV := ps.foldl (fun v p => if W.any (fun x => pathL x == p) || othersB l m (touchB p) then v else cutP v p) live
def setsV (v : JV) (W : List Lf) : JV := W.foldl (fun v x => setV v x.1 x.2) v
noncomputable def outV (live : JV) (l : List OwnP) (m : Bs) (W : List Lf) : JV := setsV (dropV live (seizeL live m W l) m W (had l m)) W
def putM (m : Bs) (ps : List Bs) (l : List OwnP) : List OwnP := (l.filter fun y => decide (y.1 < m)) ++ (m, ps) :: l.filter fun y => decide (m < y.1)
noncomputable def finL (live : JV) (l : List OwnP) (m : Bs) (W : List Lf) : List OwnP := (putM m (W.map pathL) (seizeL live m W l)).filter fun y => !y.2.isEmpty
def AppOK (live want : Bs) (l : List OwnP) (m : Bs) : Prop := (readL live).2 = 0 ∧ GoodO l ∧ NameP.check m = 0 ∧ (readL want).2 = 0 ∧ kind (readL live).1 = 6 ∧ kind (readL want).1 = 6
structure ApplyIs (live : Bs) (l : List OwnP) (m want : Bs) (force : Bool) (s : Bs) (L : List OwnP) (bad : List Bs) (e : Int) : Prop where
  no : e ≠ 0 → s = [] ∧ L = []
  clash : bad ≠ [] ∨ e = 11 → e = 11 ∧ force = false ∧ AppOK live want l m ∧ ∃ W, IsLeaves W (readL want).1 ∧ bad = (confL (readL live).1 l m W).map pathL ∧ bad ≠ []
  yes : e = 0 → AppOK live want l m ∧ ∃ W, IsLeaves W (readL want).1 ∧ (confL (readL live).1 l m W = [] ∨ force = true) ∧ (finL (readL live).1 l m W).length ≤ 6 ∧ tellE (outV (readL live).1 l m W) = 0 ∧ s = tellT (outV (readL live).1 l m W) ∧ L = finL (readL live).1 l m W
  must : ∀ W, AppOK live want l m → IsLeaves W (readL want).1 → (confL (readL live).1 l m W = [] ∨ force = true) → (finL (readL live).1 l m W).length ≤ 6 → tellE (outV (readL live).1 l m W) = 0 → e = 0
end JP
end Go.Proofs.YtdcmnpeabjallaaGreatDoor
namespace Go.Proofs.YtdcmnpeabjallaaGreatDoor
open Go.RowKit
open JP (JV Bs)
namespace JP
theorem had_mem {l : List OwnP} (hs : l.Pairwise fun a b => a.1 < b.1) {y : OwnP} (hy : y ∈ l) : had l y.1 = y.2 := by
  unfold had
  cases hf : l.find? (fun z => z.1 == y.1) with
  | none => exact absurd (beq_self_eq_true y.1) (by simpa using List.find?_eq_none.1 hf y hy)
  | some z =>
    have h1 := List.mem_of_find?_eq_some hf
    have h2 : z.1 = y.1 := eq_of_beq (List.find?_some (p := fun z : OwnP => z.1 == y.1) hf)
    have : z = y := by
      obtain ⟨i, hi, rfl⟩ := List.getElem_of_mem h1
      obtain ⟨j, hj, rfl⟩ := List.getElem_of_mem hy
      rcases Nat.lt_trichotomy i j with h | h | h
      · have := List.pairwise_iff_getElem.1 hs i j hi hj h
        rw [h2] at this; exact absurd this (bs_irrefl _)
      · subst h; rfl
      · have := List.pairwise_iff_getElem.1 hs j i hj hi h
        rw [h2] at this; exact absurd this (bs_irrefl _)
    rw [this]; rfl
theorem had_cases (l : List OwnP) (m : Bs) : (∃ y ∈ l, y.1 = m ∧ had l m = y.2) ∨ had l m = [] := by
  unfold had
  cases hf : l.find? (fun z => z.1 == m) with
  | none => exact .inr rfl
  | some z => exact .inl ⟨z, List.mem_of_find?_eq_some hf, eq_of_beq (List.find?_some (p := fun z : OwnP => z.1 == m) hf), rfl⟩
theorem seize_mem {live : JV} {m : Bs} {W : List Lf} {l : List OwnP} {y : OwnP} (h : y ∈ seizeL live m W l) : ∃ z ∈ l, z.1 = y.1 ∧ ((y.1 = m ∧ y.2 = z.2) ∨ (y.1 ≠ m ∧ y.2 = z.2.filter fun p => !(W.any fun x => barsB live x p))) := by
  unfold seizeL at h
  obtain ⟨z, hz, rfl⟩ := List.mem_map.1 h
  refine ⟨z, hz, ?_⟩
  split
  · rename_i e; exact ⟨rfl, .inl ⟨e, rfl⟩⟩
  · rename_i e; exact ⟨rfl, .inr ⟨e, rfl⟩⟩
theorem seize_rise {live : JV} {m : Bs} {W : List Lf} {l : List OwnP} (hs : l.Pairwise fun a b => a.1 < b.1) : (seizeL live m W l).Pairwise fun a b => a.1 < b.1 := by
  unfold seizeL
  rw [List.pairwise_map]
  refine hs.imp fun {a b} h => ?_
  split <;> split <;> exact h
theorem putM_mem {m : Bs} {ps : List Bs} {l : List OwnP} {y : OwnP} : y ∈ putM m ps l ↔ y = (m, ps) ∨ (y ∈ l ∧ y.1 ≠ m) := by
  unfold putM
  simp only [List.mem_append, List.mem_filter, List.mem_cons, decide_eq_true_iff]
  constructor
  · rintro (⟨h1, h2⟩ | h | ⟨h1, h2⟩)
    · exact .inr ⟨h1, fun e => bs_irrefl m (e ▸ h2)⟩
    · exact .inl h
    · exact .inr ⟨h1, fun e => bs_irrefl m (e ▸ h2)⟩
  · rintro (h | ⟨h1, h2⟩)
    · exact .inr (.inl h)
    · by_cases h3 : y.1 < m
      · exact .inl ⟨h1, h3⟩
      · refine .inr (.inr ⟨h1, ?_⟩)
        exact Classical.byContradiction fun h4 => h2 (bs_total h3 h4)
theorem putM_rise {m : Bs} {ps : List Bs} {l : List OwnP} (hs : l.Pairwise fun a b => a.1 < b.1) : (putM m ps l).Pairwise fun a b => a.1 < b.1 := by
  unfold putM
  rw [List.pairwise_append, List.pairwise_cons]
  refine ⟨hs.filter _, ⟨fun b hb => ?_, hs.filter _⟩, fun a ha b hb => ?_⟩
  · simpa using (List.mem_filter.1 hb).2
  · have h1 : a.1 < m := by simpa using (List.mem_filter.1 ha).2
    rcases List.mem_cons.1 hb with rfl | hb
    · exact h1
    · exact bs_trans h1 (by simpa using (List.mem_filter.1 hb).2)
theorem fin_mem {live : JV} {l : List OwnP} {m : Bs} {W : List Lf} {y : OwnP} : y ∈ finL live l m W ↔ y.2 ≠ [] ∧ (y = (m, W.map pathL) ∨ (y ∈ seizeL live m W l ∧ y.1 ≠ m)) := by
  unfold finL
  rw [List.mem_filter, putM_mem]
  constructor
  · rintro ⟨h1, h2⟩; exact ⟨by intro e; rw [e] at h2; simp at h2, h1⟩
  · rintro ⟨h1, h2⟩; exact ⟨h2, by cases hy : y.2 with | nil => exact absurd hy h1 | cons _ _ => rfl⟩
theorem fin_rise {live : JV} {l : List OwnP} {m : Bs} {W : List Lf} (hs : l.Pairwise fun a b => a.1 < b.1) : (finL live l m W).Pairwise fun a b => a.1 < b.1 := (putM_rise (seize_rise hs)).filter _
theorem own_irrefl (a : OwnP) : ¬ a.1 < a.1 := bs_irrefl _
end JP
end Go.Proofs.YtdcmnpeabjallaaGreatDoor
namespace Go.Proofs.YtdcmnpeabjallaaGreatDoor
open Go.RowKit
open JP (JV Bs)
theorem gather_all : ∀ n, GatIn n
  | 0 => fun _ _ _ _ _ _ _ _ _ h => by cases h
  | n + 1 => gather_step n (gather_all n)
theorem strX_nil (B : Nat) (w : World) : StrB B w (.slice none 0 0) [] := OwnAt.nil _
def LeavesTo (T : List Nat) (x : JV) (w : World) (e : Ending) (w' : World) : Prop := ∃ v' l', e = .returned v' ∧ l'.Perm (JP.gat [] x) ∧ Rise l' ∧ OwnAt (LeafX T w) 3 w' w.heap.size 65 v' l' ∧ Below w.heap.size w w'
set_option maxRecDepth 100000 in
set_option maxHeartbeats 3200000 in
theorem leaves_any (T : List Nat) (n : Nat) (v : Value) (x : JV) (w : World) (hv : JvAt n T w v x) (hl : JP.size x ≤ 1048576) (ht : (JP.text x).length ≤ 20000) (hm : ∃ m, MaxOK m w) :
    Calls Tryz.prog 33 #[v] w (LeavesTo T x w) := by
  have HG := Lib.hid (gather_all n T v (.slice none 0 0) (.slice none 0 0) x [] [] w w hv (strX_nil _ _) (OwnAt.nil _) (Below.refl _ _) (by simpa using hl) (by simpa using ht) hm)
  have hgl := JP.gat_len [] x
  clear hv hm ht
  go_enter Tryz.func33, Tryz.ntmps33
  go_wp2_with fail
  refine HG.out.mono ?_
  rintro E w1 ⟨v1, rfl, ho, hb, _, hz⟩
  rw [List.nil_append] at ho
  have HS := Lib.hid (leafSort_any v1 _ _ T w w1 ho hz (by omega))
  have HB := Lib.hid hb
  clear ho hb HG
  go_wp2_with fail
  refine HS.out.mono ?_
  rintro E w2 ⟨rfl, l', hp, hso, ho, hb, _⟩
  have HO := Lib.hid ho
  have HP := Lib.hid hp
  have HSo := Lib.hid hso
  have HB2 := Lib.hid (HB.out.trans hb)
  clear ho hp hso hb HS HB hz
  go_wp2_with fail
  go_ret
  exact ⟨_, l', rfl, HP.out, HSo.out, HO.out, HB2.out⟩
end Go.Proofs.YtdcmnpeabjallaaGreatDoor
namespace Go.Proofs.YtdcmnpeabjallaaGreatDoor
open Go.RowKit
open JP (JV Bs Lf)
def LeafR : Rd Leaf := fun w cs p => ∃ sv vv, cs = [.string (mkB (pathP p.1)), sv, vv] ∧ StrAt w sv (p.1.map mkB) ∧ ∃ k, JvAt k [] w vv p.2
theorem leafR_below {w w' : World} {cs : List Value} {p : Leaf} (h : LeafR w cs p) (hb : Below w.heap.size w w') : LeafR w' cs p := by
  obtain ⟨sv, vv, h1, h2, k, h3⟩ := h
  exact ⟨sv, vv, h1, h2.below hb, k, h3.below hb⟩
theorem RowAt.belowR {α : Type} {R : Rd α} {k : Nat} {w w' : World} {v : Value} {l : List α} (hR : ∀ cs x, R w cs x → R w' cs x) (h : RowAt R k w v l) (hb : Below w.heap.size w w') : RowAt R k w' v l := by
  rcases h with h | ⟨a, c, h1, h2, h3, h4⟩
  · exact .inl h
  · refine .inr ⟨a, c, h1, h2, h3, fun j x hx => ?_⟩
    obtain ⟨cs, g1, g2, g3⟩ := h4 j x hx
    exact ⟨cs, g1, fun i u hu => keeps_below hb _ _ (g2 i u hu), hR _ _ g3⟩
theorem leaves_below {w w' : World} {v : Value} {l : List Leaf} (h : RowAt LeafR 3 w v l) (hb : Below w.heap.size w w') : RowAt LeafR 3 w' v l := h.belowR (fun _ _ hx => leafR_below hx hb) hb
structure LeafFit (x : Leaf) : Prop where
  fit : JP.Fit x.2
  len : x.1.length ≤ 10
  steps : ∀ s ∈ x.1, s.length ≤ 2000
theorem LeafFit.path {x : Leaf} (h : LeafFit x) : pathP x.1 = JP.pathL x := by
  unfold pathP JP.pathL
  rw [if_neg (by have := h.len; omega)]
set_option maxRecDepth 100000 in
theorem touch_any (p q : Bs) (w : World) (hp : p.length ≤ 1048576) (hq : q.length ≤ 1048576) :
    Calls Tryz.prog 66 #[.string (mkB p), .string (mkB q)] w fun e w' => e = .returned (.bool (JP.touchB p q)) ∧ w = w' := by
  have H := Tryz.strings_HasPrefix
  have hz1 : (mkB p).size = p.length := mkB_size p
  have hz2 : (mkB q).size = q.length := mkB_size q
  have l1 : ¬ 9223372036854775807 < (mkB p).size + 1 := by omega
  have l2 : ¬ 9223372036854775807 < (mkB q).size + 1 := by omega
  have e1 : ((mkB p).toList == (mkB q).toList) = (p == q) := by rw [ByteArray.toList_eq, ByteArray.toList_eq, mkB_list, mkB_list]
  have f1 := H (mkB p) (mkB q ++ ⟨#[47]⟩)
  have f2 := H (mkB q) (mkB p ++ ⟨#[47]⟩)
  rw [show (mkB q ++ ⟨#[47]⟩ : ByteArray).data.toList = q ++ [47] by simp [mkB]] at f1
  rw [show (mkB p ++ ⟨#[47]⟩ : ByteArray).data.toList = p ++ [47] by simp [mkB]] at f2
  rw [mkB_list] at f1 f2
  unfold JP.touchB
  obtain ⟨b1, Hb1⟩ : ∃ b, Hid ((p == q) = b) := ⟨_, Lib.hid rfl⟩
  obtain ⟨b2, Hb2⟩ : ∃ b, Hid (Lib.hasPrefix p (q ++ [47]) = b) := ⟨_, Lib.hid rfl⟩
  obtain ⟨b3, Hb3⟩ : ∃ b, Hid (Lib.hasPrefix q (p ++ [47]) = b) := ⟨_, Lib.hid rfl⟩
  rw [Hb1.out] at e1 ⊢
  rw [Hb2.out] at f1 ⊢
  rw [Hb3.out] at f2 ⊢
  have F1 := Lib.hid f1
  have F2 := Lib.hid f2
  clear f1 f2 H hz1 hz2
  cases b1 with
  | true =>
    go_enter Tryz.func66, Tryz.ntmps66
    go_wp2_with fail
    go_ret
    exact ⟨rfl, rfl⟩
  | false =>
    cases b2 with
    | true =>
      go_enter Tryz.func66, Tryz.ntmps66
      go_wp2_with fail
      refine (F1.out _).mono ?_
      rintro E w1 ⟨rfl, rfl⟩
      go_wp2_with fail
      go_ret
      exact ⟨rfl, rfl⟩
    | false =>
      go_enter Tryz.func66, Tryz.ntmps66
      go_wp2_with fail
      refine (F1.out _).mono ?_
      rintro E w1 ⟨rfl, rfl⟩
      go_wp2_with fail
      refine (F2.out _).mono ?_
      rintro E w1 ⟨rfl, rfl⟩
      go_wp2_with fail
      go_ret
      exact ⟨rfl, rfl⟩
end Go.Proofs.YtdcmnpeabjallaaGreatDoor
namespace Go.Proofs.YtdcmnpeabjallaaGreatDoor
open Go.RowKit
open JP (JV Bs Lf)
def DealAt (w : World) (g : Nat) (lv mv : Value) (m : Bs) (lf : Value) : Prop := w.heap[g]? = some (.cells #[lv, mv, .string (mkB m), lf] 61 (0, 0))
theorem same_text {x y : JV} (hx : JP.Fit x) (hy : JP.Fit y) : (JP.text x = JP.text y) ↔ x = y := by
  refine ⟨fun h => ?_, fun h => by rw [h]⟩
  have h1 := JP.fit_read hx
  rw [h, JP.fit_read hy] at h1
  exact (Prod.mk.inj h1).1.symm
set_option maxRecDepth 100000 in
set_option maxHeartbeats 6400000 in
theorem bars_any {g : Nat} {lv mv lf sv vv : Value} {m : Bs} {live : JV} {x : Leaf} {p : Bs} {w : World} (hd : DealAt w g lv mv m lf) (hl : ∃ n, JvAt n [] w lv live) (hf : JP.Fit live) (hs : StrAt w sv (x.1.map mkB)) (hv : ∃ n, JvAt n [] w vv x.2) (hx : LeafFit x) (hp : p.length ≤ 1048576) (hE : Env w) :
    Calls Tryz.prog 59 #[.pointer (some ⟨g, 0, none⟩), .agg #[.string (mkB (pathP x.1)), sv, vv], .string (mkB p)] w fun e w' => e = .returned (.bool (JP.barsB live x p)) ∧ Below w.heap.size w w' := by
  obtain ⟨n, hl⟩ := hl
  obtain ⟨k, hv⟩ := hv
  obtain ⟨sa, sc, rfl, -, -⟩ := hs.row.len
  obtain ⟨sn, hsn⟩ : ∃ sn, (x.1.map mkB).length = sn := ⟨_, rfl⟩
  rw [hsn] at hs ⊢
  have hpath := hx.path
  rw [hpath]
  obtain ⟨X, hX⟩ : ∃ X, JP.pathL x = X := ⟨_, rfl⟩
  rw [hX]
  have hXl : X.length ≤ 1048576 := by
    rw [← hX]
    have h1 : joinL (x.1.map mkB) = JP.pathL x := joinL_mk x.1
    have h2 := joinL_len (x.1.map mkB)
    rw [h1, total_mk] at h2
    have h3 : ∀ l : List Bs, (∀ s ∈ l, s.length ≤ 2000) → (l.map fun s => s.length + 1).sum ≤ l.length * 2001 := by
      intro l
      induction l with
      | nil => intro _; simp
      | cons a r ih =>
        intro h
        rw [List.map_cons, List.sum_cons, List.length_cons]
        have := h a (List.mem_cons_self ..)
        have := ih fun s hs => h s (List.mem_cons_of_mem _ hs)
        omega
    have h4 := h3 x.1 hx.steps
    have h5 := hx.len
    omega
  have hlz : (JP.text live).length ≤ 1000000 := by have := hf.2.2.2; omega
  have hsl : ∀ s ∈ x.1, s.length ≤ 1048576 := fun s h => by have := hx.steps s h; omega
  have hll : x.1.length ≤ 1048576 := by have := hx.len; omega
  obtain ⟨R0, hR0⟩ : ∃ R, JP.atW live x.1 = R := ⟨_, rfl⟩
  have ha : ∀ w', Below w.heap.size w w' → Calls Tryz.prog 42 #[lv, .slice sa sn sc] w' (ChildAt R0 w') := fun w' hb => by
    rw [← hR0]
    exact at_any (hl.below hb) hlz (hs.below hb) hsl hll ((hE.below hb).1) ((hE.below hb).2.1)
  have hT := touch_any p X
  obtain ⟨tb, htb⟩ : ∃ b, JP.touchB p X = b := ⟨_, rfl⟩
  rw [htb] at hT
  have hR : JP.barsB live x p = (tb && (!(p == X) || !R0.isSome || !@decide (R0 = some x.2) (Classical.propDecidable _))) := by
    unfold JP.barsB
    rw [hX, htb, hR0]
    cases tb with
    | false => rfl
    | true =>
      cases hpx : (p == X) with
      | false => rfl
      | true =>
        cases R0 with
        | none => simp
        | some c => simp
  rw [hR]
  clear hR
  have hfc : ∀ c, R0 = some c → JP.Fit c := fun c hc => JP.at_fit hf (hR0.trans hc)
  have hgw : g < w.heap.size := by
    rcases Nat.lt_or_ge g w.heap.size with h1 | h1
    · exact h1
    · have h9 : w.heap[g]? = some _ := hd
      rw [Array.getElem?_eq_none h1] at h9; cases h9
  have eg : w.cell? ⟨g, 0, none⟩ = some lv := cell_block hd 0
  have hvone : vv = .nilIface ∨ ∃ t u, vv = .iface t u := jv_form hv
  have hlone : lv = .nilIface ∨ ∃ t u, lv = .iface t u := jv_form hl
  obtain ⟨w1, hw1⟩ : ∃ w1, w1 = w.alloc (.cells #[.string (mkB X), .slice sa sn sc, vv] 65) := ⟨_, rfl⟩
  obtain ⟨gb, hgb⟩ : ∃ gb, gb = w.heap.size := ⟨_, rfl⟩
  have b1 : w1.heap[gb]? = some (.cells #[.string (mkB X), .slice sa sn sc, vv] 65 (0, 0)) := by rw [hw1, hgb]; exact heap_alloc_new w _
  have hb1 : Below w.heap.size w w1 := by rw [hw1]; exact (Below.refl _ w).alloc (Nat.le_refl _) _
  have HB1 := Lib.hid hb1
  have B1 := Lib.hid b1
  have HT := Lib.hid hT
  have HA := Lib.hid ha
  have HV := Lib.hid hv
  have HF := Lib.hid hfc
  have HE := Lib.hid hE
  have HX := Lib.hid hx.fit
  have HD := Lib.hid hd
  have e1 : ((mkB p).toList == (mkB X).toList) = (p == X) := by
    rw [ByteArray.toList_eq, ByteArray.toList_eq, mkB_list, mkB_list]
  obtain ⟨pb, hpb⟩ : ∃ b, (p == X) = b := ⟨_, rfl⟩
  rw [hpb] at e1 ⊢
  obtain ⟨ans, Hans⟩ : ∃ ans, Hid ((tb && (!pb || !R0.isSome || !@decide (R0 = some x.2) (Classical.propDecidable _))) = ans) := ⟨_, Lib.hid rfl⟩
  rw [Hans.out]
  have cc := fun i => cell_block b1 i
  clear hT ha hl hlz hsl hll hfc hR0 hd hx hs hf hE hb1 b1 hpath hX htb hsn hpb
  go_enter Tryz.func59, Tryz.ntmps59
  go_upto_region 1 with fail
  try rw [← hw1]
  try rw [← hgb]
  clear hw1 hgb
  rcases hvone with rfl | ⟨vt, vu, rfl⟩
  all_goals
    go_wp2_with fail
    refine (HT.out w1 hp hXl).mono ?_
    rintro E w2 ⟨rfl, rfl⟩
    cases tb with
    | false =>
      go_wp2_with fail
      go_ret
      exact ⟨by rw [← Hans.out]; rfl, HB1.out⟩
    | true =>
      clear cc
      go_upto_region 3 with fail
      refine wp_region_relB 11 (fun ii U w' => match ii with
        | 0 => U 0 = .pointer (some ⟨g, 0, none⟩)
        | 1 => U 1 = .pointer (some ⟨g, 0, none⟩)
        | 2 => U 2 = .pointer (some ⟨g, 0, none⟩)
        | 3 => U 3 = lv
        | 4 => U 4 = .pointer (some ⟨gb, 1, none⟩)
        | 5 => U 5 = .slice sa sn sc
        | 6 => ∃ u, U 6 = .tuple #[u, .bool R0.isSome] ∧ (∀ c, R0 = some c → ∃ k, JvAt k [] w' u c)
        | 7 => ∃ u, U 7 = .tuple #[u, .bool R0.isSome] ∧ (∀ c, R0 = some c → ∃ k, JvAt k [] w' u c)
        | 8 => (∀ c, R0 = some c → ∃ k, JvAt k [] w' (U 8) c)
        | 9 => U 9 = .bool R0.isSome
        | 10 => (∀ c, R0 = some c → ∃ k, JvAt k [] w' (U 10) c)
        | _ => True)
        (fun | 1 => [0] | 2 => [1] | 3 => [2] | 5 => [4] | 6 => [3, 5] | 7 => [6] | 8 => [7] | 9 => [7] | 10 => [8] | _ => []) (by kernel_rfl) (by kernel_rfl) ?_ ⟨?_, ?_, ?_, ?_, ?_, ?_, ?_, ?_, ?_, ?_, ?_, trivial⟩ ?_
      · intro j u w1 w2 hb h
        match j, h with
        | 0, h => exact h
        | 1, h => exact h
        | 2, h => exact h
        | 3, h => exact h
        | 4, h => exact h
        | 5, h => exact h
        | 6, h => exact (let ⟨uu, h1, h2⟩ := h; ⟨uu, h1, fun c hc => let ⟨k, hk⟩ := h2 c hc; ⟨k, hk.below hb⟩⟩)
        | 7, h => exact (let ⟨uu, h1, h2⟩ := h; ⟨uu, h1, fun c hc => let ⟨k, hk⟩ := h2 c hc; ⟨k, hk.below hb⟩⟩)
        | 8, h => exact (fun c hc => let ⟨k, hk⟩ := h c hc; ⟨k, hk.below hb⟩)
        | 9, h => exact h
        | 10, h => exact (fun c hc => let ⟨k, hk⟩ := h c hc; ⟨k, hk.below hb⟩)
        | _ + 11, h => trivial
      · intro x' w' hb hd
        have hb1r : Below w1.heap.size w1 w' := (below_drew1j w1).trans hb
        have hbr : Below w.heap.size w w' := HB1.out.trans (hb1r.mono HB1.out.size)
        refine owes_here (.pointer (some ⟨g, 0, none⟩)) (by rfl) ?_ rfl
        simp only [putAll, List.take_succ_cons, List.take_zero]
        go_simp
      · intro x' w' hb hd
        have hb1r : Below w1.heap.size w1 w' := (below_drew1j w1).trans hb
        have hbr : Below w.heap.size w w' := HB1.out.trans (hb1r.mono HB1.out.size)
        have k0 : x' 0 = .pointer (some ⟨g, 0, none⟩) := hd 0 (by simp)
        refine owes_here (.pointer (some ⟨g, 0, none⟩)) (by rfl) ?_ rfl
        simp only [putAll, List.take_succ_cons, List.take_zero]
        go_simp
      · intro x' w' hb hd
        have hb1r : Below w1.heap.size w1 w' := (below_drew1j w1).trans hb
        have hbr : Below w.heap.size w w' := HB1.out.trans (hb1r.mono HB1.out.size)
        have k0 : x' 1 = .pointer (some ⟨g, 0, none⟩) := hd 1 (by simp)
        refine owes_here (.pointer (some ⟨g, 0, none⟩)) (by rfl) ?_ rfl
        simp only [putAll, List.take_succ_cons, List.take_zero]
        go_simp
      · intro x' w' hb hd
        have hb1r : Below w1.heap.size w1 w' := (below_drew1j w1).trans hb
        have hbr : Below w.heap.size w w' := HB1.out.trans (hb1r.mono HB1.out.size)
        have k0 : x' 2 = .pointer (some ⟨g, 0, none⟩) := hd 2 (by simp)
        have e0 := (hbr.cell (p := ⟨g, 0, none⟩) hgw).trans eg
        refine owes_here lv (by rfl) ?_ rfl
        simp only [putAll, List.take_succ_cons, List.take_zero]
        go_simp
      · intro x' w' hb hd
        have hb1r : Below w1.heap.size w1 w' := (below_drew1j w1).trans hb
        have hbr : Below w.heap.size w w' := HB1.out.trans (hb1r.mono HB1.out.size)
        refine owes_here (.pointer (some ⟨gb, 1, none⟩)) (by rfl) ?_ rfl
        simp only [putAll, List.take_succ_cons, List.take_zero]
        go_simp
      · intro x' w' hb hd
        have hb1r : Below w1.heap.size w1 w' := (below_drew1j w1).trans hb
        have hbr : Below w.heap.size w w' := HB1.out.trans (hb1r.mono HB1.out.size)
        have k0 : x' 4 = .pointer (some ⟨gb, 1, none⟩) := hd 4 (by simp)
        have d0 := below_block hb1r B1.out
        have cc := fun i => cell_block d0 i
        clear d0
        refine owes_here (.slice sa sn sc) (by rfl) ?_ rfl
        simp only [putAll, List.take_succ_cons, List.take_zero]
        go_simp
      · intro x' w' hb hd
        have hb1r : Below w1.heap.size w1 w' := (below_drew1j w1).trans hb
        have hbr : Below w.heap.size w w' := HB1.out.trans (hb1r.mono HB1.out.size)
        have k0 : x' 3 = lv := hd 3 (by simp)
        have k1 : x' 5 = .slice sa sn sc := hd 5 (by simp)
        refine owes_call 42 #[lv, .slice sa sn sc] (by rfl) ?_ ((HA.out w' hbr).mono fun e w2 ⟨uu, h1, h2, h3⟩ => ⟨_, h1, ⟨uu, rfl, h2⟩, h3⟩)
        simp only [putAll, List.take_succ_cons, List.take_zero]
        go_simp
      · intro x' w' hb hd
        have hb1r : Below w1.heap.size w1 w' := (below_drew1j w1).trans hb
        have hbr : Below w.heap.size w w' := HB1.out.trans (hb1r.mono HB1.out.size)
        obtain ⟨uu, k0, k1⟩ : ∃ u, x' 6 = .tuple #[u, .bool R0.isSome] ∧ (∀ c, R0 = some c → ∃ k, JvAt k [] w' u c) := hd 6 (by simp)
        refine owes_here (.tuple #[uu, .bool R0.isSome]) (by rfl) ?_ ⟨uu, rfl, k1⟩
        clear k1 hd
        simp only [putAll, List.take_succ_cons, List.take_zero]
        go_simp
      · intro x' w' hb hd
        have hb1r : Below w1.heap.size w1 w' := (below_drew1j w1).trans hb
        have hbr : Below w.heap.size w w' := HB1.out.trans (hb1r.mono HB1.out.size)
        obtain ⟨uu, k0, k1⟩ : ∃ u, x' 7 = .tuple #[u, .bool R0.isSome] ∧ (∀ c, R0 = some c → ∃ k, JvAt k [] w' u c) := hd 7 (by simp)
        refine owes_here uu (by rfl) ?_ k1
        clear k1 hd
        simp only [putAll, List.take_succ_cons, List.take_zero]
        go_simp
      · intro x' w' hb hd
        have hb1r : Below w1.heap.size w1 w' := (below_drew1j w1).trans hb
        have hbr : Below w.heap.size w w' := HB1.out.trans (hb1r.mono HB1.out.size)
        obtain ⟨uu, k0, k1⟩ : ∃ u, x' 7 = .tuple #[u, .bool R0.isSome] ∧ (∀ c, R0 = some c → ∃ k, JvAt k [] w' u c) := hd 7 (by simp)
        refine owes_here (.bool R0.isSome) (by rfl) ?_ rfl
        clear k1 hd
        simp only [putAll, List.take_succ_cons, List.take_zero]
        go_simp
      · intro x' w' hb hd
        have hb1r : Below w1.heap.size w1 w' := (below_drew1j w1).trans hb
        have hbr : Below w.heap.size w w' := HB1.out.trans (hb1r.mono HB1.out.size)
        have k1 : (∀ c, R0 = some c → ∃ k, JvAt k [] w' (x' 8) c) := hd 8 (by simp)
        refine owes_here (x' 8) (by rfl) ?_ k1
        clear k1 hd
        simp only [putAll, List.take_succ_cons, List.take_zero]
        go_simp
      · intro x' w' hb hR
        have hb1r : Below w1.heap.size w1 w' := (below_drew1j w1).trans hb
        have hbr : Below w.heap.size w w' := HB1.out.trans (hb1r.mono HB1.out.size)
        have k10 : (∀ c, R0 = some c → ∃ k, JvAt k [] w' (x' 10) c) := hR 10 (by omega)
        have k9 : x' 9 = .bool R0.isSome := hR 9 (by omega)
        have d0 := below_block hb1r B1.out
        have cc := fun i => cell_block d0 i
        have HS := Lib.hid k10
        have Hbr := Lib.hid hbr
        clear hb hbr hb1r d0 k10 hR
        simp only [putAll, List.take_succ_cons, List.take_zero, List.drop_succ_cons, List.drop_zero]
        rw [k9]
        obtain ⟨y, Hy⟩ : ∃ y, Hid (x' 10 = y) := ⟨_, Lib.hid rfl⟩
        have HS2 : Hid (∀ c, R0 = some c → ∃ k, JvAt k [] w' y c) := Lib.hid (by rw [← Hy.out]; exact HS.out)
        rw [Hy.out]
        clear HS k9 Hy
        try simp only [Act.put, List.setIfInBounds_toArray, List.set_cons_zero, List.set_cons_succ]
        cases pb with
        | false =>
          go_wp2_with fail
          go_ret
          exact ⟨by rw [← Hans.out]; rfl, Hbr.out⟩
        | true =>
          cases R0 with
          | none =>
            go_wp2_with fail
            go_ret
            exact ⟨by rw [← Hans.out]; rfl, Hbr.out⟩
          | some c =>
            obtain ⟨k2, hk2⟩ := HS2.out c rfl
            have hsame := same_any hk2 (HV.out.below Hbr.out) (by have := (HF.out c rfl).2.2.2; omega) (by have := HX.out.2.2.2; omega) ((HE.out.below Hbr.out).1)
            have HSm := Lib.hid hsame
            have Hdec : Hid ((true && (!true || !(some c).isSome || !@decide (some c = some x.2) (Classical.propDecidable _))) = !decide (JP.text c = JP.text x.2)) := Lib.hid (by
              by_cases h : c = x.2
              · subst h; simp
              · have h2 : ¬ JP.text c = JP.text x.2 := fun e => h ((same_text (HF.out c rfl) HX.out).1 e)
                have h3 : ¬ some c = some x.2 := fun e => h (Option.some.inj e)
                rw [decide_eq_false h2]
                simp [h])
            obtain ⟨sb, Hsb⟩ : ∃ sb, Hid (decide (JP.text c = JP.text x.2) = sb) := ⟨_, Lib.hid rfl⟩
            rw [Hsb.out] at HSm
            clear hk2 hsame HS2
            go_wp2_with fail
            refine HSm.out.mono ?_
            rintro E w3 ⟨rfl, hb3⟩
            have Hb3 := Lib.hid (Hbr.out.trans (hb3.mono Hbr.out.size))
            clear hb3
            go_wp2_with fail
            go_ret
            exact ⟨by rw [← Hans.out, Hdec.out, Hsb.out]; rfl, Hb3.out⟩
end Go.Proofs.YtdcmnpeabjallaaGreatDoor
namespace Go.Proofs.YtdcmnpeabjallaaGreatDoor
open Go.RowKit
open JP (JV Bs Lf)
def FirstAt {α : Type} (l : List α) (p : α → Bool) (w : World) (e : Ending) (w' : World) : Prop :=
  ∃ n : Int, e = .returned (.int .i64 n) ∧ ((n = -1 ∧ l.find? p = none) ∨ ∃ (i : Nat) (x : α), n = (i : Int) ∧ l[i]? = some x ∧ l.find? p = some x ∧ ∀ y ∈ l.take i, p y = false) ∧ Below w.heap.size w w'
theorem find_at {α : Type} {l : List α} {p : α → Bool} {i : Nat} {x : α} (h : l[i]? = some x) (hp : p x = true) (hn : ∀ y ∈ l.take i, p y = false) : l.find? p = some x := by
  have hi := (List.getElem?_eq_some_iff.1 h).1
  have he := (List.getElem?_eq_some_iff.1 h).2
  have h1 : l = l.take i ++ x :: l.drop (i + 1) := by rw [← he, ← List.drop_eq_getElem_cons hi, List.take_append_drop]
  rw [h1, List.find?_append, List.find?_eq_none.2 (fun y hy => by rw [hn y hy]; simp)]
  simp [hp]
set_option maxRecDepth 100000 in
set_option maxHeartbeats 1600000 in
theorem idxStr1_any {f : FuncId} {cap1 : Value} {Cap : World → Prop} {p : ByteArray → Bool} {OK : ByteArray → Prop} (enter : ∀ (a : Array Value) (w : World), (callFunc f a).run Tryz.prog w = .ok (.enter f a) w)
    (keepC : ∀ w w' : World, Cap w → Below w.heap.size w w' → Cap w')
    (clo : ∀ (x : ByteArray) (w : World), OK x → Cap w → Calls Tryz.prog f #[.string x, cap1] w fun e w' => e = .returned (.bool (p x)) ∧ Below w.heap.size w w')
    (v : Value) (l : List ByteArray) (w : World) (h : RowAt RString 1 w v l) (hl : l.length ≤ 1073741824) (hok : ∀ x ∈ l, OK x) (hc : Cap w) : Calls Tryz.prog 93 #[v, .func (.func f) #[] #[cap1]] w (FirstAt l p w) := by
  obtain ⟨a1, c1, rfl, _, _⟩ := h.len
  have H := Lib.hid h
  have Hc := Lib.hid hc
  have HC := Lib.hid clo
  have HK := Lib.hid keepC
  have Hok := Lib.hid hok
  have ep := enter
  clear h hc clo keepC enter hok
  go_enter Tryz.func93, Tryz.ntmps93
  go_wp2_with fail
  go_loopg [8] l.length (fun g u8 wr => ∃ i : Nat, i + g = l.length ∧ u8 = .int .i64 (i : Int) ∧ Hid (∀ x ∈ l.take i, p x = false) ∧ Hid (Cap wr) ∧ Below w.heap.size w wr)
  case atStart => exact ⟨0, by omega, rfl, Lib.hid (fun x hx => by simp at hx), Hc, Below.refl _ _⟩
  case round =>
    obtain ⟨i, hig, rfl, Hall, Hcr, hbel⟩ := hrel
    cases gk with
    | zero =>
      obtain rfl : i = l.length := by omega
      have Hany : Hid (l.find? p = none) := Lib.hid (List.find?_eq_none.2 fun x hx => by rw [Hall.out x (by rw [List.take_length]; exact hx)]; simp)
      have Hbel := Lib.hid hbel
      clear hbel
      go_wp2_with fail
      go_ret
      exact ⟨-1, rfl, .inl ⟨rfl, Hany.out⟩, Hbel.out⟩
    | succ g =>
      have hil : i < l.length := by omega
      obtain ⟨x, hxi⟩ : ∃ x, l[i]? = some x := ⟨l[i]'(by omega), List.getElem?_eq_getElem _⟩
      obtain ⟨b, o, c', hv, _, _, hbs, hcell⟩ := H.out.form (by omega) (by omega)
      cases hv
      obtain ⟨ds, _, hcc, hR⟩ := hcell i x hxi
      obtain rfl : ds = [.string x] := hR
      have HR := Lib.hid (show RString wr [.string x] x from rfl)
      have e0 : wr.cell? ⟨b, o + i, none⟩ = some (.string x) := (hbel.cell (p := ⟨b, _, none⟩) hbs).trans (by simpa using hcc 0 _ rfl)
      have q1 : (0 : Int) ≤ (i : Int) := by omega
      have q2 : (i : Int) < (l.length : Int) := by omega
      have Hbel := Lib.hid hbel
      have hs0 := hbel.size
      have Hxi := Lib.hid hxi
      clear hcc hcell hbel hxi
      obtain ⟨pb, Hpb⟩ : ∃ pb, Hid (p x = pb) := ⟨_, Lib.hid rfl⟩
      go_wp2_with fail
      refine (HC.out x wr (Hok.out x (List.mem_of_getElem? Hxi.out)) Hcr.out).mono ?_
      rintro E w1 ⟨rfl, hb1⟩
      rw [Hpb.out]
      have Hb1 := Lib.hid (Hbel.out.trans (hb1.mono hs0))
      have Hc1 := Lib.hid (HK.out _ _ Hcr.out hb1)
      clear hb1 e0
      cases pb with
      | true =>
        have Hany : Hid (l.find? p = some x) := Lib.hid (find_at Hxi.out Hpb.out Hall.out)
        go_wp2_with fail
        go_ret
        exact ⟨_, rfl, .inr ⟨i, x, rfl, Hxi.out, Hany.out, Hall.out⟩, Hb1.out⟩
      | false =>
        have Hall2 : Hid (∀ x ∈ l.take (i + 1), p x = false) := Lib.hid fun y hy => by
          rw [List.take_add_one, Hxi.out] at hy
          rcases List.mem_append.1 hy with h | h
          · exact Hall.out y h
          · have h9 : y = x := by simpa using h
            rw [h9]; exact Hpb.out
        go_wp2_with fail
        go_roundg g
        case measure => omega
        case rel => exact ⟨i + 1, by omega, by go_num, Hall2, Hc1, Hb1.out⟩
set_option maxRecDepth 100000 in
theorem anyStr1_any {f : FuncId} {cap1 : Value} {Cap : World → Prop} {p : ByteArray → Bool} {OK : ByteArray → Prop} (enter : ∀ (a : Array Value) (w : World), (callFunc f a).run Tryz.prog w = .ok (.enter f a) w)
    (keepC : ∀ w w' : World, Cap w → Below w.heap.size w w' → Cap w')
    (clo : ∀ (x : ByteArray) (w : World), OK x → Cap w → Calls Tryz.prog f #[.string x, cap1] w fun e w' => e = .returned (.bool (p x)) ∧ Below w.heap.size w w')
    (v : Value) (l : List ByteArray) (w : World) (h : RowAt RString 1 w v l) (hl : l.length ≤ 1073741824) (hok : ∀ x ∈ l, OK x) (hc : Cap w) : Calls Tryz.prog 91 #[v, .func (.func f) #[] #[cap1]] w fun e w' => e = .returned (.bool (l.any p)) ∧ Below w.heap.size w w' := by
  have H := Lib.hid (idxStr1_any enter keepC clo v l w h hl hok hc)
  obtain ⟨B, HB⟩ : ∃ B, Hid (l.any p = B) := ⟨_, Lib.hid rfl⟩
  rw [HB.out]
  clear h hc clo keepC enter
  go_enter Tryz.func91, Tryz.ntmps91
  go_wp2_with fail
  refine H.out.mono ?_
  rintro E w1 ⟨n, rfl, hn, hb⟩
  have hn2 : (decide ((0 : Int) ≤ n)) = B := by
    rw [← HB.out]
    rcases hn with ⟨rfl, h1⟩ | ⟨i, x, rfl, h1, h2, _⟩
    · rw [decide_eq_false (by omega), eq_comm, List.any_eq_false]
      intro x hx
      simpa using List.find?_eq_none.1 h1 x hx
    · rw [decide_eq_true (by omega), eq_comm, List.any_eq_true]
      exact ⟨x, List.mem_of_getElem? h1, List.find?_some h2⟩
  have Hb := Lib.hid hb
  have Hn := Lib.hid hn2
  clear hb hn hn2 H
  go_wp2_with fail
  go_ret
  exact ⟨congrArg (fun b => Ending.returned (Value.bool b)) Hn.out, Hb.out⟩
set_option maxRecDepth 100000 in
set_option maxHeartbeats 1600000 in
theorem idxStr2_any {f : FuncId} {cap1 cap2 : Value} {Cap : World → Prop} {p : ByteArray → Bool} {OK : ByteArray → Prop} (enter : ∀ (a : Array Value) (w : World), (callFunc f a).run Tryz.prog w = .ok (.enter f a) w)
    (keepC : ∀ w w' : World, Cap w → Below w.heap.size w w' → Cap w')
    (clo : ∀ (x : ByteArray) (w : World), OK x → Cap w → Calls Tryz.prog f #[.string x, cap1, cap2] w fun e w' => e = .returned (.bool (p x)) ∧ Below w.heap.size w w')
    (v : Value) (l : List ByteArray) (w : World) (h : RowAt RString 1 w v l) (hl : l.length ≤ 1073741824) (hok : ∀ x ∈ l, OK x) (hc : Cap w) : Calls Tryz.prog 93 #[v, .func (.func f) #[] #[cap1, cap2]] w (FirstAt l p w) := by
  obtain ⟨a1, c1, rfl, _, _⟩ := h.len
  have H := Lib.hid h
  have Hc := Lib.hid hc
  have HC := Lib.hid clo
  have HK := Lib.hid keepC
  have Hok := Lib.hid hok
  have ep := enter
  clear h hc clo keepC enter hok
  go_enter Tryz.func93, Tryz.ntmps93
  go_wp2_with fail
  go_loopg [8] l.length (fun g u8 wr => ∃ i : Nat, i + g = l.length ∧ u8 = .int .i64 (i : Int) ∧ Hid (∀ x ∈ l.take i, p x = false) ∧ Hid (Cap wr) ∧ Below w.heap.size w wr)
  case atStart => exact ⟨0, by omega, rfl, Lib.hid (fun x hx => by simp at hx), Hc, Below.refl _ _⟩
  case round =>
    obtain ⟨i, hig, rfl, Hall, Hcr, hbel⟩ := hrel
    cases gk with
    | zero =>
      obtain rfl : i = l.length := by omega
      have Hany : Hid (l.find? p = none) := Lib.hid (List.find?_eq_none.2 fun x hx => by rw [Hall.out x (by rw [List.take_length]; exact hx)]; simp)
      have Hbel := Lib.hid hbel
      clear hbel
      go_wp2_with fail
      go_ret
      exact ⟨-1, rfl, .inl ⟨rfl, Hany.out⟩, Hbel.out⟩
    | succ g =>
      have hil : i < l.length := by omega
      obtain ⟨x, hxi⟩ : ∃ x, l[i]? = some x := ⟨l[i]'(by omega), List.getElem?_eq_getElem _⟩
      obtain ⟨b, o, c', hv, _, _, hbs, hcell⟩ := H.out.form (by omega) (by omega)
      cases hv
      obtain ⟨ds, _, hcc, hR⟩ := hcell i x hxi
      obtain rfl : ds = [.string x] := hR
      have HR := Lib.hid (show RString wr [.string x] x from rfl)
      have e0 : wr.cell? ⟨b, o + i, none⟩ = some (.string x) := (hbel.cell (p := ⟨b, _, none⟩) hbs).trans (by simpa using hcc 0 _ rfl)
      have q1 : (0 : Int) ≤ (i : Int) := by omega
      have q2 : (i : Int) < (l.length : Int) := by omega
      have Hbel := Lib.hid hbel
      have hs0 := hbel.size
      have Hxi := Lib.hid hxi
      clear hcc hcell hbel hxi
      obtain ⟨pb, Hpb⟩ : ∃ pb, Hid (p x = pb) := ⟨_, Lib.hid rfl⟩
      go_wp2_with fail
      refine (HC.out x wr (Hok.out x (List.mem_of_getElem? Hxi.out)) Hcr.out).mono ?_
      rintro E w1 ⟨rfl, hb1⟩
      rw [Hpb.out]
      have Hb1 := Lib.hid (Hbel.out.trans (hb1.mono hs0))
      have Hc1 := Lib.hid (HK.out _ _ Hcr.out hb1)
      clear hb1 e0
      cases pb with
      | true =>
        have Hany : Hid (l.find? p = some x) := Lib.hid (find_at Hxi.out Hpb.out Hall.out)
        go_wp2_with fail
        go_ret
        exact ⟨_, rfl, .inr ⟨i, x, rfl, Hxi.out, Hany.out, Hall.out⟩, Hb1.out⟩
      | false =>
        have Hall2 : Hid (∀ x ∈ l.take (i + 1), p x = false) := Lib.hid fun y hy => by
          rw [List.take_add_one, Hxi.out] at hy
          rcases List.mem_append.1 hy with h | h
          · exact Hall.out y h
          · have h9 : y = x := by simpa using h
            rw [h9]; exact Hpb.out
        go_wp2_with fail
        go_roundg g
        case measure => omega
        case rel => exact ⟨i + 1, by omega, by go_num, Hall2, Hc1, Hb1.out⟩
set_option maxRecDepth 100000 in
theorem anyStr2_any {f : FuncId} {cap1 cap2 : Value} {Cap : World → Prop} {p : ByteArray → Bool} {OK : ByteArray → Prop} (enter : ∀ (a : Array Value) (w : World), (callFunc f a).run Tryz.prog w = .ok (.enter f a) w)
    (keepC : ∀ w w' : World, Cap w → Below w.heap.size w w' → Cap w')
    (clo : ∀ (x : ByteArray) (w : World), OK x → Cap w → Calls Tryz.prog f #[.string x, cap1, cap2] w fun e w' => e = .returned (.bool (p x)) ∧ Below w.heap.size w w')
    (v : Value) (l : List ByteArray) (w : World) (h : RowAt RString 1 w v l) (hl : l.length ≤ 1073741824) (hok : ∀ x ∈ l, OK x) (hc : Cap w) : Calls Tryz.prog 91 #[v, .func (.func f) #[] #[cap1, cap2]] w fun e w' => e = .returned (.bool (l.any p)) ∧ Below w.heap.size w w' := by
  have H := Lib.hid (idxStr2_any enter keepC clo v l w h hl hok hc)
  obtain ⟨B, HB⟩ : ∃ B, Hid (l.any p = B) := ⟨_, Lib.hid rfl⟩
  rw [HB.out]
  clear h hc clo keepC enter
  go_enter Tryz.func91, Tryz.ntmps91
  go_wp2_with fail
  refine H.out.mono ?_
  rintro E w1 ⟨n, rfl, hn, hb⟩
  have hn2 : (decide ((0 : Int) ≤ n)) = B := by
    rw [← HB.out]
    rcases hn with ⟨rfl, h1⟩ | ⟨i, x, rfl, h1, h2, _⟩
    · rw [decide_eq_false (by omega), eq_comm, List.any_eq_false]
      intro x hx
      simpa using List.find?_eq_none.1 h1 x hx
    · rw [decide_eq_true (by omega), eq_comm, List.any_eq_true]
      exact ⟨x, List.mem_of_getElem? h1, List.find?_some h2⟩
  have Hb := Lib.hid hb
  have Hn := Lib.hid hn2
  clear hb hn hn2 H
  go_wp2_with fail
  go_ret
  exact ⟨congrArg (fun b => Ending.returned (Value.bool b)) Hn.out, Hb.out⟩
set_option maxRecDepth 100000 in
set_option maxHeartbeats 1600000 in
theorem idxLeaf1_any {f : FuncId} {cap1 : Value} {Cap : World → Prop} {p : Leaf → Bool} {OK : Leaf → Prop} (enter : ∀ (a : Array Value) (w : World), (callFunc f a).run Tryz.prog w = .ok (.enter f a) w)
    (keepC : ∀ w w' : World, Cap w → Below w.heap.size w w' → Cap w')
    (clo : ∀ (x : Leaf) (sv vv : Value) (w : World), LeafR w [.string (mkB (pathP x.1)), sv, vv] x → OK x → Cap w → Calls Tryz.prog f #[.agg #[.string (mkB (pathP x.1)), sv, vv], cap1] w fun e w' => e = .returned (.bool (p x)) ∧ Below w.heap.size w w')
    (v : Value) (l : List Leaf) (w : World) (h : RowAt LeafR 3 w v l) (hl : l.length ≤ 1073741824) (hok : ∀ x ∈ l, OK x) (hc : Cap w) : Calls Tryz.prog 94 #[v, .func (.func f) #[] #[cap1]] w (FirstAt l p w) := by
  obtain ⟨a1, c1, rfl, _, _⟩ := h.len
  have H := Lib.hid h
  have Hc := Lib.hid hc
  have HC := Lib.hid clo
  have HK := Lib.hid keepC
  have Hok := Lib.hid hok
  have ep := enter
  clear h hc clo keepC enter hok
  go_enter Tryz.func94, Tryz.ntmps94
  go_wp2_with fail
  go_loopg [8] l.length (fun g u8 wr => ∃ i : Nat, i + g = l.length ∧ u8 = .int .i64 (i : Int) ∧ Hid (∀ x ∈ l.take i, p x = false) ∧ Hid (Cap wr) ∧ Below w.heap.size w wr)
  case atStart => exact ⟨0, by omega, rfl, Lib.hid (fun x hx => by simp at hx), Hc, Below.refl _ _⟩
  case round =>
    obtain ⟨i, hig, rfl, Hall, Hcr, hbel⟩ := hrel
    cases gk with
    | zero =>
      obtain rfl : i = l.length := by omega
      have Hany : Hid (l.find? p = none) := Lib.hid (List.find?_eq_none.2 fun x hx => by rw [Hall.out x (by rw [List.take_length]; exact hx)]; simp)
      have Hbel := Lib.hid hbel
      clear hbel
      go_wp2_with fail
      go_ret
      exact ⟨-1, rfl, .inl ⟨rfl, Hany.out⟩, Hbel.out⟩
    | succ g =>
      have hil : i < l.length := by omega
      obtain ⟨x, hxi⟩ : ∃ x, l[i]? = some x := ⟨l[i]'(by omega), List.getElem?_eq_getElem _⟩
      obtain ⟨b, o, c', hv, _, _, hbs, hcell⟩ := H.out.form (by omega) (by omega)
      cases hv
      obtain ⟨ds, _, hcc, hR⟩ := hcell i x hxi
      have hRb := leafR_below hR hbel
      obtain ⟨sv, vv, rfl, hsv, hjv⟩ := hR
      obtain ⟨sa, sc, rfl, -, -⟩ := hsv.row.len
      obtain ⟨sn, hsn⟩ : ∃ sn, (x.1.map mkB).length = sn := ⟨_, rfl⟩
      rw [hsn] at hcc hRb
      have hvform : vv = .nilIface ∨ ∃ t u, vv = .iface t u := by obtain ⟨k, hk⟩ := hjv; exact jv_form hk
      have HR := Lib.hid hRb
      have e0 : wr.cell? ⟨b, o + i * 3, none⟩ = some (.string (mkB (pathP x.1))) := (hbel.cell (p := ⟨b, _, none⟩) hbs).trans (by simpa using hcc 0 _ rfl)
      have e1 : wr.cell? ⟨b, o + i * 3 + 1, none⟩ = some (.slice sa sn sc) := (hbel.cell (p := ⟨b, _, none⟩) hbs).trans (hcc 1 _ rfl)
      have e2 : wr.cell? ⟨b, o + i * 3 + 2, none⟩ = some (vv) := (hbel.cell (p := ⟨b, _, none⟩) hbs).trans (hcc 2 _ rfl)
      have q1 : (0 : Int) ≤ (i : Int) := by omega
      have q2 : (i : Int) < (l.length : Int) := by omega
      have Hbel := Lib.hid hbel
      have hs0 := hbel.size
      have Hxi := Lib.hid hxi
      clear hcc hcell hbel hxi hRb hsv hjv hsn
      obtain ⟨pb, Hpb⟩ : ∃ pb, Hid (p x = pb) := ⟨_, Lib.hid rfl⟩
      rcases hvform with rfl | ⟨vt, vu, rfl⟩
      all_goals
        go_wp2_with fail
        refine (HC.out x _ _ wr HR.out (Hok.out x (List.mem_of_getElem? Hxi.out)) Hcr.out).mono ?_
        rintro E w1 ⟨rfl, hb1⟩
        rw [Hpb.out]
        have Hb1 := Lib.hid (Hbel.out.trans (hb1.mono hs0))
        have Hc1 := Lib.hid (HK.out _ _ Hcr.out hb1)
        clear hb1 e0 e1 e2
        cases pb with
        | true =>
          have Hany : Hid (l.find? p = some x) := Lib.hid (find_at Hxi.out Hpb.out Hall.out)
          go_wp2_with fail
          go_ret
          exact ⟨_, rfl, .inr ⟨i, x, rfl, Hxi.out, Hany.out, Hall.out⟩, Hb1.out⟩
        | false =>
          have Hall2 : Hid (∀ x ∈ l.take (i + 1), p x = false) := Lib.hid fun y hy => by
            rw [List.take_add_one, Hxi.out] at hy
            rcases List.mem_append.1 hy with h | h
            · exact Hall.out y h
            · have h9 : y = x := by simpa using h
              rw [h9]; exact Hpb.out
          go_wp2_with fail
          go_roundg g
          case measure => omega
          case rel => exact ⟨i + 1, by omega, by go_num, Hall2, Hc1, Hb1.out⟩
set_option maxRecDepth 100000 in
theorem anyLeaf1_any {f : FuncId} {cap1 : Value} {Cap : World → Prop} {p : Leaf → Bool} {OK : Leaf → Prop} (enter : ∀ (a : Array Value) (w : World), (callFunc f a).run Tryz.prog w = .ok (.enter f a) w)
    (keepC : ∀ w w' : World, Cap w → Below w.heap.size w w' → Cap w')
    (clo : ∀ (x : Leaf) (sv vv : Value) (w : World), LeafR w [.string (mkB (pathP x.1)), sv, vv] x → OK x → Cap w → Calls Tryz.prog f #[.agg #[.string (mkB (pathP x.1)), sv, vv], cap1] w fun e w' => e = .returned (.bool (p x)) ∧ Below w.heap.size w w')
    (v : Value) (l : List Leaf) (w : World) (h : RowAt LeafR 3 w v l) (hl : l.length ≤ 1073741824) (hok : ∀ x ∈ l, OK x) (hc : Cap w) : Calls Tryz.prog 62 #[v, .func (.func f) #[] #[cap1]] w fun e w' => e = .returned (.bool (l.any p)) ∧ Below w.heap.size w w' := by
  have H := Lib.hid (idxLeaf1_any enter keepC clo v l w h hl hok hc)
  obtain ⟨B, HB⟩ : ∃ B, Hid (l.any p = B) := ⟨_, Lib.hid rfl⟩
  rw [HB.out]
  clear h hc clo keepC enter
  go_enter Tryz.func62, Tryz.ntmps62
  go_wp2_with fail
  refine H.out.mono ?_
  rintro E w1 ⟨n, rfl, hn, hb⟩
  have hn2 : (decide ((0 : Int) ≤ n)) = B := by
    rw [← HB.out]
    rcases hn with ⟨rfl, h1⟩ | ⟨i, x, rfl, h1, h2, _⟩
    · rw [decide_eq_false (by omega), eq_comm, List.any_eq_false]
      intro x hx
      simpa using List.find?_eq_none.1 h1 x hx
    · rw [decide_eq_true (by omega), eq_comm, List.any_eq_true]
      exact ⟨x, List.mem_of_getElem? h1, List.find?_some h2⟩
  have Hb := Lib.hid hb
  have Hn := Lib.hid hn2
  clear hb hn hn2 H
  go_wp2_with fail
  go_ret
  exact ⟨congrArg (fun b => Ending.returned (Value.bool b)) Hn.out, Hb.out⟩
set_option maxRecDepth 100000 in
set_option maxHeartbeats 1600000 in
theorem idxLeaf2_any {f : FuncId} {cap1 cap2 : Value} {Cap : World → Prop} {p : Leaf → Bool} {OK : Leaf → Prop} (enter : ∀ (a : Array Value) (w : World), (callFunc f a).run Tryz.prog w = .ok (.enter f a) w)
    (keepC : ∀ w w' : World, Cap w → Below w.heap.size w w' → Cap w')
    (clo : ∀ (x : Leaf) (sv vv : Value) (w : World), LeafR w [.string (mkB (pathP x.1)), sv, vv] x → OK x → Cap w → Calls Tryz.prog f #[.agg #[.string (mkB (pathP x.1)), sv, vv], cap1, cap2] w fun e w' => e = .returned (.bool (p x)) ∧ Below w.heap.size w w')
    (v : Value) (l : List Leaf) (w : World) (h : RowAt LeafR 3 w v l) (hl : l.length ≤ 1073741824) (hok : ∀ x ∈ l, OK x) (hc : Cap w) : Calls Tryz.prog 94 #[v, .func (.func f) #[] #[cap1, cap2]] w (FirstAt l p w) := by
  obtain ⟨a1, c1, rfl, _, _⟩ := h.len
  have H := Lib.hid h
  have Hc := Lib.hid hc
  have HC := Lib.hid clo
  have HK := Lib.hid keepC
  have Hok := Lib.hid hok
  have ep := enter
  clear h hc clo keepC enter hok
  go_enter Tryz.func94, Tryz.ntmps94
  go_wp2_with fail
  go_loopg [8] l.length (fun g u8 wr => ∃ i : Nat, i + g = l.length ∧ u8 = .int .i64 (i : Int) ∧ Hid (∀ x ∈ l.take i, p x = false) ∧ Hid (Cap wr) ∧ Below w.heap.size w wr)
  case atStart => exact ⟨0, by omega, rfl, Lib.hid (fun x hx => by simp at hx), Hc, Below.refl _ _⟩
  case round =>
    obtain ⟨i, hig, rfl, Hall, Hcr, hbel⟩ := hrel
    cases gk with
    | zero =>
      obtain rfl : i = l.length := by omega
      have Hany : Hid (l.find? p = none) := Lib.hid (List.find?_eq_none.2 fun x hx => by rw [Hall.out x (by rw [List.take_length]; exact hx)]; simp)
      have Hbel := Lib.hid hbel
      clear hbel
      go_wp2_with fail
      go_ret
      exact ⟨-1, rfl, .inl ⟨rfl, Hany.out⟩, Hbel.out⟩
    | succ g =>
      have hil : i < l.length := by omega
      obtain ⟨x, hxi⟩ : ∃ x, l[i]? = some x := ⟨l[i]'(by omega), List.getElem?_eq_getElem _⟩
      obtain ⟨b, o, c', hv, _, _, hbs, hcell⟩ := H.out.form (by omega) (by omega)
      cases hv
      obtain ⟨ds, _, hcc, hR⟩ := hcell i x hxi
      have hRb := leafR_below hR hbel
      obtain ⟨sv, vv, rfl, hsv, hjv⟩ := hR
      obtain ⟨sa, sc, rfl, -, -⟩ := hsv.row.len
      obtain ⟨sn, hsn⟩ : ∃ sn, (x.1.map mkB).length = sn := ⟨_, rfl⟩
      rw [hsn] at hcc hRb
      have hvform : vv = .nilIface ∨ ∃ t u, vv = .iface t u := by obtain ⟨k, hk⟩ := hjv; exact jv_form hk
      have HR := Lib.hid hRb
      have e0 : wr.cell? ⟨b, o + i * 3, none⟩ = some (.string (mkB (pathP x.1))) := (hbel.cell (p := ⟨b, _, none⟩) hbs).trans (by simpa using hcc 0 _ rfl)
      have e1 : wr.cell? ⟨b, o + i * 3 + 1, none⟩ = some (.slice sa sn sc) := (hbel.cell (p := ⟨b, _, none⟩) hbs).trans (hcc 1 _ rfl)
      have e2 : wr.cell? ⟨b, o + i * 3 + 2, none⟩ = some (vv) := (hbel.cell (p := ⟨b, _, none⟩) hbs).trans (hcc 2 _ rfl)
      have q1 : (0 : Int) ≤ (i : Int) := by omega
      have q2 : (i : Int) < (l.length : Int) := by omega
      have Hbel := Lib.hid hbel
      have hs0 := hbel.size
      have Hxi := Lib.hid hxi
      clear hcc hcell hbel hxi hRb hsv hjv hsn
      obtain ⟨pb, Hpb⟩ : ∃ pb, Hid (p x = pb) := ⟨_, Lib.hid rfl⟩
      rcases hvform with rfl | ⟨vt, vu, rfl⟩
      all_goals
        go_wp2_with fail
        refine (HC.out x _ _ wr HR.out (Hok.out x (List.mem_of_getElem? Hxi.out)) Hcr.out).mono ?_
        rintro E w1 ⟨rfl, hb1⟩
        rw [Hpb.out]
        have Hb1 := Lib.hid (Hbel.out.trans (hb1.mono hs0))
        have Hc1 := Lib.hid (HK.out _ _ Hcr.out hb1)
        clear hb1 e0 e1 e2
        cases pb with
        | true =>
          have Hany : Hid (l.find? p = some x) := Lib.hid (find_at Hxi.out Hpb.out Hall.out)
          go_wp2_with fail
          go_ret
          exact ⟨_, rfl, .inr ⟨i, x, rfl, Hxi.out, Hany.out, Hall.out⟩, Hb1.out⟩
        | false =>
          have Hall2 : Hid (∀ x ∈ l.take (i + 1), p x = false) := Lib.hid fun y hy => by
            rw [List.take_add_one, Hxi.out] at hy
            rcases List.mem_append.1 hy with h | h
            · exact Hall.out y h
            · have h9 : y = x := by simpa using h
              rw [h9]; exact Hpb.out
          go_wp2_with fail
          go_roundg g
          case measure => omega
          case rel => exact ⟨i + 1, by omega, by go_num, Hall2, Hc1, Hb1.out⟩
set_option maxRecDepth 100000 in
theorem anyLeaf2_any {f : FuncId} {cap1 cap2 : Value} {Cap : World → Prop} {p : Leaf → Bool} {OK : Leaf → Prop} (enter : ∀ (a : Array Value) (w : World), (callFunc f a).run Tryz.prog w = .ok (.enter f a) w)
    (keepC : ∀ w w' : World, Cap w → Below w.heap.size w w' → Cap w')
    (clo : ∀ (x : Leaf) (sv vv : Value) (w : World), LeafR w [.string (mkB (pathP x.1)), sv, vv] x → OK x → Cap w → Calls Tryz.prog f #[.agg #[.string (mkB (pathP x.1)), sv, vv], cap1, cap2] w fun e w' => e = .returned (.bool (p x)) ∧ Below w.heap.size w w')
    (v : Value) (l : List Leaf) (w : World) (h : RowAt LeafR 3 w v l) (hl : l.length ≤ 1073741824) (hok : ∀ x ∈ l, OK x) (hc : Cap w) : Calls Tryz.prog 62 #[v, .func (.func f) #[] #[cap1, cap2]] w fun e w' => e = .returned (.bool (l.any p)) ∧ Below w.heap.size w w' := by
  have H := Lib.hid (idxLeaf2_any enter keepC clo v l w h hl hok hc)
  obtain ⟨B, HB⟩ : ∃ B, Hid (l.any p = B) := ⟨_, Lib.hid rfl⟩
  rw [HB.out]
  clear h hc clo keepC enter
  go_enter Tryz.func62, Tryz.ntmps62
  go_wp2_with fail
  refine H.out.mono ?_
  rintro E w1 ⟨n, rfl, hn, hb⟩
  have hn2 : (decide ((0 : Int) ≤ n)) = B := by
    rw [← HB.out]
    rcases hn with ⟨rfl, h1⟩ | ⟨i, x, rfl, h1, h2, _⟩
    · rw [decide_eq_false (by omega), eq_comm, List.any_eq_false]
      intro x hx
      simpa using List.find?_eq_none.1 h1 x hx
    · rw [decide_eq_true (by omega), eq_comm, List.any_eq_true]
      exact ⟨x, List.mem_of_getElem? h1, List.find?_some h2⟩
  have Hb := Lib.hid hb
  have Hn := Lib.hid hn2
  clear hb hn hn2 H
  go_wp2_with fail
  go_ret
  exact ⟨congrArg (fun b => Ending.returned (Value.bool b)) Hn.out, Hb.out⟩
end Go.Proofs.YtdcmnpeabjallaaGreatDoor
namespace Go.Proofs.YtdcmnpeabjallaaGreatDoor
open Go.RowKit Go.ChangeMaps Go.MapKept
open Go.WideMaps
open Go.WideElems (Fit rd rg pl rd_val rd_key rg_of)
open Go.Maps (Keyed)
abbrev KB := List UInt8
def kb (k : KB) : Lit := .string k
def rawE (v : Value) : Option (DataW Value × List MemPlace) := some (.held v, [])
def rawOf : DataW Value → Option Value
  | .held v => some v
  | _ => none
def lookD (D : DataW Value) (k : KB) : Option Value := if Maps.has D (kb k) = true then rawOf (D.atKey (kb k) .nil) else none
def MapS (P : Program) (K : TypeId) (w : World) (b n : Nat) (f : KB → Option Value) : Prop := ∃ D : DataW Value, w.ownsMap P K rawE b n D ∧ ∀ k, f k = lookD D k
def updF (f : KB → Option Value) (k : KB) (v : Value) : KB → Option Value := fun z => if z = k then some v else f z
def delF (f : KB → Option Value) (k : KB) : KB → Option Value := fun z => if z = k then none else f z
theorem kb_key (k : KB) : WideAt.IsKeyLit (kb k) := trivial
theorem kb_inj {a b : KB} (h : kb a = kb b) : a = b := by unfold kb at h; injection h
theorem kb_same (a b : KB) : (kb a).sameKey (kb b) = decide (a = b) := by
  by_cases h : a = b
  · subst h; rw [WideAt.sameKey_self (kb_key _)]; simp
  · rw [Maps.sameKey_ne (fun e => h (kb_inj e))]; simp [h]
theorem atKey_mem {es : List (Lit × DataW Value)} {k : Lit} (h : Maps.has (DataW.map es) k = true) : ∃ q ∈ es, ∀ z, (DataW.map es).atKey k z = q.2 := by
  rw [Maps.has_eq] at h
  obtain ⟨p, h1, h2⟩ := List.any_eq_true.1 h
  cases hf : es.find? (fun p => p.1.sameKey k) with
  | none => exact absurd h2 (by simpa using List.find?_eq_none.1 hf p h1)
  | some q => exact ⟨q, List.mem_of_find?_eq_some hf, fun z => by unfold DataW.atKey; simp only [hf]⟩
theorem atKey_find {D : DataW Value} {k : Lit} (h : Maps.has D k = true) : ∃ y, ∀ z, D.atKey k z = y := by
  cases D with
  | map es => obtain ⟨q, _, hq⟩ := atKey_mem h; exact ⟨_, hq⟩
  | _ => cases h
section
variable {P : Program} {K e t : TypeId} {w w' : World} {b n : Nat} {f : KB → Option Value}
theorem mapS_made (P : Program) (K : TypeId) (w : World) : MapS P K (w.alloc (.map #[] 0)) w.heap.size 0 fun _ => none :=
  ⟨.map [], World.ownsMap_made w P K rawE, fun _ => rfl⟩
theorem MapS.mono {n' : Nat} (h : MapS P K w b n f) (hn : n ≤ n') : MapS P K w b n' f := let ⟨D, h1, h2⟩ := h; ⟨D, h1.mono hn, h2⟩
theorem MapS.lt (h : MapS P K w b n f) : b < w.heap.size := let ⟨_, h1, _⟩ := h; h1.lt
theorem MapS.kept {row : Option Nat} (h : MapS P K w b n f) (hg : w.grownBy w' row) (hne : some b ≠ row) : MapS P K w' b n f := let ⟨D, h1, h2⟩ := h; ⟨D, h1.kept hg hne, h2⟩
theorem MapS.block (h : MapS P K w b n f) (hb : w'.heap[b]? = w.heap[b]?) : MapS P K w' b n f := by
  obtain ⟨D, ⟨es, clock, h1, h2⟩, h3⟩ := h
  exact ⟨D, ⟨es, clock, hb.trans h1, h2⟩, h3⟩
theorem MapS.below {B : Nat} (h : MapS P K w b n f) (hb : Below B w w') (hB : b < B) : MapS P K w' b n f := h.block (hb.block b hB)
theorem MapS.belowW (h : MapS P K w b n f) (hb : Below w.heap.size w w') : MapS P K w' b n f := h.block (hb.block b h.lt)
theorem MapS.alloc (h : MapS P K w b n f) (o : Obj) : MapS P K (w.alloc o) b n f := let ⟨D, h1, h2⟩ := h; ⟨D, h1.alloc o, h2⟩
theorem MapS.setCell (h : MapS P K w b n f) {a : Addr} (ha : b ≠ a.block) (u : Value) : MapS P K (w.setCell a u) b n f := let ⟨D, h1, h2⟩ := h; ⟨D, h1.setCell ha u, h2⟩
theorem MapS.isMap (h : MapS P K w b n f) : ∃ es clock, w.heap[b]? = some (.map es clock) := let ⟨_, ⟨es, clock, h1, _⟩, _⟩ := h; ⟨es, clock, h1⟩
theorem MapS.ne (h : MapS P K w b n f) {g : Nat} {cs : Array Value} {T : TypeId} {fr : Nat × Nat} (hg : w.heap[g]? = some (.cells cs T fr)) : b ≠ g := by
  rintro rfl
  obtain ⟨es, clock, h1⟩ := h.isMap
  rw [h1] at hg; cases hg
theorem lookD_at {D : DataW Value} (hown : w.ownsMap P K rawE b n D) (hk : P.underlying K = some .string) (ht : P.underlying t = some (.map K e)) {z : Value} (hz : (zeroValue e).run P w = .ok z w) (s : ByteArray) (hs : s.size ≤ maxLen) :
    (Instr.lookup t (.map (some b)) (.string s) true).run P w = .ok (.tuple #[(lookD D s.data.toList).getD z, .bool (lookD D s.data.toList).isSome]) w ∧ (Instr.lookup t (.map (some b)) (.string s) false).run P w = .ok ((lookD D s.data.toList).getD z) w := by
  have key := keyOf_string_mk (P := P) hk hs
  obtain ⟨v, ps, hrun, hv⟩ := hown.look_ok (Maps.string_keyed hk) ht hz (zd := .held z) (zp := []) rfl key
  obtain ⟨v', ps', hrun', hv'⟩ := hown.lookup (Maps.string_keyed hk) ht hz (zd := .held z) (zp := []) rfl key
  have e1 : DataW.held v = D.atKey (kb s.data.toList) (.held z) := by unfold rawE at hv; exact (Prod.mk.inj (Option.some.inj hv)).1
  have e2 : DataW.held v' = D.atKey (kb s.data.toList) (.held z) := by unfold rawE at hv'; exact (Prod.mk.inj (Option.some.inj hv')).1
  have ev : v = v' := by have := e1.trans e2.symm; injection this
  rw [hrun, hrun', ← ev]
  cases hh : Maps.has D (kb s.data.toList) with
  | false =>
    have h0 : lookD D s.data.toList = none := by unfold lookD; rw [hh]; simp
    rw [Maps.atKey_of_not_has hh] at e1
    injection e1 with e1
    rw [h0, e1]
    exact ⟨by rw [show (Maps.has D (.string s.data.toList)) = false from hh]; rfl, rfl⟩
  | true =>
    obtain ⟨y, hy⟩ := atKey_find hh
    have h0 : lookD D s.data.toList = some v := by
      unfold lookD
      rw [if_pos hh, hy, ← hy (.held z), ← e1]; rfl
    rw [h0]
    exact ⟨by rw [show (Maps.has D (.string s.data.toList)) = true from hh]; rfl, rfl⟩
theorem MapS.look (h : MapS P K w b n f) (hk : P.underlying K = some .string) (ht : P.underlying t = some (.map K e)) {z : Value} (hz : (zeroValue e).run P w = .ok z w) (s : ByteArray) (hs : s.size ≤ maxLen) :
    (Instr.lookup t (.map (some b)) (.string s) true).run P w = .ok (.tuple #[(f s.data.toList).getD z, .bool (f s.data.toList).isSome]) w ∧ (Instr.lookup t (.map (some b)) (.string s) false).run P w = .ok ((f s.data.toList).getD z) w := by
  obtain ⟨D, h1, h2⟩ := h
  rw [h2]
  exact lookD_at h1 hk ht hz s hs
theorem lookD_put {D : DataW Value} (hD : Maps.IsMap D) (k z : KB) (v : Value) : lookD (D.put (kb k) (.held v)) z = updF (lookD D) k v z := by
  unfold updF
  by_cases hz : z = k
  · subst hz
    rw [if_pos rfl]
    unfold lookD
    rw [Maps.has_put_same hD (kb_key _), if_pos rfl, Maps.atKey_put_same hD (kb_key _)]; rfl
  · rw [if_neg hz]
    unfold lookD
    have hne : kb z ≠ kb k := fun e => hz (kb_inj e)
    rw [Maps.has_put_other hne, Maps.atKey_put_other hne]
theorem lookD_del (D : DataW Value) (k z : KB) : lookD (D.del (kb k)) z = delF (lookD D) k z := by
  unfold delF
  by_cases hz : z = k
  · subst hz
    rw [if_pos rfl]
    unfold lookD
    rw [Maps.has_del_same]; rfl
  · rw [if_neg hz]
    unfold lookD
    have hne : kb z ≠ kb k := fun e => hz (kb_inj e)
    rw [Maps.has_del_other hne, Maps.atKey_del_other hne]
theorem MapS.store (h : MapS P K w b n f) (hk : P.underlying K = some .string) (ht : P.underlying t = some (.map K e)) (hn : n < maxLen) (s : ByteArray) (hs : s.size ≤ maxLen) (v : Value) :
    ∃ w', (Instr.mapUpdate t (.map (some b)) (.string s) v).run P w = .ok () w' ∧ MapS P K w' b (n + 1) (updF f s.data.toList v) ∧ w.mapTurned w' b := by
  obtain ⟨D, h1, h2⟩ := h
  obtain ⟨w', r1, r2, r3⟩ := h1.store (Maps.string_keyed hk) ht hn (keyOf_string_mk hk hs) (val := v) (d := .held v) (ps := []) rfl
  refine ⟨w', r1, ⟨_, r2, fun z => ?_⟩, r3⟩
  rw [show (Lit.string s.data.toList) = kb s.data.toList from rfl, lookD_put h1.isMap]
  unfold updF
  rw [h2]
theorem MapS.drop (h : MapS P K w b n f) (hk : P.underlying K = some .string) (ht : P.underlying t = some (.map K e)) (s : ByteArray) (hs : s.size ≤ maxLen) (ty : TypeId) :
    ∃ w', (Builtin.delete_ #[t, K] ty #[.map (some b), .string s]).run P w = .ok (.tuple #[]) w' ∧ MapS P K w' b n (delF f s.data.toList) ∧ w.mapTurned w' b := by
  obtain ⟨D, h1, h2⟩ := h
  obtain ⟨w', r1, r2, r3⟩ := h1.drop (Maps.string_keyed hk) ht (keyOf_string_mk hk hs) ty
  refine ⟨w', r1, ⟨_, r2, fun z => ?_⟩, r3⟩
  rw [show (Lit.string s.data.toList) = kb s.data.toList from rfl, lookD_del]
  unfold delF
  rw [h2]
theorem keyed_is (hk : P.underlying K = some .string) {v : Value} {l : Lit} (h : keyOf P K v = some l) : ∃ s : ByteArray, v = .string s ∧ l = kb s.data.toList ∧ s.size ≤ maxLen := by
  rw [keyOf_string hk] at h
  unfold mapKey at h
  rw [hk] at h
  cases v <;> simp at h
  obtain ⟨h1, rfl⟩ := h
  exact ⟨_, rfl, rfl, h1⟩
theorem MapS.keys (h : MapS P K w b n f) (hk : P.underlying K = some .string) : ∃ ks : List KB, ks.Nodup ∧ (∀ k, k ∈ ks ↔ (f k).isSome = true) ∧ ks.length ≤ n ∧ ∀ (t e ty : TypeId), P.underlying t = some (.map K e) → (Builtin.len_ #[t] ty #[.map (some b)]).run P w = .ok (.int .i64 ks.length) w := by
  obtain ⟨D, h1, h2⟩ := h
  obtain ⟨es, hD, hap, hkk⟩ := h1.entries (Maps.string_keyed hk)
  obtain ⟨ms, clock, hb, F, hs, hD2⟩ := id h1
  have hform : ∀ p ∈ es, ∃ k v, p = (kb k, .held v) := fun p hp => by
    have hp2 : p ∈ (ms.toList.map (rg P K rawE)).foldr DataW.insert [] := by
      have := hD.symm.trans hD2
      injection this with this
      rw [← this]; exact hp
    obtain ⟨x, hx, hx2⟩ := List.mem_map.1 (mem_sorted.1 hp2)
    obtain ⟨y, hy⟩ := F.reads x hx
    obtain ⟨s, hs1, hs2, _⟩ := keyed_is hk (rd_key hy)
    obtain ⟨z, hz, hz2⟩ := rd_val hy
    rw [rg_of hy] at hx2
    refine ⟨s.data.toList, x.val, ?_⟩
    rw [← hx2]
    refine Prod.ext hs2 ?_
    rw [hz2]
    unfold rawE at hz
    rw [← Option.some.inj hz]
  refine ⟨es.map fun p => match p.1 with | .string s => s | _ => [], ?_, fun k => ?_, ?_, fun t e ty ht => ?_⟩
  · rw [List.nodup_iff_pairwise_ne, List.pairwise_map]
    refine hap.imp_of_mem fun {a c} ha hc hne he => hne ?_
    obtain ⟨k1, v1, rfl⟩ := hform a ha
    obtain ⟨k2, v2, rfl⟩ := hform c hc
    exact congrArg kb he
  · rw [h2]
    have hhas : Maps.has D (kb k) = true ↔ ∃ p ∈ es, p.1 = kb k := by
      rw [hD, Maps.has_eq, List.any_eq_true]
      constructor
      · rintro ⟨p, h1, h2⟩; exact ⟨p, h1, WideAt.sameKey_eq h2⟩
      · rintro ⟨p, h1, h2⟩; exact ⟨p, h1, by rw [h2]; exact WideAt.sameKey_self (kb_key _)⟩
    constructor
    · intro hm
      obtain ⟨p, hp, hpk⟩ := List.mem_map.1 hm
      obtain ⟨k1, v1, rfl⟩ := hform p hp
      have h9 : k1 = k := hpk
      subst h9
      have hh := hhas.2 ⟨_, hp, rfl⟩
      rw [hD] at hh
      obtain ⟨q, hq, hq2⟩ := atKey_mem hh
      obtain ⟨k2, v2, rfl⟩ := hform q hq
      unfold lookD
      rw [hD, if_pos hh, hq2]; rfl
    · intro hm
      unfold lookD at hm
      by_cases hh : Maps.has D (kb k) = true
      · obtain ⟨p, hp, hpk⟩ := hhas.1 hh
        obtain ⟨k1, v1, rfl⟩ := hform p hp
        exact List.mem_map.2 ⟨_, hp, kb_inj hpk⟩
      · rw [if_neg hh] at hm; cases hm
  · rw [List.length_map]
    have := h1.size_le
    rw [hD, Maps.size_eq] at this
    exact this
  · rw [h1.len ht ty, hD, Maps.size_eq, List.length_map]
end
end Go.Proofs.YtdcmnpeabjallaaGreatDoor
namespace Go.Proofs.YtdcmnpeabjallaaGreatDoor
open Go.RowKit Go.ChangeMaps Go.MapKept Go.WideMaps
open Go.WideElems (Fit rd rg pl rd_val rd_key rg_of rd_mk other_key)
open Go.Maps (Keyed)
section
variable {P : Program} (w : World) {ops : Array Oper} {rest : List Oper} {o : Oper} {a : Act} {Q : Exit → Act → World → Prop}
theorem wpList_store_mapS (hg : o.guard = none) (m x v : Operand) (t : TypeId) (hop : o.op = Op.mapUpdate t m x v) (K e : TypeId) (hk : P.underlying K = some .string) (ht : P.underlying t = some (.map K e)) (b n : Nat) (f : KB → Option Value)
    (hm : a.eval m = .map (some b)) (h : MapS P K w b n f) (hn : n < maxLen) (s : ByteArray) (hs : s.size ≤ maxLen) (hx : a.eval x = .string s) (u : Value) (hv : a.eval v = u)
    (hK : ∀ w', MapS P K w' b (n + 1) (updF f s.data.toList u) → w.mapTurned w' b → wpList P ops Q rest (a.put o.dst undef) w') : wpList P ops Q (o :: rest) a w := by
  refine wpList_plain hg fun K' hK' => ?_
  obtain ⟨w', hrun, r1, r2⟩ := h.store hk ht hn s hs u
  unfold Oper.wp
  simp [execOp, hop, hm, hx, hv, hrun, Result.andThen]
  exact hK' _ _ (hK w' r1 r2)
end
def RangeS (P : Program) (K : TypeId) (w : World) (b r n : Nat) (f : KB → Option Value) (left : KB → Bool) (cnt : Nat) : Prop := ∃ (D : DataW Value) (L : Lit → Bool), w.ranges P K rawE b r n D L cnt ∧ (∀ k, f k = lookD D k) ∧ ∀ k, left k = L (kb k)
theorem lookD_has {P : Program} {K : TypeId} (hk : P.underlying K = some .string) {w : World} {b n : Nat} {D : DataW Value} (h : w.ownsMap P K rawE b n D) (k : KB) : (lookD D k).isSome = Maps.has D (kb k) := by
  obtain ⟨ks, _, h2, _⟩ := MapS.keys (f := lookD D) ⟨D, h, fun _ => rfl⟩ hk
  cases hh : Maps.has D (kb k) with
  | false => unfold lookD; rw [hh]; rfl
  | true =>
    obtain ⟨ms, clock, hb, F, hs, hD2⟩ := h
    rw [hD2] at hh
    obtain ⟨q, hq, hq2⟩ := atKey_mem hh
    obtain ⟨x, hx, hx2⟩ := List.mem_map.1 (mem_sorted.1 hq)
    obtain ⟨y, hy⟩ := F.reads x hx
    obtain ⟨z, hz, hz2⟩ := rd_val hy
    rw [rg_of hy] at hx2
    unfold lookD
    rw [hD2, if_pos hh, hq2, ← hx2, hz2]
    unfold rawE at hz
    rw [← Option.some.inj hz]; rfl
section
variable {P : Program} {K e t : TypeId} {w w' : World} {b r n cnt : Nat} {f : KB → Option Value} {left : KB → Bool}
theorem RangeS.map (h : RangeS P K w b r n f left cnt) : MapS P K w b n f := let ⟨D, _, h1, h2, _⟩ := h; ⟨D, h1.owns, h2⟩
theorem RangeS.ne (h : RangeS P K w b r n f left cnt) : r ≠ b := let ⟨_, _, h1, _⟩ := h; h1.ne
theorem RangeS.lt (h : RangeS P K w b r n f left cnt) : r < w.heap.size := let ⟨_, _, h1, _⟩ := h; h1.lt
theorem RangeS.kept {row : Option Nat} (h : RangeS P K w b r n f left cnt) (hg : w.grownBy w' row) (hb : some b ≠ row) (hr : some r ≠ row) : RangeS P K w' b r n f left cnt := let ⟨D, L, h1, h2⟩ := h; ⟨D, L, h1.kept hg hb hr, h2⟩
theorem RangeS.block (h : RangeS P K w b r n f left cnt) (hb : w'.heap[b]? = w.heap[b]?) (hr : w'.heap[r]? = w.heap[r]?) : RangeS P K w' b r n f left cnt := by
  obtain ⟨D, L, ⟨es, clock, since, seen, c0, h1, h3, h4, h5, h6, h7⟩, h2⟩ := h
  exact ⟨D, L, ⟨es, clock, since, seen, c0, hb.trans h1, h3, h4, h5, hr.trans h6, h7⟩, h2⟩
theorem RangeS.belowW (h : RangeS P K w b r n f left cnt) (hb : Below w.heap.size w w') : RangeS P K w' b r n f left cnt := h.block (hb.block b h.map.lt) (hb.block r h.lt)
theorem MapS.range (h : MapS P K w b n f) (hk : P.underlying K = some .string) (ht : P.underlying t = some (.map K e)) :
    ∃ w', (Instr.range t (.map (some b))).run P w = .ok (.pointer (some ⟨w.heap.size, 0, none⟩)) w' ∧ (∃ cnt, RangeS P K w' b w.heap.size n f (fun k => (f k).isSome) cnt) ∧ w.grownBy w' none ∧ w'.heap.size = w.heap.size + 1 := by
  obtain ⟨D, h1, h2⟩ := h
  obtain ⟨w', r1, r2, r3, r4⟩ := h1.range (Maps.string_keyed hk) ht
  exact ⟨w', r1, ⟨_, D, _, r2, h2, fun k => by show (f k).isSome = _; rw [h2, lookD_has hk h1]⟩, r3, r4⟩
theorem RangeS.next (h : RangeS P K w b r n f left cnt) (hk : P.underlying K = some .string) (ty : TypeId) :
    ((∀ k, left k = false) ∧ (Instr.next (.pointer (some ⟨r, 0, none⟩)) false ty).run P w = .ok (.tuple #[.bool false]) w) ∨
    ∃ (s : ByteArray) (v : Value) (w' : World) (cnt' : Nat), s.size ≤ maxLen ∧ left s.data.toList = true ∧ f s.data.toList = some v ∧ (Instr.next (.pointer (some ⟨r, 0, none⟩)) false ty).run P w = .ok (.tuple #[.bool true, .string s, v]) w' ∧
      RangeS P K w' b r n f (fun k => left k && !decide (k = s.data.toList)) cnt' ∧ cnt' < cnt ∧ w.grownBy w' (some r) ∧ w'.heap.size = w.heap.size ∧ (Instr.entry (.pointer (some ⟨r, 0, none⟩))).run P w' = .ok (.tuple #[.string s, v]) w' := by
  obtain ⟨D, L, h1, h2, h3⟩ := h
  rcases h1.next (Maps.string_keyed hk) ty with ⟨_, hl, hrun⟩ | ⟨key, v, kl, y, w', cnt', hkey, hlk, hv, hat, hrun, hrg, hlt, hgr, hsz, hen⟩
  · exact .inl ⟨fun k => by rw [h3]; exact hl _, hrun⟩
  · obtain ⟨s, rfl, rfl, hs⟩ := keyed_is hk hkey
    refine .inr ⟨s, v, w', cnt', hs, by rw [h3]; exact hlk, ?_, hrun, ⟨D, _, hrg, h2, fun k => ?_⟩, hlt, hgr, hsz, hen⟩
    · have hy : y.1 = .held v := by unfold rawE at hv; rw [← Option.some.inj hv]
      have hh : Maps.has D (kb s.data.toList) = true := by
        cases hh : Maps.has D (kb s.data.toList) with
        | true => rfl
        | false =>
          have h4 := hat .nil
          rw [Maps.atKey_of_not_has hh, hy] at h4
          cases h4
      rw [h2]
      unfold lookD
      rw [if_pos hh, hat, hy]; rfl
    · show (left k && _) = (L (kb k) && _)
      rw [h3, kb_same]
theorem leftOf_size (es : Array MapEntry) (seen : Array Nat) : (leftOf es seen).size = es.toList.countP fun e => !seen.contains e.born := by
  unfold leftOf
  rw [List.countP_eq_length_filter, ← Array.toList_filter, Array.length_toList]
theorem countP_set {α : Type} (p : α → Bool) : ∀ (l : List α) (j : Nat) (x y : α), l[j]? = some x → p y = p x → (l.set j y).countP p = l.countP p
  | [], _, _, _, h, _ => by simp at h
  | z :: r, 0, x, y, h, hp => by simp at h; subst h; rw [List.set_cons_zero, List.countP_cons, List.countP_cons, hp]
  | z :: r, j + 1, x, y, h, hp => by
    rw [List.getElem?_cons_succ] at h
    rw [List.set_cons_succ, List.countP_cons, List.countP_cons, countP_set p r j x y h hp]
theorem RangeS.store (h : RangeS P K w b r n f left cnt) (hk : P.underlying K = some .string) (ht : P.underlying t = some (.map K e)) (hn : n < maxLen) (s : ByteArray) (hs : s.size ≤ maxLen) (hf : (f s.data.toList).isSome = true) (v : Value) :
    ∃ w', (Instr.mapUpdate t (.map (some b)) (.string s) v).run P w = .ok () w' ∧ RangeS P K w' b r n (updF f s.data.toList v) left cnt ∧ w.mapTurned w' b := by
  have hK := Maps.string_keyed (P := P) hk
  have hkey := keyOf_string_mk (P := P) hk hs
  obtain ⟨D, L, h1, h2, h3⟩ := h
  have hown := h1.owns
  have hhas : Maps.has D (kb s.data.toList) = true := by rw [← lookD_has hk hown, ← h2]; exact hf
  have hput := fun z => lookD_put (D := D) hown.isMap s.data.toList z v
  have hne := h1.ne
  obtain ⟨es, clock, since, seen, c0, hb, F, hsz, hD, hr, hold, hcnt, hl1, hl2, hsc, hsk⟩ := h1
  obtain ⟨es', clock', hrun, F', hsort, _⟩ := Maps.fit_store (R' := rawE) hK ht hb F (Nat.lt_of_le_of_lt hsz hn) (fun _ _ _ _ hz => hz) hkey (val := v) (yv := (.held v, [])) rfl
  rcases hK.find w hkey es.toList F.keys with ⟨q1, q2⟩ | ⟨j, e0, q1, q2, q3⟩
  · exfalso
    rw [hD] at hhas
    obtain ⟨q, hq, hsame⟩ := List.any_eq_true.1 hhas
    obtain ⟨x, hx, hx2⟩ := List.mem_map.1 (mem_sorted.1 hq)
    obtain ⟨y, hy⟩ := F.reads x hx
    rw [rg_of hy] at hx2
    have h8 := WideAt.sameKey_eq hsame
    rw [← hx2] at h8
    have h7 := rd_key hy
    rw [h8] at h7
    exact q2 x hx (hK.inj h7 hkey)
  · have hj : es[j]? = some e0 := by simpa using q2
    have hrun2 : (Instr.mapUpdate t (.map (some b)) (.string s) v).run P w = .ok () (setBlock w b (.map (es.modify j fun e' => { e' with key := .string s, val := v }) clock)) := by
      simp [Instr.mapUpdate, run_underlying ht, MapKept.run_getObj_map hb, hK.check w false hkey, q1, hj, q3, hK.stays w hkey, MapKept.run_setObj_map _ hb, Result.andThen, setBlock]
    have heq : es' = (es.modify j fun e' => { e' with key := .string s, val := v }) ∧ clock' = clock := by
      have := hrun.symm.trans hrun2
      injection this with _ this
      have h9 := heap_setBlock_same (o := .map es' clock') hb
      rw [this, heap_setBlock_same hb] at h9
      cases h9; exact ⟨rfl, rfl⟩
    obtain ⟨rfl, rfl⟩ := heq
    have hlist : (es.modify j (fun e' => { e' with key := .string s, val := v })).toList = es.toList.set j { e0 with key := .string s, val := v } := by rw [Array.toList_modify, modify_eq_set _ _ _ _ q2]
    have hjl : j < es.toList.length := (List.getElem?_eq_some_iff.1 q2).1
    have he0 : e0 ∈ es.toList := List.mem_of_getElem? q2
    have hrg0 : (rg P K rawE e0).1 = kb s.data.toList := by
      obtain ⟨y, hy⟩ := F.reads e0 he0
      have := rd_key hy
      rw [q3, hkey] at this
      rw [rg_of hy]; exact (Option.some.inj this).symm
    have hrg1 : (rg P K rawE ({ e0 with key := .string s, val := v } : MapEntry)).1 = kb s.data.toList := by rw [rg_of (rd_mk hkey (yv := (.held v, [])) rfl)]; rfl
    have who : ∀ x ∈ es.toList.set j { e0 with key := .string s, val := v }, x = { e0 with key := .string s, val := v } ∨ x ∈ es.toList := by
      intro x hx
      rcases List.mem_or_eq_of_mem_set hx with h | h
      · exact .inr h
      · exact .inl h
    refine ⟨_, hrun, ⟨D.put (kb s.data.toList) (.held v), L, ⟨_, _, since, seen, c0, heap_setBlock_same hb _, F', ?_, ?_, (heap_setBlock_other hb _ hne).trans hr, ?_, ?_, ?_, ?_, hsc, hsk⟩, fun z => ?_, h3⟩, ⟨es, _, _, _, hb, rfl⟩⟩
    · simpa using hsz
    · rw [hD, DataW.put_eq, hsort]; rfl
    · intro x hx
      rw [hlist] at hx
      rcases who x hx with rfl | hx'
      · exact hold e0 he0
      · exact hold x hx'
    · rw [leftOf_size, hlist, countP_set _ _ j e0 ({ e0 with key := .string s, val := v } : MapEntry) q2 rfl, ← leftOf_size]; exact hcnt
    · intro x hx
      rw [hlist] at hx
      rcases who x hx with rfl | hx'
      · rw [hrg1, ← hrg0]; exact hl1 e0 he0
      · exact hl1 x hx'
    · intro kl hkl
      obtain ⟨x, hx, hxk⟩ := hl2 kl hkl
      rw [hlist]
      obtain ⟨i, hi⟩ := List.getElem?_of_mem hx
      by_cases hij : i = j
      · subst hij
        rw [q2] at hi
        cases hi
        exact ⟨_, List.mem_set (by simpa using hjl) _, by rw [hrg1, ← hrg0]; exact hxk⟩
      · exact ⟨x, List.mem_of_getElem? (i := i) (by rw [List.getElem?_set_ne (Ne.symm hij)]; exact hi), hxk⟩
    · rw [hput]; unfold updF; rw [h2]
end
section
variable {P : Program} (w : World) {ops : Array Oper} {rest : List Oper} {o : Oper} {a : Act} {Q : Exit → Act → World → Prop}
theorem wpList_range_mapS (hg : o.guard = none) (m : Operand) (t : TypeId) (hop : o.op = Op.range t m) (K e : TypeId) (hk : P.underlying K = some .string) (ht : P.underlying t = some (.map K e)) (b n : Nat) (f : KB → Option Value)
    (hm : a.eval m = .map (some b)) (h : MapS P K w b n f)
    (hK : ∀ w' cnt, RangeS P K w' b w.heap.size n f (fun k => (f k).isSome) cnt → w.grownBy w' none → w'.heap.size = w.heap.size + 1 → wpList P ops Q rest (a.put o.dst (.pointer (some ⟨w.heap.size, 0, none⟩))) w') :
    wpList P ops Q (o :: rest) a w := by
  refine wpList_plain hg fun K' hK' => ?_
  obtain ⟨w', hrun, ⟨cnt, r1⟩, r2, r3⟩ := h.range hk ht
  unfold Oper.wp
  simp [execOp, hop, hm, hrun, Result.andThen]
  exact hK' _ _ (hK w' cnt r1 r2 r3)
theorem wpList_next_rangeS (hg : o.guard = none) (it : Operand) (hop : o.op = Op.next it false) (K : TypeId) (hk : P.underlying K = some .string) (b r n : Nat) (f : KB → Option Value) (left : KB → Bool) (cnt : Nat)
    (hit : a.eval it = .pointer (some ⟨r, 0, none⟩)) (h : RangeS P K w b r n f left cnt)
    (hDone : (∀ k, left k = false) → wpList P ops Q rest (a.put o.dst (.tuple #[.bool false])) w)
    (hMore : ∀ (s : ByteArray) (v : Value) (w' : World) (cnt' : Nat), s.size ≤ maxLen → left s.data.toList = true → f s.data.toList = some v → RangeS P K w' b r n f (fun k => left k && !decide (k = s.data.toList)) cnt' → cnt' < cnt →
      w.grownBy w' (some r) → w'.heap.size = w.heap.size → (Instr.entry (.pointer (some ⟨r, 0, none⟩))).run P w' = .ok (.tuple #[.string s, v]) w' → wpList P ops Q rest (a.put o.dst (.tuple #[.bool true, .string s, v])) w') :
    wpList P ops Q (o :: rest) a w := by
  refine wpList_plain hg fun K' hK' => ?_
  unfold Oper.wp
  rcases h.next hk o.type with ⟨hl, hrun⟩ | ⟨s, v, w', cnt', hs, hlk, hv, hrun, hrg, hlt, hgr, hsz, hen⟩
  · simp [execOp, hop, hit, hrun, Result.andThen]
    exact hK' _ _ (hDone hl)
  · simp [execOp, hop, hit, hrun, Result.andThen]
    exact hK' _ _ (hMore s v w' cnt' hs hlk hv hrg hlt hgr hsz hen)
theorem wpList_store_rangeS (hg : o.guard = none) (m x v : Operand) (t : TypeId) (hop : o.op = Op.mapUpdate t m x v) (K e : TypeId) (hk : P.underlying K = some .string) (ht : P.underlying t = some (.map K e)) (b r n : Nat) (f : KB → Option Value) (left : KB → Bool) (cnt : Nat)
    (hm : a.eval m = .map (some b)) (h : RangeS P K w b r n f left cnt) (hn : n < maxLen) (s : ByteArray) (hs : s.size ≤ maxLen) (hx : a.eval x = .string s) (hf : (f s.data.toList).isSome = true) (u : Value) (hv : a.eval v = u)
    (hK : ∀ w', RangeS P K w' b r n (updF f s.data.toList u) left cnt → w.mapTurned w' b → wpList P ops Q rest (a.put o.dst undef) w') : wpList P ops Q (o :: rest) a w := by
  refine wpList_plain hg fun K' hK' => ?_
  obtain ⟨w', hrun, r1, r2⟩ := h.store hk ht hn s hs hf u
  unfold Oper.wp
  simp [execOp, hop, hm, hx, hv, hrun, Result.andThen]
  exact hK' _ _ (hK w' r1 r2)
end
end Go.Proofs.YtdcmnpeabjallaaGreatDoor
namespace Go.Proofs.YtdcmnpeabjallaaGreatDoor
open Go.RowKit Go.MapKept Go.ChangeMaps
open JP (JV Bs Lf)
abbrev BookF := Bs → Option (List Bs)
def BookAt (w : World) (lo b n : Nat) (g : BookF) : Prop := ∃ f : KB → Option Value, MapS Tryz.prog 9 w b n f ∧ (∀ k, (f k).isSome = (g k).isSome) ∧ (∀ k v l, f k = some v → g k = some l → OwnAt RString 1 w lo 9 v (l.map mkB)) ∧
  (∀ k k' v v' q, k ≠ k' → f k = some v → f k' = some v' → v.ownBlock = some q → v'.ownBlock ≠ some q) ∧ lo ≤ b
theorem own_keepB {w w' : World} {B : Nat} {v : Value} {l : List ByteArray} (h : OwnAt RString 1 w B 9 v l) (hb : ∀ q, v.ownBlock = some q → w'.heap[q]? = w.heap[q]?) : OwnAt RString 1 w' B 9 v l := by
  obtain ⟨css, h1, h2, h3, h4⟩ := h
  refine ⟨css, h1, h2, ⟨h3.1, ?_⟩, h4⟩
  rcases h3.2 with h5 | ⟨q, cap, cur, rfl, hB, hh, hr⟩
  · exact .inl h5
  · exact .inr ⟨q, cap, cur, rfl, hB, (hb q rfl).trans hh, hr⟩
theorem turned_block {w w' : World} {b k : Nat} (h : w.mapTurned w' b) (hk : k ≠ b) : w'.heap[k]? = w.heap[k]? := by
  obtain ⟨es, clock, es', clock', hb, rfl⟩ := h
  exact heap_setBlock_other hb _ hk
theorem own_turned {w w' : World} {B b : Nat} {v : Value} {l : List ByteArray} (h : OwnAt RString 1 w B 9 v l) (ht : w.mapTurned w' b) : OwnAt RString 1 w' B 9 v l :=
  own_keepB h fun q hq => turned_block ht fun e => by
    obtain ⟨_, _, cur, h1⟩ := h.at hq
    obtain ⟨es, clock, _, _, hb, _⟩ := ht
    rw [e, hb] at h1; cases h1
theorem BookAt.below {w w' : World} {lo b n : Nat} {g : BookF} (h : BookAt w lo b n g) (hb : Below w.heap.size w w') : BookAt w' lo b n g := by
  obtain ⟨f, h1, h2, h3, h4, h5⟩ := h
  exact ⟨f, h1.belowW hb, h2, fun k v l hk hg => own_keepB (h3 k v l hk hg) fun q hq => hb.block q ((h3 k v l hk hg).at hq).2.1, h4, h5⟩
theorem BookAt.lt {w : World} {lo b n : Nat} {g : BookF} (h : BookAt w lo b n g) : b < w.heap.size := let ⟨_, h1, _⟩ := h; h1.lt
theorem book_made (w : World) : BookAt (w.alloc (.map #[] 0)) w.heap.size w.heap.size 0 fun _ => none :=
  ⟨fun _ => none, mapS_made _ _ _, fun _ => rfl, fun _ _ _ h => (by cases h), fun _ _ _ _ _ _ h => (by cases h), Nat.le_refl _⟩
def updG (g : BookF) (k : Bs) (l : List Bs) : BookF := fun z => if z = k then some l else g z
theorem book_put {w w' : World} {lo b n n' : Nat} {g : BookF} {f : KB → Option Value} {k : Bs} {v : Value} {l : List Bs} (h2 : ∀ k, (f k).isSome = (g k).isSome) (h3 : ∀ k v l, f k = some v → g k = some l → OwnAt RString 1 w lo 9 v (l.map mkB))
    (h4 : ∀ k k' v v' q, k ≠ k' → f k = some v → f k' = some v' → v.ownBlock = some q → v'.ownBlock ≠ some q) (h5 : lo ≤ b) (hm : MapS Tryz.prog 9 w' b n' (updF f k v)) (ht : w.mapTurned w' b) (hv : OwnAt RString 1 w lo 9 v (l.map mkB))
    (hap : ∀ k' v' q, k' ≠ k → f k' = some v' → v'.ownBlock = some q → v.ownBlock ≠ some q) : BookAt w' lo b n' (updG g k l) := by
  refine ⟨_, hm, fun z => ?_, fun z u m hz hg => ?_, fun z z' u u' q hne hz hz' hq => ?_, h5⟩
  · unfold updF updG; split
    · rfl
    · exact h2 z
  · unfold updF at hz; unfold updG at hg
    by_cases e : z = k
    · rw [if_pos e] at hz hg; cases hz; cases hg; exact own_turned hv ht
    · rw [if_neg e] at hz hg; exact own_turned (h3 z u m hz hg) ht
  · unfold updF at hz hz'
    by_cases e : z = k
    · rw [if_pos e] at hz; cases hz
      rw [if_neg (fun e2 => hne (e.trans e2.symm))] at hz'
      intro hq'
      exact hap z' u' q (fun e2 => hne (e.trans e2.symm)) hz' hq' hq
    · rw [if_neg e] at hz
      by_cases e' : z' = k
      · rw [if_pos e'] at hz'; cases hz'
        exact fun hq' => hap z u q e hz hq hq'
      · rw [if_neg e'] at hz'
        exact h4 z z' u u' q hne hz hz' hq
theorem Tryz.zeroStrs (w : World) : (zeroValue 28).run Tryz.prog w = .ok (.slice none 0 0) w := by kernel_rfl
def OthersIs (g : BookF) (m : Bs) (p : Bs → Bool) (B : Bool) : Prop := B = true ↔ ∃ k l, g k = some l ∧ k ≠ m ∧ l.any p = true
end Go.Proofs.YtdcmnpeabjallaaGreatDoor
namespace Go.Proofs.YtdcmnpeabjallaaGreatDoor
open Go.RowKit
open JP (JV Bs Lf)
set_option maxRecDepth 100000 in
set_option maxHeartbeats 3200000 in
theorem others1_any {f : FuncId} {cap1 : Value} {Cap : World → Prop} {p : Bs → Bool} (enter : ∀ (a : Array Value) (w : World), (callFunc f a).run Tryz.prog w = .ok (.enter f a) w)
    (keepC : ∀ w w' : World, Cap w → Below w.heap.size w w' → Cap w')
    (clo : ∀ (x : ByteArray) (w : World), x.size ≤ 1048576 → Cap w → Calls Tryz.prog f #[.string x, cap1] w fun e w' => e = .returned (.bool (p x.data.toList)) ∧ Below w.heap.size w w')
    (w : World) (lo b n : Nat) (g : BookF) (m : Bs) (hb : BookAt w lo b n g) (hg : ∀ k l, g k = some l → l.length ≤ 1048576 ∧ ∀ s ∈ l, s.length ≤ 1048576) (hc : Cap w) :
    Calls Tryz.prog 57 #[.map (some b), .string (mkB m), .func (.func f) #[] #[cap1]] w fun e w' => ∃ B, e = .returned (.bool B) ∧ OthersIs g m p B ∧ Below w.heap.size w w' := by
  obtain ⟨F, hm, h2, h3, h4, h5⟩ := hb
  have HM := Lib.hid hm
  have H2 := Lib.hid h2
  have H3 := Lib.hid h3
  have Hg := Lib.hid hg
  have Hc := Lib.hid hc
  have HC := Lib.hid clo
  have HK := Lib.hid keepC
  have ep := enter
  have hbw := hm.lt
  clear hm h2 h3 h4 h5 hg hc clo keepC enter
  go_enter Tryz.func57, Tryz.ntmps57
  go_wp2_with (at_range; refine wpList_range_mapS _ (by rfl) _ 56 (by rfl) 9 28 Tryz.underlying9 Tryz.underlying56 b n F (by rfl) HM.out ?_; intro w1 cnt hrg hgr hsz)
  try go_frame
  have hb1 : Below w.heap.size w w1 := ⟨hgr.os, hgr.tape, hgr.output, hgr.size, fun k hk => hgr.block k hk (by simp)⟩
  have HR1 := Lib.hid hrg
  have HB1 := Lib.hid hb1
  obtain ⟨r, hr⟩ : ∃ r, w.heap.size = r := ⟨_, rfl⟩
  rw [hr] at HR1 ⊢
  have Hr := Lib.hid hr
  clear hrg hgr hsz hb1 hr
  go_loopg [7, 8] cnt (fun k u7 u8 wr => ∃ left : KB → Bool, Hid (RangeS Tryz.prog 9 wr b r n F left k) ∧ Hid (∀ k l, g k = some l → left k = false → k ≠ m → l.any p = false) ∧ Hid (Below w.heap.size w wr))
  case atStart =>
    refine ⟨_, HR1, Lib.hid fun k l hk hl => ?_, HB1⟩
    have h9 := H2.out k
    rw [hl, hk] at h9; cases h9
  case round =>
    obtain ⟨left, HR, Hno, Hbel⟩ := hrel
    go_wp2_with (at_next; refine wpList_next_rangeS _ (by rfl) _ (by rfl) 9 Tryz.underlying9 b r n F left gk (by rfl) HR.out ?_ ?_)
    · intro hl0
      have Hans : Hid (OthersIs g m p false) := Lib.hid ⟨fun h => (by cases h), fun ⟨k, l, h1, h2, h3⟩ => by rw [Hno.out k l h1 (hl0 k) h2] at h3; cases h3⟩
      clear hl0 Hno
      go_wp2_with fail
      go_ret
      exact ⟨false, rfl, Hans.out, Hbel.out⟩
    · intro s v w2 cnt2 hs hlk hv hrg2 hlt hgr2 hsz2 hen
      obtain ⟨l, hgl⟩ : ∃ l, g s.data.toList = some l := by
        have h9 := H2.out s.data.toList
        rw [hv] at h9
        exact Option.isSome_iff_exists.1 h9.symm
      have hown := H3.out _ _ _ hv hgl
      have hrw : w.heap.size ≤ r := by rw [Hr.out]; exact Nat.le_refl _
      have hbel2 : Below w.heap.size w w2 := Hbel.out.grown hgr2 Hbel.out.size (fun j hj => by cases hj; exact hrw)
      have hsz2' : w.heap.size ≤ w2.heap.size := hbel2.size
      have hrow : RowAt RString 1 w2 v (l.map mkB) := (own_keepB hown fun q hq => hbel2.block q (hown.at hq).2.1).row
      obtain ⟨va, vc, rfl, -, -⟩ := hrow.len
      obtain ⟨vn, hvn⟩ : ∃ vn, (l.map mkB).length = vn := ⟨_, rfl⟩
      rw [hvn] at hen hrow ⊢
      have hvl : vn ≤ 1048576 := by rw [← hvn, List.length_map]; exact (Hg.out _ _ hgl).1
      have Hen := hen
      have hCap2 : Cap w2 := HK.out w w2 Hc.out hbel2
      have HANY := Lib.hid (anyStr1_any (p := fun x => p x.data.toList) (OK := fun x => x.size ≤ 1048576) ep HK.out (fun x w' h1 h2 => HC.out x w' h1 h2) _ _ w2 hrow (by rw [hvn]; omega) (fun x hx => by
        obtain ⟨t, ht, rfl⟩ := List.mem_map.1 hx
        rw [mkB_size]; exact (Hg.out _ _ hgl).2 t ht) hCap2)
      have hsz3 := hbel2.size
      have HR2 := Lib.hid hrg2
      have HB2 := Lib.hid hbel2
      have Hgl := Lib.hid hgl
      have hany : (l.map mkB).any (fun x => p x.data.toList) = l.any p := by
        rw [List.any_map]
        refine congrArg (fun q => l.any q) (funext fun t => ?_)
        show p (mkB t).data.toList = p t
        rw [mkB_list]
      rw [hany] at HANY
      obtain ⟨hit, Hhit⟩ : ∃ hit, Hid (l.any p = hit) := ⟨_, Lib.hid rfl⟩
      rw [Hhit.out] at HANY
      have e1 : ((s).toList == (mkB m).toList) = decide (s.data.toList = m) := by
        rw [ByteArray.toList_eq, ByteArray.toList_eq, mkB_list, Bool.eq_iff_iff, beq_iff_eq, decide_eq_true_iff]
      obtain ⟨km, Hkm⟩ : ∃ km, Hid (decide (s.data.toList = m) = km) := ⟨_, Lib.hid rfl⟩
      rw [Hkm.out] at e1
      have hnext : Hid (km = true ∨ hit = false → ∀ k l, g k = some l → (left k && !decide (k = s.data.toList)) = false → k ≠ m → l.any p = false) := Lib.hid fun hor k l' h1 h2 h3 => by
        by_cases e : k = s.data.toList
        · subst e
          rw [Hgl.out] at h1
          cases h1
          rcases hor with h | h
          · have := Hkm.out
            rw [h] at this
            exact absurd (of_decide_eq_true this) h3
          · rw [Hhit.out]; exact h
        · rw [decide_eq_false e] at h2
          exact Hno.out k l' h1 (by simpa using h2) h3
      have hans : Hid (km = false → hit = true → OthersIs g m p true) := Lib.hid fun h1 h2 => ⟨fun _ => ⟨s.data.toList, l, Hgl.out, by
        have := Hkm.out
        rw [h1] at this
        exact of_decide_eq_false this, by rw [Hhit.out]; exact h2⟩, fun _ => rfl⟩
      clear hrg2 hgr2 hsz2 hbel2 hrow hown hv hlk hgl hCap2 hany hvn Hen
      cases km with
      | true =>
        go_wp2_with fail
        go_roundg cnt2
        case measure => exact hlt
        case rel => exact ⟨_, HR2, Lib.hid (hnext.out (.inl trivial)), HB2⟩
      | false =>
        go_wp2_with fail
        refine HANY.out.mono ?_
        rintro E w3 ⟨rfl, hb3⟩
        have HR3 := Lib.hid (HR2.out.belowW hb3)
        have HB3 := Lib.hid (HB2.out.trans (hb3.mono hsz3))
        clear hb3
        cases hit with
        | true =>
          go_wp2_with fail
          go_ret
          exact ⟨true, rfl, hans.out trivial trivial, HB3.out⟩
        | false =>
          go_wp2_with fail
          go_roundg cnt2
          case measure => exact hlt
          case rel => exact ⟨_, HR3, Lib.hid (hnext.out (.inr trivial)), HB3⟩
set_option maxRecDepth 100000 in
set_option maxHeartbeats 3200000 in
theorem others2_any {f : FuncId} {cap1 cap2 : Value} {Cap : World → Prop} {p : Bs → Bool} (enter : ∀ (a : Array Value) (w : World), (callFunc f a).run Tryz.prog w = .ok (.enter f a) w)
    (keepC : ∀ w w' : World, Cap w → Below w.heap.size w w' → Cap w')
    (clo : ∀ (x : ByteArray) (w : World), x.size ≤ 1048576 → Cap w → Calls Tryz.prog f #[.string x, cap1, cap2] w fun e w' => e = .returned (.bool (p x.data.toList)) ∧ Below w.heap.size w w')
    (w : World) (lo b n : Nat) (g : BookF) (m : Bs) (hb : BookAt w lo b n g) (hg : ∀ k l, g k = some l → l.length ≤ 1048576 ∧ ∀ s ∈ l, s.length ≤ 1048576) (hc : Cap w) :
    Calls Tryz.prog 57 #[.map (some b), .string (mkB m), .func (.func f) #[] #[cap1, cap2]] w fun e w' => ∃ B, e = .returned (.bool B) ∧ OthersIs g m p B ∧ Below w.heap.size w w' := by
  obtain ⟨F, hm, h2, h3, h4, h5⟩ := hb
  have HM := Lib.hid hm
  have H2 := Lib.hid h2
  have H3 := Lib.hid h3
  have Hg := Lib.hid hg
  have Hc := Lib.hid hc
  have HC := Lib.hid clo
  have HK := Lib.hid keepC
  have ep := enter
  have hbw := hm.lt
  clear hm h2 h3 h4 h5 hg hc clo keepC enter
  go_enter Tryz.func57, Tryz.ntmps57
  go_wp2_with (at_range; refine wpList_range_mapS _ (by rfl) _ 56 (by rfl) 9 28 Tryz.underlying9 Tryz.underlying56 b n F (by rfl) HM.out ?_; intro w1 cnt hrg hgr hsz)
  try go_frame
  have hb1 : Below w.heap.size w w1 := ⟨hgr.os, hgr.tape, hgr.output, hgr.size, fun k hk => hgr.block k hk (by simp)⟩
  have HR1 := Lib.hid hrg
  have HB1 := Lib.hid hb1
  obtain ⟨r, hr⟩ : ∃ r, w.heap.size = r := ⟨_, rfl⟩
  rw [hr] at HR1 ⊢
  have Hr := Lib.hid hr
  clear hrg hgr hsz hb1 hr
  go_loopg [7, 8] cnt (fun k u7 u8 wr => ∃ left : KB → Bool, Hid (RangeS Tryz.prog 9 wr b r n F left k) ∧ Hid (∀ k l, g k = some l → left k = false → k ≠ m → l.any p = false) ∧ Hid (Below w.heap.size w wr))
  case atStart =>
    refine ⟨_, HR1, Lib.hid fun k l hk hl => ?_, HB1⟩
    have h9 := H2.out k
    rw [hl, hk] at h9; cases h9
  case round =>
    obtain ⟨left, HR, Hno, Hbel⟩ := hrel
    go_wp2_with (at_next; refine wpList_next_rangeS _ (by rfl) _ (by rfl) 9 Tryz.underlying9 b r n F left gk (by rfl) HR.out ?_ ?_)
    · intro hl0
      have Hans : Hid (OthersIs g m p false) := Lib.hid ⟨fun h => (by cases h), fun ⟨k, l, h1, h2, h3⟩ => by rw [Hno.out k l h1 (hl0 k) h2] at h3; cases h3⟩
      clear hl0 Hno
      go_wp2_with fail
      go_ret
      exact ⟨false, rfl, Hans.out, Hbel.out⟩
    · intro s v w2 cnt2 hs hlk hv hrg2 hlt hgr2 hsz2 hen
      obtain ⟨l, hgl⟩ : ∃ l, g s.data.toList = some l := by
        have h9 := H2.out s.data.toList
        rw [hv] at h9
        exact Option.isSome_iff_exists.1 h9.symm
      have hown := H3.out _ _ _ hv hgl
      have hrw : w.heap.size ≤ r := by rw [Hr.out]; exact Nat.le_refl _
      have hbel2 : Below w.heap.size w w2 := Hbel.out.grown hgr2 Hbel.out.size (fun j hj => by cases hj; exact hrw)
      have hsz2' : w.heap.size ≤ w2.heap.size := hbel2.size
      have hrow : RowAt RString 1 w2 v (l.map mkB) := (own_keepB hown fun q hq => hbel2.block q (hown.at hq).2.1).row
      obtain ⟨va, vc, rfl, -, -⟩ := hrow.len
      obtain ⟨vn, hvn⟩ : ∃ vn, (l.map mkB).length = vn := ⟨_, rfl⟩
      rw [hvn] at hen hrow ⊢
      have hvl : vn ≤ 1048576 := by rw [← hvn, List.length_map]; exact (Hg.out _ _ hgl).1
      have Hen := hen
      have hCap2 : Cap w2 := HK.out w w2 Hc.out hbel2
      have HANY := Lib.hid (anyStr2_any (p := fun x => p x.data.toList) (OK := fun x => x.size ≤ 1048576) ep HK.out (fun x w' h1 h2 => HC.out x w' h1 h2) _ _ w2 hrow (by rw [hvn]; omega) (fun x hx => by
        obtain ⟨t, ht, rfl⟩ := List.mem_map.1 hx
        rw [mkB_size]; exact (Hg.out _ _ hgl).2 t ht) hCap2)
      have hsz3 := hbel2.size
      have HR2 := Lib.hid hrg2
      have HB2 := Lib.hid hbel2
      have Hgl := Lib.hid hgl
      have hany : (l.map mkB).any (fun x => p x.data.toList) = l.any p := by
        rw [List.any_map]
        refine congrArg (fun q => l.any q) (funext fun t => ?_)
        show p (mkB t).data.toList = p t
        rw [mkB_list]
      rw [hany] at HANY
      obtain ⟨hit, Hhit⟩ : ∃ hit, Hid (l.any p = hit) := ⟨_, Lib.hid rfl⟩
      rw [Hhit.out] at HANY
      have e1 : ((s).toList == (mkB m).toList) = decide (s.data.toList = m) := by
        rw [ByteArray.toList_eq, ByteArray.toList_eq, mkB_list, Bool.eq_iff_iff, beq_iff_eq, decide_eq_true_iff]
      obtain ⟨km, Hkm⟩ : ∃ km, Hid (decide (s.data.toList = m) = km) := ⟨_, Lib.hid rfl⟩
      rw [Hkm.out] at e1
      have hnext : Hid (km = true ∨ hit = false → ∀ k l, g k = some l → (left k && !decide (k = s.data.toList)) = false → k ≠ m → l.any p = false) := Lib.hid fun hor k l' h1 h2 h3 => by
        by_cases e : k = s.data.toList
        · subst e
          rw [Hgl.out] at h1
          cases h1
          rcases hor with h | h
          · have := Hkm.out
            rw [h] at this
            exact absurd (of_decide_eq_true this) h3
          · rw [Hhit.out]; exact h
        · rw [decide_eq_false e] at h2
          exact Hno.out k l' h1 (by simpa using h2) h3
      have hans : Hid (km = false → hit = true → OthersIs g m p true) := Lib.hid fun h1 h2 => ⟨fun _ => ⟨s.data.toList, l, Hgl.out, by
        have := Hkm.out
        rw [h1] at this
        exact of_decide_eq_false this, by rw [Hhit.out]; exact h2⟩, fun _ => rfl⟩
      clear hrg2 hgr2 hsz2 hbel2 hrow hown hv hlk hgl hCap2 hany hvn Hen
      cases km with
      | true =>
        go_wp2_with fail
        go_roundg cnt2
        case measure => exact hlt
        case rel => exact ⟨_, HR2, Lib.hid (hnext.out (.inl trivial)), HB2⟩
      | false =>
        go_wp2_with fail
        refine HANY.out.mono ?_
        rintro E w3 ⟨rfl, hb3⟩
        have HR3 := Lib.hid (HR2.out.belowW hb3)
        have HB3 := Lib.hid (HB2.out.trans (hb3.mono hsz3))
        clear hb3
        cases hit with
        | true =>
          go_wp2_with fail
          go_ret
          exact ⟨true, rfl, hans.out trivial trivial, HB3.out⟩
        | false =>
          go_wp2_with fail
          go_roundg cnt2
          case measure => exact hlt
          case rel => exact ⟨_, HR3, Lib.hid (hnext.out (.inr trivial)), HB3⟩
end Go.Proofs.YtdcmnpeabjallaaGreatDoor
namespace Go.Proofs.YtdcmnpeabjallaaGreatDoor
open Go.RowKit
open JP (JV Bs Lf)
open Classical in
noncomputable def othersG (g : BookF) (m : Bs) (p : Bs → Bool) : Bool := decide (∃ k l, g k = some l ∧ k ≠ m ∧ l.any p = true)
theorem OthersIs.eq {g : BookF} {m : Bs} {p : Bs → Bool} {B : Bool} (h : OthersIs g m p B) : B = othersG g m p := by
  unfold othersG
  rw [Bool.eq_iff_iff]
  exact h.trans (@decide_eq_true_iff _ (Classical.propDecidable _)).symm
structure BarCap (gd gx g : Nat) (lv mv lf sv vv : Value) (m : Bs) (live : JV) (x : Leaf) (w : World) : Prop where
  bd : w.heap[gd]? = some (.cells #[.pointer (some ⟨g, 0, none⟩)] 54 (0, 0))
  bx : w.heap[gx]? = some (.cells #[.string (mkB (pathP x.1)), sv, vv] 65 (0, 0))
  deal : DealAt w g lv mv m lf
  live : ∃ n, JvAt n [] w lv live
  steps : StrAt w sv (x.1.map mkB)
  val : ∃ k, JvAt k [] w vv x.2
  env : Env w
theorem DealAt.below {w w' : World} {g : Nat} {lv mv lf : Value} {m : Bs} (h : DealAt w g lv mv m lf) (hb : Below w.heap.size w w') : DealAt w' g lv mv m lf := by
  unfold DealAt at h ⊢
  exact below_block hb h
theorem BarCap.below {gd gx g : Nat} {lv mv lf sv vv : Value} {m : Bs} {live : JV} {x : Leaf} {w w' : World} (h : BarCap gd gx g lv mv lf sv vv m live x w) (hb : Below w.heap.size w w') : BarCap gd gx g lv mv lf sv vv m live x w' :=
  ⟨below_block hb h.bd, below_block hb h.bx, h.deal.below hb, (let ⟨n, hn⟩ := h.live; ⟨n, hn.below hb⟩), h.steps.below hb, (let ⟨n, hn⟩ := h.val; ⟨n, hn.below hb⟩), h.env.below hb⟩
set_option maxRecDepth 100000 in
set_option maxHeartbeats 1600000 in
theorem conf1_any {gd gx g : Nat} {lv mv lf sv vv : Value} {m : Bs} {live : JV} {x : Leaf} {w : World} (p : ByteArray) (hp : p.size ≤ 1048576) (h : BarCap gd gx g lv mv lf sv vv m live x w) (hf : JP.Fit live) (hx : LeafFit x) :
    Calls Tryz.prog 58 #[.string p, .pointer (some ⟨gd, 0, none⟩), .pointer (some ⟨gx, 0, none⟩)] w fun e w' => e = .returned (.bool (JP.barsB live x p.data.toList)) ∧ Below w.heap.size w w' := by
  have HB := Lib.hid (bars_any (p := p.data.toList) h.deal h.live hf h.steps h.val hx (by rw [Array.length_toList]; exact hp) h.env)
  rw [mkB_of] at HB
  have c1 := fun i => cell_block h.bd i
  have c2 := fun i => cell_block h.bx i
  obtain ⟨sa, sc, rfl, -, -⟩ := h.steps.row.len
  have hvf : vv = .nilIface ∨ ∃ t u, vv = .iface t u := by obtain ⟨k, hk⟩ := h.val; exact jv_form hk
  obtain ⟨sn, hsn⟩ : ∃ sn, (x.1.map mkB).length = sn := ⟨_, rfl⟩
  rw [hsn] at c2 HB
  obtain ⟨ans, Hans⟩ : ∃ ans, Hid (JP.barsB live x p.data.toList = ans) := ⟨_, Lib.hid rfl⟩
  rw [Hans.out] at HB ⊢
  clear h hf hx hsn
  rcases hvf with rfl | ⟨vt, vu, rfl⟩
  all_goals
    go_enter Tryz.func58, Tryz.ntmps58
    go_wp2_with fail
    refine HB.out.mono ?_
    rintro E w1 ⟨rfl, hb1⟩
    have Hb1 := Lib.hid hb1
    clear hb1
    go_wp2_with fail
    go_ret
    exact ⟨rfl, Hb1.out⟩
theorem run_conf1 : ∀ (a : Array Value) (w : World), (callFunc 58 a).run Tryz.prog w = .ok (.enter 58 a) w := run_callFunc_body Tryz.func58 (by kernel_rfl) (by kernel_rfl)
theorem below_drewF (w : World) : Below w.heap.size w w.drew := ⟨rfl, rfl, rfl, Nat.le_refl _, fun _ _ => rfl⟩
set_option maxRecDepth 100000 in
set_option maxHeartbeats 6400000 in
theorem conflicts_any {g lo b n : Nat} {lv lf : Value} {m : Bs} {live : JV} {W : List Leaf} {bk : BookF} {w : World} (hd : DealAt w g lv (.map (some b)) m lf) (hl : ∃ n, JvAt n [] w lv live) (hf : JP.Fit live) (hW : RowAt LeafR 3 w lf W) (hWl : W.length ≤ 1048576) (hx : ∀ x ∈ W, LeafFit x)
    (hb : BookAt w lo b n bk) (hg : ∀ k l, bk k = some l → l.length ≤ 1048576 ∧ ∀ s ∈ l, s.length ≤ 1048576) (hE : Env w) :
    Calls Tryz.prog 34 #[.pointer (some ⟨g, 0, none⟩)] w fun e w' => ∃ v, e = .returned v ∧ OwnAt RString 1 w' w.heap.size 9 v ((W.filter fun x => othersG bk m (JP.barsB live x)).map fun x => mkB (pathP x.1)) ∧ Below w.heap.size w w' := by
  obtain ⟨j0, hj0, hy0, hy1, hy2⟩ := info_parts Tryz.infoStr
  obtain ⟨a1, c1, rfl, _, _⟩ := hW.len
  obtain ⟨nW, hnW⟩ : ∃ n, W.length = n := ⟨_, rfl⟩
  rw [hnW] at hW hd hWl
  have hlf : lv = .nilIface ∨ ∃ t u, lv = .iface t u := by obtain ⟨k, hk⟩ := hl; exact jv_form hk
  obtain ⟨w1, hw1⟩ : ∃ w1, w1 = w.alloc (.cells #[.pointer (some ⟨g, 0, none⟩)] 54) := ⟨_, rfl⟩
  obtain ⟨gd, hgd⟩ : ∃ gd, gd = w.heap.size := ⟨_, rfl⟩
  have b1 : w1.heap[gd]? = some (.cells #[.pointer (some ⟨g, 0, none⟩)] 54 (0, 0)) := by rw [hw1, hgd]; exact heap_alloc_new w _
  have hb1 : Below w.heap.size w w1 := by rw [hw1]; exact (Below.refl _ w).alloc (Nat.le_refl _) _
  have D1 : Hid (DealAt w1 g lv (.map (some b)) m (.slice a1 nW c1)) := Lib.hid (hd.below hb1)
  have HB1 := Lib.hid hb1
  have G1 := Lib.hid b1
  have HBk := Lib.hid (hb.below hb1)
  have HW := Lib.hid (leaves_below hW hb1)
  have HL : Hid (∃ n, JvAt n [] w1 lv live) := Lib.hid (let ⟨k, hk⟩ := hl; ⟨k, hk.below hb1⟩)
  have HE := Lib.hid (hE.below hb1)
  have HnW := Lib.hid hnW
  have Hx := Lib.hid hx
  have Hf := Lib.hid hf
  have Hg := Lib.hid hg
  have cc := fun i => cell_block b1 i
  have dd : ∀ i, w1.cell? ⟨g, i, none⟩ = #[lv, .map (some b), .string (mkB m), .slice a1 nW c1][i]? := fun i => cell_block D1.out i
  clear hd hl hb hg hE hf hW b1 hb1 hx hnW
  rcases hlf with rfl | ⟨lt, lu, rfl⟩
  all_goals
    go_enter Tryz.func34, Tryz.ntmps34
    go_upto_region 1 with fail
    rw [← hw1]
    try rw [← hgd]
    clear hw1 hgd
    go_wp2_with fail
    clear cc dd
    go_loopg [3, 11] nW (fun k u3 u11 wr => ∃ i : Nat, i + k = nW ∧ u11 = .int .i64 (i : Int) ∧ Hid (OwnAt RString 1 wr w1.heap.size 9 u3 (((W.take i).filter fun x => othersG bk m (JP.barsB live x)).map fun x => mkB (pathP x.1))) ∧ Hid (Below w1.heap.size w1 wr))
    case atStart => exact ⟨0, by omega, rfl, Lib.hid (OwnAt.nil _), Lib.hid (Below.refl _ _)⟩
    case round =>
      obtain ⟨i, hik, rfl, HO, Hbel⟩ := hrel
      cases gk with
      | zero =>
        obtain rfl : nW = i := by omega
        have htk : W.take nW = W := List.take_of_length_le (by rw [HnW.out]; exact Nat.le_refl _)
        rw [htk] at HO
        have HO' := Lib.hid (HO.out.mono (B' := w.heap.size) HB1.out.size)
        have HBn := Lib.hid (HB1.out.trans (Hbel.out.mono HB1.out.size))
        clear htk HO Hbel
        go_wp2_with fail
        go_ret
        exact ⟨_, rfl, HO'.out, HBn.out⟩
      | succ k =>
        have hil : i < nW := by omega
        obtain ⟨x, hxi⟩ : ∃ x, W[i]? = some x := ⟨W[i]'(by rw [HnW.out]; exact hil), List.getElem?_eq_getElem _⟩
        obtain ⟨bb, o, c', hv, _, _, hbs, hcell⟩ := HW.out.form (by rw [HnW.out]; omega) (by omega)
        injection hv with u1 u2 u3
        subst u1
        clear u2 u3
        obtain ⟨ds, _, hcc, sv, vv, rfl, hsv, hjv⟩ := hcell i x hxi
        obtain ⟨sa, sc, rfl, -, -⟩ := hsv.row.len
        obtain ⟨sn, hsn⟩ : ∃ sn, (x.1.map mkB).length = sn := ⟨_, rfl⟩
        rw [hsn] at hcc hsv
        have hvf : vv = .nilIface ∨ ∃ t u, vv = .iface t u := by obtain ⟨k, hk⟩ := hjv; exact jv_form hk
        have e0 : wr.cell? ⟨bb, o + i * 3, none⟩ = some (.string (mkB (pathP x.1))) := (Hbel.out.cell (p := ⟨bb, _, none⟩) hbs).trans (by simpa using hcc 0 _ rfl)
        have e1 : wr.cell? ⟨bb, o + i * 3 + 1, none⟩ = some (.slice sa sn sc) := (Hbel.out.cell (p := ⟨bb, _, none⟩) hbs).trans (hcc 1 _ rfl)
        have e2 : wr.cell? ⟨bb, o + i * 3 + 2, none⟩ = some vv := (Hbel.out.cell (p := ⟨bb, _, none⟩) hbs).trans (hcc 2 _ rfl)
        have q1 : (0 : Int) ≤ (i : Int) := by omega
        have q2 : (i : Int) < (nW : Int) := by omega
        obtain ⟨w2, hw2⟩ : ∃ w2, w2 = wr.alloc (.cells #[.string (mkB (pathP x.1)), .slice sa sn sc, vv] 65) := ⟨_, rfl⟩
        obtain ⟨gx, hgx⟩ : ∃ gx, gx = wr.heap.size := ⟨_, rfl⟩
        have b2 : w2.heap[gx]? = some (.cells #[.string (mkB (pathP x.1)), .slice sa sn sc, vv] 65 (0, 0)) := by rw [hw2, hgx]; exact heap_alloc_new wr _
        have hb2 : Below wr.heap.size wr w2 := by rw [hw2]; exact (Below.refl _ wr).alloc (Nat.le_refl _) _
        have hb12 := Hbel.out.trans (hb2.mono Hbel.out.size)
        obtain ⟨LV, LF, hcap⟩ : ∃ LV LF, BarCap gd gx g LV (.map (some b)) LF (.slice sa sn sc) vv m live x w2 :=
          ⟨_, _, below_block hb12 G1.out, b2, D1.out.below hb12, (let ⟨n, hn⟩ := HL.out; ⟨n, hn.below hb12⟩), hsv.below hb12, (let ⟨n, hn⟩ := hjv; ⟨n, hn.below hb12⟩), HE.out.below hb12⟩
        have HCap := Lib.hid hcap
        have HO2 := Lib.hid (HO.out.below stays_string hb2)
        have HB2 := Lib.hid hb12
        have HBk2 := Lib.hid (HBk.out.below hb12)
        have Hxi := Lib.hid hxi
        have hxf := Hx.out x (List.mem_of_getElem? hxi)
        have hother := others2_any (cap1 := .pointer (some ⟨gd, 0, none⟩)) (cap2 := .pointer (some ⟨gx, 0, none⟩)) (Cap := BarCap gd gx g LV (.map (some b)) LF (.slice sa sn sc) vv m live x) (p := JP.barsB live x) run_conf1 (fun _ _ h hb => h.below hb) (fun p w' hp hc => conf1_any p hp hc Hf.out hxf)
        have HOth : Hid (∀ w', Below w2.heap.size w2 w' → Calls Tryz.prog 57 #[.map (some b), .string (mkB m), .func (.func 58) #[] #[.pointer (some ⟨gd, 0, none⟩), .pointer (some ⟨gx, 0, none⟩)]] w' fun e w'' => e = .returned (.bool (othersG bk m (JP.barsB live x))) ∧ Below w2.heap.size w2 w'') := Lib.hid fun w' hb' => by
          refine (hother w' lo b n bk m (HBk2.out.below hb') Hg.out (HCap.out.below hb')).mono ?_
          rintro E w'' ⟨B, rfl, hB, hb''⟩
          exact ⟨by rw [hB.eq], hb'.trans (hb''.mono hb'.size)⟩
        obtain ⟨ans, Hans⟩ : ∃ ans, Hid (othersG bk m (JP.barsB live x) = ans) := ⟨_, Lib.hid rfl⟩
        rw [Hans.out] at HOth
        have hgdl : gd < w2.heap.size := Nat.lt_of_lt_of_le (by
          rcases Nat.lt_or_ge gd w1.heap.size with h1 | h1
          · exact h1
          · have h9 := G1.out; rw [Array.getElem?_eq_none h1] at h9; cases h9) hb12.size
        have hgl : g < w2.heap.size := Nat.lt_of_lt_of_le (by
          rcases Nat.lt_or_ge g w1.heap.size with h1 | h1
          · exact h1
          · have h9 : w1.heap[g]? = some _ := D1.out; rw [Array.getElem?_eq_none h1] at h9; cases h9) hb12.size
        clear hcc hcell hxi hsv hjv hcap hb2 b2 hb12 hother HO hsn hbs
        rcases hvf with rfl | ⟨vt, vu, rfl⟩
        all_goals
          go_upto_region 5 with fail
          rw [← hw2]
          try rw [← hgx]
          clear hw2 hgx e0 e1 e2
          refine wp_region_hold 9 (fun w' => Below w2.heap.size w2 w') (by kernel_rfl) (by kernel_rfl) ?_ ?_
          · exact below_drewF w2
          simp only [List.take_succ_cons, List.take_zero, List.drop_succ_cons, List.drop_zero]
          refine wpHold_read (v := .pointer (some ⟨g, 0, none⟩)) (by rfl) (fun w' hI => ?_) ?_
          · have d0 := (hI.cell (p := ⟨gd, 0, none⟩) hgdl).trans (cell_block HCap.out.bd 0)
            go_simp
            done
          try simp only [Act.put, List.setIfInBounds_toArray, List.set_cons_zero, List.set_cons_succ]
          (first | (refine wpHold_pure (v := ?_) (by rfl) (fun w => ?_) ?_; rotate_left; focus (first | (go_simp; done) | (go_simp; with_reducible rfl))) | (refine wpHold_skip ?_ ?_; focus (go_simp; done)) | (refine wpHold_pure' (v := ?_) ?_ (fun w => ?_) ?_; rotate_left; focus (go_simp; done); focus (first | (go_simp; done) | (go_simp; with_reducible rfl)))); try simp only [Act.put, List.setIfInBounds_toArray, List.set_cons_zero, List.set_cons_succ]
          (first | (refine wpHold_pure (v := ?_) (by rfl) (fun w => ?_) ?_; rotate_left; focus (first | (go_simp; done) | (go_simp; with_reducible rfl))) | (refine wpHold_skip ?_ ?_; focus (go_simp; done)) | (refine wpHold_pure' (v := ?_) ?_ (fun w => ?_) ?_; rotate_left; focus (go_simp; done); focus (first | (go_simp; done) | (go_simp; with_reducible rfl)))); try simp only [Act.put, List.setIfInBounds_toArray, List.set_cons_zero, List.set_cons_succ]
          refine wpHold_read (v := .map (some b)) (by rfl) (fun w' hI => ?_) ?_
          · have d0 := (hI.cell (p := ⟨g, 1, none⟩) hgl).trans (cell_block HCap.out.deal 1)
            go_simp
            done
          try simp only [Act.put, List.setIfInBounds_toArray, List.set_cons_zero, List.set_cons_succ]
          refine wpHold_read (v := .pointer (some ⟨g, 0, none⟩)) (by rfl) (fun w' hI => ?_) ?_
          · have d0 := (hI.cell (p := ⟨gd, 0, none⟩) hgdl).trans (cell_block HCap.out.bd 0)
            go_simp
            done
          try simp only [Act.put, List.setIfInBounds_toArray, List.set_cons_zero, List.set_cons_succ]
          (first | (refine wpHold_pure (v := ?_) (by rfl) (fun w => ?_) ?_; rotate_left; focus (first | (go_simp; done) | (go_simp; with_reducible rfl))) | (refine wpHold_skip ?_ ?_; focus (go_simp; done)) | (refine wpHold_pure' (v := ?_) ?_ (fun w => ?_) ?_; rotate_left; focus (go_simp; done); focus (first | (go_simp; done) | (go_simp; with_reducible rfl)))); try simp only [Act.put, List.setIfInBounds_toArray, List.set_cons_zero, List.set_cons_succ]
          (first | (refine wpHold_pure (v := ?_) (by rfl) (fun w => ?_) ?_; rotate_left; focus (first | (go_simp; done) | (go_simp; with_reducible rfl))) | (refine wpHold_skip ?_ ?_; focus (go_simp; done)) | (refine wpHold_pure' (v := ?_) ?_ (fun w => ?_) ?_; rotate_left; focus (go_simp; done); focus (first | (go_simp; done) | (go_simp; with_reducible rfl)))); try simp only [Act.put, List.setIfInBounds_toArray, List.set_cons_zero, List.set_cons_succ]
          refine wpHold_read (v := .string (mkB m)) (by rfl) (fun w' hI => ?_) ?_
          · have d0 := (hI.cell (p := ⟨g, 2, none⟩) hgl).trans (cell_block HCap.out.deal 2)
            go_simp
            done
          try simp only [Act.put, List.setIfInBounds_toArray, List.set_cons_zero, List.set_cons_succ]
          (first | (refine wpHold_pure (v := ?_) (by rfl) (fun w => ?_) ?_; rotate_left; focus (first | (go_simp; done) | (go_simp; with_reducible rfl))) | (refine wpHold_skip ?_ ?_; focus (go_simp; done)) | (refine wpHold_pure' (v := ?_) ?_ (fun w => ?_) ?_; rotate_left; focus (go_simp; done); focus (first | (go_simp; done) | (go_simp; with_reducible rfl)))); try simp only [Act.put, List.setIfInBounds_toArray, List.set_cons_zero, List.set_cons_succ]
          refine wpHold_nil ?_
          intro w2' hI'
          go_wp2_with fail
          refine (HOth.out w2' hI').mono ?_
          rintro E w3 ⟨rfl, hI⟩
          clear hI'
          have hsz3 := hI.size
          have HO3 := Lib.hid (HO2.out.below stays_string hI)
          have HB3 := Lib.hid (HB2.out.trans (hI.mono HB2.out.size))
          have c3 := fun j => cell_block (below_block hI HCap.out.bx) j
          have hlen : ((((W.take i).filter fun x => othersG bk m (JP.barsB live x)).map fun x => mkB (pathP x.1)).length ≤ i) := by
            rw [List.length_map]
            have h1 := List.length_filter_le (fun x => othersG bk m (JP.barsB live x)) (W.take i)
            rw [List.length_take] at h1
            have : min i W.length ≤ i := Nat.min_le_left _ _
            omega
          have hw13 := HB3.out.size
          clear hI HOth HCap HBk2
          cases ans with
          | false =>
            have HO4 : Hid (OwnAt RString 1 w3 w1.heap.size 9 u3 (((W.take (i + 1)).filter fun x => othersG bk m (JP.barsB live x)).map fun x => mkB (pathP x.1))) := Lib.hid (by
              rw [List.take_add_one, Hxi.out, List.filter_append]
              have : ([x].filter fun x => othersG bk m (JP.barsB live x)) = [] := by simp [Hans.out]
              show OwnAt RString 1 w3 w1.heap.size 9 u3 ((_ ++ ([x].filter fun x => othersG bk m (JP.barsB live x))).map fun x => mkB (pathP x.1))
              rw [this, List.append_nil]; exact HO3.out)
            clear c3
            go_wp2_with fail
            go_roundg k
            case measure => omega
            case rel => exact ⟨i + 1, by omega, by go_num, HO4, HB3⟩
          | true =>
            have HO5 := Lib.hid (HO3.out.below stays_string ((Below.refl _ w3).alloc (Nat.le_refl _) (.cells #[.string (mkB (pathP x.1))] 9)))
            have HB5 := Lib.hid (HB3.out.alloc HB3.out.size (.cells #[.string (mkB (pathP x.1))] 9))
            have hsz5 := HB5.out.size
            go_wp2_with (at_builtin; refine wpList_append_ownAt (R := RString) (k := 1) (e := 9) (B := w1.heap.size) (m := [mkB (pathP x.1)]) _ (by rfl) _ _ _ (by rfl) j0 _ 16 Tryz.underlying28 hj0 hy0 hy1 hy2 rfl (by omega) flat_string one_string _ (by rfl) HO5.out _ (by rfl) (RowAt.one (R := RString) (k := 1) (cs := #[.string (mkB (pathP x.1))]) (x := mkB (pathP x.1)) (heap_alloc_new w3 _) rfl rfl) (by unfold maxLen; simp only [List.length_singleton]; omega) (by simp only [List.length_singleton]; omega) hsz5 ?_)
            intro v' w6 hv' hg6 hr6 _
            have HB6 := Lib.hid (below_of_grown HB5.out hsz5 hg6 hr6)
            have HO6 : Hid (OwnAt RString 1 w6 w1.heap.size 9 v' (((W.take (i + 1)).filter fun x => othersG bk m (JP.barsB live x)).map fun x => mkB (pathP x.1))) := Lib.hid (by
              rw [List.take_add_one, Hxi.out, List.filter_append]
              have : ([x].filter fun x => othersG bk m (JP.barsB live x)) = [x] := by simp [Hans.out]
              show OwnAt RString 1 w6 w1.heap.size 9 v' ((_ ++ ([x].filter fun x => othersG bk m (JP.barsB live x))).map fun x => mkB (pathP x.1))
              rw [this, List.map_append]; exact hv')
            clear hv' hg6 hr6 HO5 HB5 c3
            go_wp2_with fail
            go_roundg k
            case measure => omega
            case rel => exact ⟨i + 1, by omega, by go_num, HO6, HB6⟩
end Go.Proofs.YtdcmnpeabjallaaGreatDoor
namespace Go.Proofs.YtdcmnpeabjallaaGreatDoor
open Go.RowKit
open JP (JV Bs Lf)
theorem below_grown {w w' : World} (h : Below w.heap.size w w') (row : Option Nat) : w.grownBy w' row := ⟨h.os, h.tape, h.output, h.size, fun k hk _ => h.block k hk⟩
theorem grown_trans {a b c : World} {row : Option Nat} (h : a.grownBy b row) (k : b.grownBy c row) : a.grownBy c row := ⟨k.os.trans h.os, k.tape.trans h.tape, k.output.trans h.output, Nat.le_trans h.size k.size, fun i hi hne => (k.block i (Nat.lt_of_lt_of_le hi h.size) hne).trans (h.block i hi hne)⟩
theorem grown_touch {g : Nat} {w w' : World} (h : Touch g w w') : w.grownBy w' (some g) := ⟨h.os, h.tape, h.output, by rw [h.size]; exact Nat.le_refl _, fun k hk hne => h.other k (fun e => hne (by rw [e]))⟩
set_option maxRecDepth 100000 in
set_option maxHeartbeats 3200000 in
theorem deleteStr_any {f : FuncId} {cap : Value} {Cap : World → Prop} {p : ByteArray → Bool} {OK : ByteArray → Prop} (B : Nat) (v : Value) (enter : ∀ (a : Array Value) (w : World), (callFunc f a).run Tryz.prog w = .ok (.enter f a) w)
    (keepC : ∀ w w' : World, Cap w → w.grownBy w' v.ownBlock → Cap w')
    (clo : ∀ (x : ByteArray) (w : World), OK x → Cap w → Calls Tryz.prog f #[.string x, cap] w fun e w' => e = .returned (.bool (p x)) ∧ Below w.heap.size w w')
    (l : List ByteArray) (w : World) (h : OwnAt RString 1 w B 9 v l) (hl : l.length ≤ 1048576) (hok : ∀ x ∈ l, OK x) (hc : Cap w) :
    Calls Tryz.prog 60 #[v, .func (.func f) #[] #[cap]] w fun e w' => ∃ v', e = .returned v' ∧ OwnAt RString 1 w' B 9 v' (l.filter fun r => !p r) ∧ (∀ q, v'.ownBlock = some q → v.ownBlock = some q) ∧ w.grownBy w' v.ownBlock := by
  have hidx := idxStr1_any (p := p) (Cap := Cap) (OK := OK) enter (fun w w' hc hb => keepC w w' hc (below_grown hb _)) clo v l w h.row (by omega) hok hc
  have Hidx := Lib.hid hidx
  have H := Lib.hid h
  have HC := Lib.hid clo
  have HK := Lib.hid keepC
  have Hc := Lib.hid hc
  have Hok := Lib.hid hok
  have ep := enter
  rcases h.form with ⟨rfl, rfl⟩ | ⟨g, c, rfl, hgB, hgw, hlc, hcm⟩
  · clear h clo keepC hc enter hidx hok
    go_enter Tryz.func60, Tryz.ntmps60
    go_wp2_with fail
    refine Hidx.out.mono ?_
    rintro E w1 ⟨n, rfl, hn, hb1⟩
    rcases hn with ⟨rfl, _⟩ | ⟨i, x, rfl, hx, _⟩
    · have Hb1 := Lib.hid (below_grown hb1 none)
      clear hb1
      go_wp2_with fail
      go_ret
      exact ⟨_, rfl, OwnAt.nil _, fun _ h => h, Hb1.out⟩
    · simp at hx
  · have HK2 : Hid (∀ w w' : World, Cap w → w.grownBy w' (some g) → Cap w') := HK
    clear h clo keepC hc enter hidx hok HK
    go_enter Tryz.func60, Tryz.ntmps60
    go_wp2_with fail
    refine Hidx.out.mono ?_
    rintro E w1 ⟨n, rfl, hn, hb1⟩
    have Hown := Lib.hid (H.out.below stays_string hb1)
    have Hb1 := Lib.hid (below_grown hb1 (some g))
    have Hc1 := Lib.hid (HK2.out w w1 Hc.out (below_grown hb1 (some g)))
    clear hb1
    rcases hn with ⟨rfl, hnone⟩ | ⟨i0, x0, rfl, hx0, hf0, hpre⟩
    · have hfil : l.filter (fun r => !p r) = l := List.filter_eq_self.2 fun r hr => by
        have := List.find?_eq_none.1 hnone r hr
        simpa using this
      go_wp2_with fail
      go_ret
      exact ⟨_, rfl, by rw [hfil]; exact Hown.out, fun _ h => h, Hb1.out⟩
    · have hi0 : i0 < l.length := (List.getElem?_eq_some_iff.1 hx0).1
      have hpx0 : p x0 = true := by have := List.find?_some hf0; exact this
      have hfil0 : (l.take (i0 + 1)).filter (fun r => !p r) = l.take i0 := by
        rw [List.take_add_one, hx0, List.filter_append, List.filter_eq_self.2 fun r hr => by rw [hpre r hr]; rfl]
        simp [hpx0]
      have q0 : ((i0 : Int) == -1) = false := by rw [beq_eq_false_iff_ne]; omega
      have Hfil0 := Lib.hid hfil0
      clear hx0 hf0 hpre hpx0 hfil0
      go_wp2_with fail
      go_loopg [5, 6] l.length (fun gq u5 u6 wr => ∃ (i j : Nat) (S : List ByteArray), j + gq = l.length + (i0 + 1) ∧ j ≤ l.length ∧ i < j ∧ u5 = .int .i64 (i : Int) ∧ u6 = .int .i64 (j : Int) ∧ Hid (OwnAt RString 1 wr B 9 (.slice (some ⟨g, 0, none⟩) l.length c) S) ∧ S.length = l.length ∧ Hid (S.take i = (l.take j).filter fun r => !p r) ∧ Hid (S.drop j = l.drop j) ∧ Hid (w.grownBy wr (some g)) ∧ Hid (Cap wr))
      case atStart => exact ⟨i0, i0 + 1, l, by omega, by omega, by omega, rfl, by go_num, Hown, rfl, Lib.hid Hfil0.out.symm, Lib.hid rfl, Hb1, Hc1⟩
      case round =>
        obtain ⟨i, j, S, hjg, hjl, hij, rfl, rfl, HS, hSl, Hf, Hd, Hbel, Hcr⟩ := hrel
        by_cases hend : j < l.length
        · have hSj : j < S.length := by omega
          obtain ⟨x, hxi⟩ : ∃ x, l[j]? = some x := ⟨l[j], List.getElem?_eq_getElem hend⟩
          have hxS : S[j]? = some x := by
            have h1 := congrArg (fun m => m[0]?) Hd.out
            simp only [List.getElem?_drop, Nat.add_zero] at h1
            rw [h1, hxi]
          obtain ⟨b, o, c', hv, _, _, hbs, hcell⟩ := HS.out.row.form (by omega) (by omega)
          injection hv with u1 u2 u3
          injection u1 with u1
          injection u1 with u1 u4
          subst u1; subst u4
          clear u2 u3
          obtain ⟨ds, _, hcc, hR⟩ := hcell j x hxS
          obtain rfl : ds = [.string x] := hR
          have e0 : wr.cell? ⟨g, j, none⟩ = some (.string x) := by simpa using hcc 0 _ rfl
          have q1 : (0 : Int) ≤ (j : Int) := by omega
          have q2 : (j : Int) < (l.length : Int) := by omega
          have q3 : (0 : Int) ≤ (i : Int) := by omega
          have q4 : (i : Int) < (l.length : Int) := by omega
          have Hxi := Lib.hid hxi
          clear hcc hcell hxi hxS
          go_wp2_with fail
          refine (HC.out x wr (Hok.out x (List.mem_of_getElem? Hxi.out)) Hcr.out).mono ?_
          rintro E w3 ⟨rfl, hb3⟩
          have HS3 := Lib.hid (HS.out.below stays_string hb3)
          have Hb3 := Lib.hid (grown_trans Hbel.out (below_grown hb3 (some g)))
          have Hc3 := Lib.hid (HK2.out _ _ Hcr.out (below_grown hb3 (some g)))
          clear hb3 e0
          obtain ⟨pb, Hpb⟩ : ∃ pb, Hid (p x = pb) := ⟨_, Lib.hid rfl⟩
          rw [Hpb.out]
          cases pb with
          | true =>
            have Hf2 : Hid (S.take i = (l.take (j + 1)).filter fun r => !p r) := Lib.hid (by
              rw [List.take_add_one, Hxi.out, List.filter_append, ← Hf.out]
              simp [Hpb.out])
            have Hd2 : Hid (S.drop (j + 1) = l.drop (j + 1)) := Lib.hid (by rw [← List.drop_drop, ← List.drop_drop, Hd.out])
            go_wp2_with fail
            go_roundg (gk - 1)
            case measure => omega
            case rel => exact ⟨i, j + 1, S, by omega, by omega, by omega, rfl, by go_num, HS3, hSl, Hf2, Hd2, Hb3, Hc3⟩
          | false =>
            obtain ⟨hnew, htouch⟩ := HS3.out.storeElem flat_string (i := i) (by omega) (cs := [.string x]) rfl (x := x) rfl
            rw [Nat.mul_one] at hnew htouch
            have hset : w3.setCells g i [.string x] = w3.setCell ⟨g, i, none⟩ (.string x) := rfl
            rw [hset] at hnew htouch
            have fr : w3.frozen? ⟨g, i, none⟩ = false := by
              obtain ⟨_, _, cur, h1⟩ := HS3.out.at (g := g) rfl
              exact free_block h1 i
            have ce : ∃ y, w3.cell? ⟨g, i, none⟩ = some y := by
              have h1 := HS3.out.there (o := i) (m := 1) (by omega)
              have h2 := (h1 0 (by omega)).1
              rw [Nat.add_zero] at h2
              exact Option.isSome_iff_exists.1 h2
            obtain ⟨y, hy⟩ := ce
            obtain ⟨w4, hw4⟩ : ∃ w4, w3.setCell ⟨g, i, none⟩ (.string x) = w4 := ⟨_, rfl⟩
            rw [hw4] at hnew htouch
            have Hnew := Lib.hid hnew
            have Hb4 := Lib.hid (grown_trans Hb3.out (grown_touch htouch))
            have Hc4 := Lib.hid (HK2.out _ _ Hc3.out (grown_touch htouch))
            have Hw4 := Lib.hid hw4
            clear hnew htouch hset hw4
            have Hf2 : Hid ((S.set i x).take (i + 1) = (l.take (j + 1)).filter fun r => !p r) := Lib.hid (by
              rw [List.take_add_one, List.getElem?_set, if_pos rfl, if_pos (by omega), List.take_set_of_le (Nat.le_refl i), List.take_add_one, Hxi.out, List.filter_append, ← Hf.out]
              simp [Hpb.out])
            have Hd2 : Hid ((S.set i x).drop (j + 1) = l.drop (j + 1)) := Lib.hid (by rw [List.drop_set_of_lt (by omega), ← List.drop_drop, ← List.drop_drop, Hd.out])
            go_upto_region 10 with fail
            rw [Hw4.out]
            clear fr hy Hw4
            go_wp2_with fail
            go_roundg (gk - 1)
            case measure => omega
            case rel => exact ⟨i + 1, j + 1, S.set i x, by omega, by omega, by omega, by go_num, by go_num, Hnew, by rw [List.length_set]; exact hSl, Hf2, Hd2, Hb4, Hc4⟩
        · have hjn : j = l.length := by omega
          have hfin : S.take i = l.filter fun r => !p r := by
            rw [Hf.out, List.take_of_length_le (by omega)]
          have q2 : ¬ (j : Int) < (l.length : Int) := by omega
          have q3 : (0 : Int) ≤ (i : Int) := by omega
          have q4 : (i : Int) ≤ (l.length : Int) := by omega
          have q5 : (i : Int) ≤ (c : Int) := by omega
          have Hfin := Lib.hid hfin
          have hlt : i < l.length := by omega
          obtain ⟨m, hm⟩ : ∃ m, l.length - i = m := ⟨_, rfl⟩
          go_upto_region 11 with fail
          iterate 10 go_step
          have hzs : (Builtin.zeroCells (Value.string ByteArray.empty).cells m).size = m * 1 := zeroCells_size _ _
          obtain ⟨hend1, htouch⟩ := HS.out.behind flat_string (i := i) (vs := (Builtin.zeroCells (Value.string ByteArray.empty).cells m).toList) (by omega) (by rw [Array.length_toList, hzs]; omega)
          have hthere := HS.out.there (o := i * 1) (m := m * 1) (by omega)
          rw [← hzs] at hthere
          rw [Nat.mul_one] at hend1 htouch hthere
          have Hend1 := Lib.hid hend1
          have Hthere := Lib.hid hthere
          have Htouch := Lib.hid htouch
          clear hend1 htouch hthere
          refine wpList_clear_rows wr (by rfl) _ _ 9 (by rfl) (.string ByteArray.empty) Tryz.underlying28 Tryz.zeroValue9 (by simp [Value.cells, Value.oneCell']) g i m (c - i) (by omega) (by rfl) Hthere.out ?_
          obtain ⟨w4, Hw4⟩ : ∃ w4, Hid (wr.setCells g i (Builtin.zeroCells (Value.string ByteArray.empty).cells m).toList = w4) := ⟨_, Lib.hid rfl⟩
          rw [Hw4.out]
          have h1 := Hend1.out
          have h2 := Htouch.out
          rw [Hw4.out] at h1 h2
          rw [Hfin.out] at h1
          have H1 := Lib.hid h1
          have H2 := Lib.hid (grown_trans Hbel.out (grown_touch h2))
          clear h1 h2 hm hzs
          go_wp2_with fail
          go_ret
          exact ⟨_, rfl, H1.out, fun _ h => h, H2.out⟩
end Go.Proofs.YtdcmnpeabjallaaGreatDoor
