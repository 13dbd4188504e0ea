/- query.Solve: its contract; QuerySound: the law's walk. -/
import Derived.Test.YtjhaopkhpmkkiaaDoorSolve
import Derived.Test.YtjhaopkhpmkkiaaDoorImplyPlain
import Derived.OwnWalk
namespace Go.Proofs.YtjhaopkhpmkkiaaDoor
open Go.RowKit

def SolveFAt (l : List GReq) (w : World) (E : Ending) (w' : World) : Prop :=
  ∃ (v' : Value) (out : List GLabel) (is : Bool), E = .returned (.tuple #[v', .bool is, .int .i64 (reqsE l)]) ∧ (reqsE l = 0 → SolveOK l out is) ∧ (reqsE l ≠ 0 → is = false) ∧ (is = false → out = []) ∧ RowAt LabelR 2 w' v' out ∧ (∀ x ∈ out, okLab x) ∧ out.length ≤ 9 ∧ Below w.heap.size w w'
set_option maxRecDepth 100000 in
set_option maxHeartbeats 1600000 in
theorem solveF_any (v : Value) (l : List GReq) (m : Int) (w : World) (h : RowAt ReqR 3 w v l) (hl : l.length ≤ 1048576) (hok : ∀ r ∈ l, okReq r) (hm : MaxOK m w) :
    Calls Tryd.prog 16 #[v] w (SolveFAt l w) := by
  obtain ⟨a0, c0, rfl, _, _⟩ := h.len
  obtain ⟨e, He⟩ : ∃ e, Hid (reqsE l = e) := ⟨_, Lib.hid rfl⟩
  have H := Lib.hid h
  have Hok := Lib.hid hok
  have Hm := Lib.hid hm
  clear h hok hm
  go_enter Tryd.func16, Tryd.ntmps16
  go_wp2_with fail
  refine (checks_any _ l m w H.out hl Hok.out Hm.out).mono ?_
  rintro E w1 ⟨rfl, hb1⟩
  have Hb1 := Lib.hid hb1
  rw [He.out]
  clear hb1
  by_cases h0 : e = 0
  · subst h0
    obtain ⟨hg, hl8⟩ := goods_of He.out
    go_wp2_with fail
    refine (solve_any _ l w1 (H.out.below stays_req Hb1.out) (by omega) Hok.out hg).mono ?_
    rintro E w2 ⟨v', out, is, rfl, hs, hr, ho, hlen, hb2⟩
    have Hs := Lib.hid hs
    have Hr := Lib.hid hr
    have Ho := Lib.hid ho
    have Hb2 := Lib.hid (Hb1.out.trans (hb2.mono Hb1.out.size))
    clear hs hr ho hb2 hg
    cases is with
    | false =>
      go_wp2_with fail
      go_ret3
      exact ⟨_, [], false, by rw [He.out]; rfl, fun _ => ⟨fun h => (by cases h), Hs.out.2⟩, fun _ => rfl, fun _ => rfl, RowAt.nil _, by simp, by simp, Hb2.out⟩
    | true =>
      go_wp2_with fail
      go_ret3
      exact ⟨_, out, true, by rw [He.out]; rfl, fun _ => Hs.out, fun h => absurd He.out h, fun h => (by cases h), Hr.out.row, Ho.out, hlen, Hb2.out⟩
  · have q1 : (e == 0) = false := by rw [beq_eq_false_iff_ne]; exact h0
    have q2 : (e != 0) = true := by rw [bne_iff_ne]; exact h0
    have H0 := Lib.hid h0
    clear h0
    go_wp2_with fail
    go_ret3
    exact ⟨_, [], false, by rw [He.out]; rfl, fun h => absurd (He.out.symm.trans h) H0.out, fun _ => rfl, fun _ => rfl, RowAt.nil _, by simp, by simp, Hb1.out⟩
end Go.Proofs.YtjhaopkhpmkkiaaDoor
