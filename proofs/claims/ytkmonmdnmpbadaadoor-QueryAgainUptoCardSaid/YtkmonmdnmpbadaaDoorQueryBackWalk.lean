/- QueryBack: the law's walk. -/
import Derived.Test.YtkmonmdnmpbadaaDoorParse
import Derived.Test.YtkmonmdnmpbadaaDoorParserPrint
import Derived.Test.YtkmonmdnmpbadaaDoorSameReq
import Derived.Test.YtkmonmdnmpbadaaDoorQueryBase
namespace Go.Proofs.YtkmonmdnmpbadaaDoor
open Go.RowKit
open QP

theorem parse_of {s : ByteArray} {w : World} {l : List GReq} {e : Int} (h : parseL s.data.toList = (l, e)) {E : Ending} {w' : World} (hp : ParseAt s w E w') : ∃ v, E = .returned (.tuple #[v, .int .i64 e]) ∧ RowAt ReqR 3 w' v l ∧ Below w.heap.size w w' := by
  unfold ParseAt at hp
  rw [h] at hp
  exact hp
theorem print_of {l : List GReq} {w : World} {t : List UInt8} {e : Int} (h : printL l = (t, e)) {E : Ending} {w' : World} (hp : PrintAt l w E w') : E = .returned (.tuple #[.string ⟨t.toArray⟩, .int .i64 e]) ∧ Below w.heap.size w w' := by
  unfold PrintAt at hp
  rw [h] at hp
  exact hp
theorem okReq_zero {q : GReq} (h : reqE q = 0) : okReq q := by
  obtain ⟨hk, _, _, _, hl, hv⟩ := reqE_parts h
  have h1 := key_short hk
  exact ⟨by omega, by omega, fun v hm => by have := val_short' (hv v hm); omega⟩
theorem okReqs_zero {l : List GReq} (h : reqsE l = 0) : (∀ q ∈ l, okReq q) ∧ l.length ≤ 8 := ⟨fun q hq => okReq_zero ((reqsE_all h).2 q hq), (reqsE_all h).1⟩
set_option maxRecDepth 100000 in
set_option maxHeartbeats 3200000 in
theorem queryBack_walk (v0 : Value) (l : List GReq) (w : World) (h0 : RowAt ReqR 3 w v0 l) (hbulk : (l.map reqB).sum + 1 + 0 ≤ 1048576) (hmax : ∃ m, MaxOK m w) :
    Calls Tryd.prog 3 #[v0] w fun e w' => e = .returned (.bool true) ∧ Below w.heap.size w w' := by
  obtain ⟨mx, hm⟩ := hmax
  obtain ⟨okl, hll⟩ := okReqs_of (l := l) (by omega)
  obtain ⟨a0, c0, rfl, _, _⟩ := h0.len
  have H0 := Lib.hid h0
  have Hm := Lib.hid hm
  have Okl := Lib.hid okl
  clear h0 hm okl hbulk
  go_enter Tryd.func3, Tryd.ntmps3
  obtain ⟨rE, HrE⟩ : ∃ rE, Hid (reqsE l = rE) := ⟨_, Lib.hid rfl⟩
  obtain ⟨T, HT⟩ : ∃ T : List UInt8, Hid (joinT l = T) := ⟨_, Lib.hid rfl⟩
  obtain ⟨t, e, HP⟩ : ∃ t e, Hid (printL l = (t, e)) := ⟨_, _, Lib.hid rfl⟩
  have HPr := Lib.hid (fun E w' => print_of (w := w) HP.out (E := E) (w' := w'))
  go_wp2_with fail
  refine (print_any _ l mx w H0.out hll Okl.out Hm.out).mono ?_
  intro E w1 hp
  obtain ⟨rfl, hb1⟩ := HPr.out _ _ hp
  have Hb1 := Lib.hid hb1
  clear hp hb1 HPr
  go_wp2_with fail
  refine (strange_any mx w1 (Hm.out.below Hb1.out)).mono ?_
  rintro E w2 ⟨rfl, hb2⟩
  have Hb2 := Lib.hid (Hb1.out.trans (hb2.mono Hb1.out.size))
  clear hb2
  by_cases hr0 : rE = 0
  · subst hr0
    by_cases h3 : 300 < T.length
    · have HP2 : (([] : List UInt8), (2 : Int)) = (t, e) := by
        rw [← HP.out]
        unfold printL
        rw [HrE.out, if_pos rfl, HT.out, if_pos h3]
      obtain ⟨rfl, rfl⟩ := Prod.mk.inj HP2
      clear HP2 HP h3
      go_wp2_with fail
      go_ret
      exact ⟨rfl, Hb2.out⟩
    · have HP2 : (T, (0 : Int)) = (t, e) := by
        rw [← HP.out]
        unfold printL
        rw [HrE.out, if_pos rfl, HT.out, if_neg h3]
      obtain ⟨rfl, rfl⟩ := Prod.mk.inj HP2
      have HB : Hid (parseL (⟨T.toArray⟩ : ByteArray).data.toList = (l, 0)) := Lib.hid (by
        show parseL T = _
        rw [← HT.out]
        exact back HrE.out (by rw [HT.out]; omega))
      have hts : (⟨T.toArray⟩ : ByteArray).size ≤ 1048576 := by show T.toArray.size ≤ _; rw [List.size_toArray]; omega
      obtain ⟨S, HS⟩ : ∃ S : ByteArray, Hid ((⟨T.toArray⟩ : ByteArray) = S) := ⟨_, Lib.hid rfl⟩
      rw [HS.out] at HB hts ⊢
      clear HP2 HP h3
      go_wp2_with fail
      refine (parse_any S mx w2 hts (Hm.out.below Hb2.out)).mono ?_
      intro E w3 hp
      obtain ⟨v, rfl, hrow, hb3⟩ := parse_of HB.out hp
      have Hb3 := Lib.hid (Hb2.out.trans (hb3.mono Hb2.out.size))
      have Hrow := Lib.hid hrow
      clear hp hrow hb3
      go_wp2_with fail
      refine (sameReqs_any _ v l l w3 (H0.out.below stays_req Hb3.out) Hrow.out (by omega) (by omega) Okl.out Okl.out).mono ?_
      rintro E w4 ⟨b, rfl, hb, hb4⟩
      obtain rfl : b = true := hb.2 rfl
      have Hb4 := Lib.hid (Hb3.out.trans (hb4.mono Hb3.out.size))
      clear hb hb4
      go_wp2_with fail
      go_ret
      exact ⟨rfl, Hb4.out⟩
  · have HP2 : (([] : List UInt8), rE) = (t, e) := by
      rw [← HP.out]
      unfold printL
      rw [HrE.out, if_neg hr0]
    obtain ⟨rfl, rfl⟩ := Prod.mk.inj HP2
    have q1 : (rE != 0) = true := by rw [bne_iff_ne]; exact hr0
    have q3 : (rE == 0) = false := by rw [beq_eq_false_iff_ne]; exact hr0
    clear HP2 HP hr0
    by_cases h2 : rE = 2
    · subst h2
      go_wp2_with fail
      go_ret
      exact ⟨rfl, Hb2.out⟩
    · have q2 : (rE == 2) = false := by rw [beq_eq_false_iff_ne]; exact h2
      have q4 : (rE == rE) = true := by simp
      have Hck : Hid (Calls Tryd.prog 8 #[.slice a0 l.length c0] w2 fun e w' => e = .returned (.int .i64 rE) ∧ Below w2.heap.size w2 w') := Lib.hid (by
        have := checks_any _ l mx w2 (H0.out.below stays_req Hb2.out) hll Okl.out (Hm.out.below Hb2.out)
        rw [HrE.out] at this
        exact this)
      clear h2
      go_wp2_with fail
      refine Hck.out.mono ?_
      rintro E w3 ⟨rfl, hb3⟩
      have Hb3 := Lib.hid (Hb2.out.trans (hb3.mono Hb2.out.size))
      clear hb3
      go_wp2_with fail
      go_ret
      exact ⟨rfl, Hb3.out⟩
end Go.Proofs.YtkmonmdnmpbadaaDoor
