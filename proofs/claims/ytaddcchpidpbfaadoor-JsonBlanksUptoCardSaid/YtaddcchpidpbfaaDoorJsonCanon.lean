/- json: Canon, Kind, Size, Same, Quote. -/
import Derived.Test.YtaddcchpidpbfaaDoorJsonRead
import Derived.Test.YtaddcchpidpbfaaDoorJsonSize
import Derived.Test.YtaddcchpidpbfaaDoorJsonLaws
namespace Go.Proofs.YtaddcchpidpbfaaDoor
open Go.RowKit
open JP (JV Bs Fr)

namespace JP
theorem readL_good {s : Bs} {v : JV} (h : readL s = (v, 0)) : wf v ∧ size v ≤ 200 ∧ deep v ≤ 10 ∧ (text v).length ≤ s.length ∧ s.length ≤ 2000 := by
  unfold readL at h
  split at h
  · exact absurd (Prod.mk.inj h).2 (by decide)
  · rename_i hl
    have hi : Inv s.length (.more s 0 []) := ⟨by show s.length + 0 ≤ s.length; omega, rfl, by omega, trivial⟩
    obtain ⟨a, b, c, d⟩ := fin_inv _ hi v h
    exact ⟨a, b, c, d, by omega⟩
/-- the canonical document, and what is wrong -/
def canonT (s : Bs) : Bs := if (readL s).2 = 0 then text (readL s).1 else []
def canonE (s : Bs) : Int := (readL s).2
def kindT (s : Bs) : Int := if (readL s).2 = 0 then kind (readL s).1 else 0
def manyT (s : Bs) : Nat := if (readL s).2 = 0 then size (readL s).1 else 0
def deepT (s : Bs) : Nat := if (readL s).2 = 0 then deep (readL s).1 else 0
def sameT (a b : Bs) : Bool := if (readL a).2 = 0 ∧ (readL b).2 = 0 then decide (text (readL a).1 = text (readL b).1) else false
def sameE (a b : Bs) : Int := if (readL a).2 = 0 then (readL b).2 else (readL a).2
def quoteE (s : Bs) : Int := if s.all stand = true then if 2000 < (quote s).length then 2 else 0 else 16
def quoteT (s : Bs) : Bs := if quoteE s = 0 then quote s else []
theorem canonT_ok {s : Bs} {v : JV} (h : readL s = (v, 0)) : canonT s = text v := by unfold canonT; rw [h]; exact if_pos rfl
theorem canonT_no {s : Bs} (h : (readL s).2 ≠ 0) : canonT s = [] := if_neg h
theorem canonT_le (s : Bs) : (canonT s).length ≤ 2000 := by
  unfold canonT
  split
  · rename_i h
    obtain ⟨_, _, _, h4, h5⟩ := readL_good (s := s) (v := (readL s).1) (Prod.ext rfl h)
    omega
  · simp
end JP
theorem list_size (s : ByteArray) : s.data.toList.length = s.size := by rw [Array.length_toList]; rfl
theorem TabOK.ofBelow {B : Nat} {w w' : World} (h : TabOK w) (hb : Below w.heap.size w w') : TabOK w' := h.below hb
set_option maxRecDepth 100000 in
set_option maxHeartbeats 3200000 in
theorem canon_any (s : ByteArray) (w : World) (hs : s.size ≤ 1048576) (ht : TabOK w) :
    Calls Tryd.prog 16 #[.string s] w fun e w' => e = .returned (.tuple #[.string (mkB (JP.canonT s.data.toList)), .int .i64 (JP.canonE s.data.toList)]) ∧ Below w.heap.size w w' := by
  have HR := Lib.hid (read_any s w hs)
  obtain ⟨v, hv⟩ : ∃ v, (JP.readL s.data.toList).1 = v := ⟨_, rfl⟩
  obtain ⟨er, her⟩ : ∃ er, (JP.readL s.data.toList).2 = er := ⟨_, rfl⟩
  have hre : JP.readL s.data.toList = (v, er) := Prod.ext hv her
  have HT := Lib.hid ht
  rw [hv, her] at HR
  have hE : JP.canonE s.data.toList = er := her
  have Hre := Lib.hid hre
  obtain ⟨T, hT⟩ : ∃ T, JP.canonT s.data.toList = T := ⟨_, rfl⟩
  rw [hE, hT]
  have HTx := Lib.hid hT
  clear ht hv her hre hE hT
  go_enter Tryd.func16, Tryd.ntmps16
  go_wp2_with fail
  refine HR.out.mono ?_
  rintro E w1 ⟨u, rfl, ⟨n, hj⟩, hb⟩
  have HJ := Lib.hid hj
  have HB := Lib.hid hb
  clear hj hb HR
  by_cases he : er = 0
  · subst he
    obtain ⟨_, _, _, h4, h5⟩ := JP.readL_good Hre.out
    have HTt : Hid (T = JP.text v) := Lib.hid (by rw [← HTx.out]; exact JP.canonT_ok Hre.out)
    go_wp2_with fail
    refine (text_any n u v w1 HJ.out (by omega) (HT.out.below HB.out)).mono ?_
    rintro E w2 ⟨rfl, hb⟩
    have HB2 := Lib.hid (HB.out.trans (hb.mono HB.out.size))
    clear hb
    go_wp2_with fail
    go_ret2
    exact ⟨by rw [HTt.out] <;> rfl, HB2.out⟩
  · have n0 : (er != 0) = true := by rw [bne_iff_ne]; exact he
    have HTt : Hid (T = []) := Lib.hid (by rw [← HTx.out]; exact JP.canonT_no (by rw [Hre.out]; exact he))
    clear he
    go_wp2_with fail
    go_ret2
    exact ⟨by rw [HTt.out] <;> rfl, HB.out⟩
set_option maxRecDepth 100000 in
set_option maxHeartbeats 3200000 in
theorem kindJ_any (s : ByteArray) (w : World) (hs : s.size ≤ 1048576) :
    Calls Tryd.prog 18 #[.string s] w fun e w' => e = .returned (.tuple #[.int .i64 (JP.kindT s.data.toList), .int .i64 (JP.canonE s.data.toList)]) ∧ Below w.heap.size w w' := by
  have HR := Lib.hid (read_any s w hs)
  obtain ⟨v, hv⟩ : ∃ v, (JP.readL s.data.toList).1 = v := ⟨_, rfl⟩
  obtain ⟨er, her⟩ : ∃ er, (JP.readL s.data.toList).2 = er := ⟨_, rfl⟩
  have hre : JP.readL s.data.toList = (v, er) := Prod.ext hv her
  rw [hv, her] at HR
  have hE : JP.canonE s.data.toList = er := her
  have Hre := Lib.hid hre
  obtain ⟨T, hT⟩ : ∃ T, JP.kindT s.data.toList = T := ⟨_, rfl⟩
  rw [hE, hT]
  have HTx := Lib.hid hT
  clear hv her hre hE hT
  go_enter Tryd.func18, Tryd.ntmps18
  go_wp2_with fail
  refine HR.out.mono ?_
  rintro E w1 ⟨u, rfl, ⟨n, hj⟩, hb⟩
  have HJ := Lib.hid hj
  have HB := Lib.hid hb
  clear hj hb HR
  by_cases he : er = 0
  · subst he
    have HTt : Hid (T = JP.kind v) := Lib.hid (by rw [← HTx.out]; unfold JP.kindT; rw [Hre.out]; exact if_pos rfl)
    go_wp2_with fail
    refine (kind_any HJ.out).mono ?_
    rintro E w2 ⟨rfl, rfl⟩
    go_wp2_with fail
    go_ret2
    exact ⟨by rw [HTt.out] <;> rfl, HB.out⟩
  · have n0 : (er != 0) = true := by rw [bne_iff_ne]; exact he
    have HTt : Hid (T = 0) := Lib.hid (by rw [← HTx.out]; unfold JP.kindT; rw [Hre.out]; exact if_neg he)
    clear he
    go_wp2_with fail
    go_ret2
    exact ⟨by rw [HTt.out] <;> rfl, HB.out⟩
set_option maxRecDepth 100000 in
set_option maxHeartbeats 3200000 in
theorem sizeJ_any (s : ByteArray) (w : World) (hs : s.size ≤ 1048576) :
    Calls Tryd.prog 20 #[.string s] w fun e w' => e = .returned (.tuple #[.int .i64 (JP.manyT s.data.toList : Int), .int .i64 (JP.deepT s.data.toList : Int), .int .i64 (JP.canonE s.data.toList)]) ∧ Below w.heap.size w w' := by
  have HR := Lib.hid (read_any s w hs)
  obtain ⟨v, hv⟩ : ∃ v, (JP.readL s.data.toList).1 = v := ⟨_, rfl⟩
  obtain ⟨er, her⟩ : ∃ er, (JP.readL s.data.toList).2 = er := ⟨_, rfl⟩
  have hre : JP.readL s.data.toList = (v, er) := Prod.ext hv her
  rw [hv, her] at HR
  have hE : JP.canonE s.data.toList = er := her
  have Hre := Lib.hid hre
  obtain ⟨M, hM⟩ : ∃ T, JP.manyT s.data.toList = T := ⟨_, rfl⟩
  obtain ⟨D, hD⟩ : ∃ T, JP.deepT s.data.toList = T := ⟨_, rfl⟩
  rw [hE, hM, hD]
  have HMx := Lib.hid hM
  have HDx := Lib.hid hD
  clear hv her hre hE hM hD
  go_enter Tryd.func20, Tryd.ntmps20
  go_wp2_with fail
  refine HR.out.mono ?_
  rintro E w1 ⟨u, rfl, ⟨n, hj⟩, hb⟩
  have HJ := Lib.hid hj
  have HB := Lib.hid hb
  clear hj hb HR
  by_cases he : er = 0
  · subst he
    obtain ⟨_, h2, _, h4, h5⟩ := JP.readL_good Hre.out
    have HMt : Hid (JP.size v = M) := Lib.hid (by rw [← HMx.out]; unfold JP.manyT; rw [Hre.out]; exact (if_pos rfl).symm)
    have HDt : Hid (JP.deep v = D) := Lib.hid (by rw [← HDx.out]; unfold JP.deepT; rw [Hre.out]; exact (if_pos rfl).symm)
    have hsz := size_any n u v w1 HJ.out (by omega)
    rw [HMt.out, HDt.out] at hsz
    have HSz := Lib.hid hsz
    clear hsz
    go_wp2_with fail
    refine HSz.out.mono ?_
    rintro E w2 ⟨rfl, rfl⟩
    go_wp2_with fail
    go_ret3
    exact ⟨rfl, HB.out⟩
  · have n0 : (er != 0) = true := by rw [bne_iff_ne]; exact he
    have HMt : Hid (M = 0) := Lib.hid (by rw [← HMx.out]; unfold JP.manyT; rw [Hre.out]; exact if_neg he)
    have HDt : Hid (D = 0) := Lib.hid (by rw [← HDx.out]; unfold JP.deepT; rw [Hre.out]; exact if_neg he)
    clear he
    go_wp2_with fail
    go_ret3
    exact ⟨by rw [HMt.out, HDt.out] <;> rfl, HB.out⟩
set_option maxRecDepth 100000 in
set_option maxHeartbeats 3200000 in
theorem sameJ_any (a b : ByteArray) (w : World) (ha : a.size ≤ 1048576) (hb : b.size ≤ 1048576) (ht : TabOK w) :
    Calls Tryd.prog 17 #[.string a, .string b] w fun e w' => e = .returned (.tuple #[.bool (JP.sameT a.data.toList b.data.toList), .int .i64 (JP.sameE a.data.toList b.data.toList)]) ∧ Below w.heap.size w w' := by
  have HR := Lib.hid (read_any a w ha)
  have HRb := Lib.hid (fun w' => read_any b w' hb)
  obtain ⟨v, hv⟩ : ∃ v, (JP.readL a.data.toList).1 = v := ⟨_, rfl⟩
  obtain ⟨er, her⟩ : ∃ er, (JP.readL a.data.toList).2 = er := ⟨_, rfl⟩
  have hre : JP.readL a.data.toList = (v, er) := Prod.ext hv her
  obtain ⟨v2, hv2⟩ : ∃ v, (JP.readL b.data.toList).1 = v := ⟨_, rfl⟩
  obtain ⟨er2, her2⟩ : ∃ er, (JP.readL b.data.toList).2 = er := ⟨_, rfl⟩
  have hre2 : JP.readL b.data.toList = (v2, er2) := Prod.ext hv2 her2
  have HT := Lib.hid ht
  rw [hv, her] at HR
  rw [hv2, her2] at HRb
  have Hre := Lib.hid hre
  have Hre2 := Lib.hid hre2
  obtain ⟨T, hT⟩ : ∃ T, JP.sameT a.data.toList b.data.toList = T := ⟨_, rfl⟩
  obtain ⟨E0, hE⟩ : ∃ T, JP.sameE a.data.toList b.data.toList = T := ⟨_, rfl⟩
  rw [hE, hT]
  have HTx := Lib.hid hT
  have HEx := Lib.hid hE
  clear ht hv her hre hv2 her2 hre2 hE hT
  go_enter Tryd.func17, Tryd.ntmps17
  go_wp2_with fail
  refine HR.out.mono ?_
  rintro E w1 ⟨u, rfl, ⟨n, hj⟩, hb⟩
  have HJ := Lib.hid hj
  have HB := Lib.hid hb
  clear hj hb HR
  go_wp2_with fail
  refine (HRb.out w1).mono ?_
  rintro E w2 ⟨u2, rfl, ⟨n2, hj⟩, hb⟩
  have HJ2 := Lib.hid hj
  have HJ1 := Lib.hid (HJ.out.below hb)
  have HB2 := Lib.hid (HB.out.trans (hb.mono HB.out.size))
  clear hj hb HRb HJ HB
  by_cases he : er = 0
  · subst he
    obtain ⟨_, _, _, h4, h5⟩ := JP.readL_good Hre.out
    by_cases he2 : er2 = 0
    · subst he2
      obtain ⟨_, _, _, k4, k5⟩ := JP.readL_good Hre2.out
      have HTt : Hid (decide (JP.text v = JP.text v2) = T) := Lib.hid (by rw [← HTx.out]; unfold JP.sameT; rw [Hre.out, Hre2.out]; exact (if_pos ⟨rfl, rfl⟩).symm)
      have HEt : Hid (E0 = 0) := Lib.hid (by rw [← HEx.out]; unfold JP.sameE; rw [Hre.out, Hre2.out]; exact if_pos rfl)
      have hsm := same_any HJ1.out HJ2.out (by omega) (by omega) (HT.out.below HB2.out)
      rw [HTt.out] at hsm
      have HSm := Lib.hid hsm
      clear hsm
      go_wp2_with fail
      refine HSm.out.mono ?_
      rintro E w3 ⟨rfl, hb⟩
      have HB3 := Lib.hid (HB2.out.trans (hb.mono HB2.out.size))
      clear hb
      go_wp2_with fail
      go_ret2
      exact ⟨by rw [HEt.out] <;> rfl, HB3.out⟩
    · have n0 : (er2 != 0) = true := by rw [bne_iff_ne]; exact he2
      have HTt : Hid (T = false) := Lib.hid (by rw [← HTx.out]; unfold JP.sameT; rw [Hre.out, Hre2.out]; exact if_neg (fun h => he2 h.2))
      have HEt : Hid (E0 = er2) := Lib.hid (by rw [← HEx.out]; unfold JP.sameE; rw [Hre.out, Hre2.out]; exact if_pos rfl)
      clear he2
      go_wp2_with fail
      go_ret2
      exact ⟨by rw [HEt.out, HTt.out] <;> rfl, HB2.out⟩
  · have n0 : (er != 0) = true := by rw [bne_iff_ne]; exact he
    have n1 : (er == 0) = false := by rw [beq_eq_false_iff_ne]; exact he
    have HTt : Hid (T = false) := Lib.hid (by rw [← HTx.out]; unfold JP.sameT; rw [Hre.out, Hre2.out]; exact if_neg (fun h => he h.1))
    have HEt : Hid (E0 = er) := Lib.hid (by rw [← HEx.out]; unfold JP.sameE; rw [Hre.out, Hre2.out]; exact if_neg he)
    clear he
    go_wp2_with fail
    go_ret2
    exact ⟨by rw [HEt.out, HTt.out] <;> rfl, HB2.out⟩
end Go.Proofs.YtaddcchpidpbfaaDoor
