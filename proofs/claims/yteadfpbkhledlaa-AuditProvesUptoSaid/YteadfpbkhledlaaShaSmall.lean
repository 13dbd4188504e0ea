/- The walks of seal.turned, seal.constants and seal.first. -/
import Derived.Test.YteadfpbkhledlaaKit
import Derived.Test.YteadfpbkhledlaaPure
import Derived.Test.YteadfpbkhledlaaTabs
import Derived.WalkKit
import Derived.WalkSpells
import Derived.WalkLawsBesides
import Derived.Lib.Hide
import Derived.KernelRfl
namespace Go.Proofs.Yteadfpbkhledlaa
open Go.RowKit

def kNums : List Int := [1116352408, 1899447441, 3049323471, 3921009573, 961987163, 1508970993, 2453635748, 2870763221, 3624381080, 310598401, 607225278, 1426881987, 1925078388, 2162078206, 2614888103, 3248222580, 3835390401, 4022224774, 264347078, 604807628, 770255983, 1249150122, 1555081692, 1996064986, 2554220882, 2821834349, 2952996808, 3210313671, 3336571891, 3584528711, 113926993, 338241895, 666307205, 773529912, 1294757372, 1396182291, 1695183700, 1986661051, 2177026350, 2456956037, 2730485921, 2820302411, 3259730800, 3345764771, 3516065817, 3600352804, 4094571909, 275423344, 430227734, 506948616, 659060556, 883997877, 958139571, 1322822218, 1537002063, 1747873779, 1955562222, 2024104815, 2227730452, 2361852424, 2428436474, 2756734187, 3204031479, 3329325298]
def kTab : Array Value := #[.int .u32 1116352408, .int .u32 1899447441, .int .u32 3049323471, .int .u32 3921009573, .int .u32 961987163, .int .u32 1508970993, .int .u32 2453635748, .int .u32 2870763221, .int .u32 3624381080, .int .u32 310598401, .int .u32 607225278, .int .u32 1426881987, .int .u32 1925078388, .int .u32 2162078206, .int .u32 2614888103, .int .u32 3248222580, .int .u32 3835390401, .int .u32 4022224774, .int .u32 264347078, .int .u32 604807628, .int .u32 770255983, .int .u32 1249150122, .int .u32 1555081692, .int .u32 1996064986, .int .u32 2554220882, .int .u32 2821834349, .int .u32 2952996808, .int .u32 3210313671, .int .u32 3336571891, .int .u32 3584528711, .int .u32 113926993, .int .u32 338241895, .int .u32 666307205, .int .u32 773529912, .int .u32 1294757372, .int .u32 1396182291, .int .u32 1695183700, .int .u32 1986661051, .int .u32 2177026350, .int .u32 2456956037, .int .u32 2730485921, .int .u32 2820302411, .int .u32 3259730800, .int .u32 3345764771, .int .u32 3516065817, .int .u32 3600352804, .int .u32 4094571909, .int .u32 275423344, .int .u32 430227734, .int .u32 506948616, .int .u32 659060556, .int .u32 883997877, .int .u32 958139571, .int .u32 1322822218, .int .u32 1537002063, .int .u32 1747873779, .int .u32 1955562222, .int .u32 2024104815, .int .u32 2227730452, .int .u32 2361852424, .int .u32 2428436474, .int .u32 2756734187, .int .u32 3204031479, .int .u32 3329325298]
def hTab : Array Value := #[.int .u32 1779033703, .int .u32 3144134277, .int .u32 1013904242, .int .u32 2773480762, .int .u32 1359893119, .int .u32 2600822924, .int .u32 528734635, .int .u32 1541459225]

theorem Try.size64 : (Try.prog.info? 127).map (·.size) = some 64 := by kernel_rfl
theorem Try.size8 : (Try.prog.info? 90).map (·.size) = some 8 := by kernel_rfl

/-- a 32-bit number turned right by n -/
def rot (n : Nat) (x : Int) : Int := bits .or .u32 (IntKind.u32.wrap (x * 2 ^ (32 - n))) (x / 2 ^ n)
theorem kTab_one : kTab.all (·.oneCell') = true := by kernel_rfl
theorem hTab_one : hTab.all (·.oneCell') = true := by kernel_rfl
theorem kTab_size : kTab.size = 64 := by rfl
theorem hTab_size : hTab.size = 8 := by rfl

set_option maxRecDepth 100000 in
set_option maxHeartbeats 1600000 in
theorem constants_any (w : World) : Calls Try.prog 71 #[] w fun e w' => e = .returned (.agg kTab) ∧ Below w.heap.size w w' := by
  go_enter Try.func71, Try.ntmps71
  go_wp2_with (first | (refine wpList_build_as rfl _ _ rfl kTab (by kernel_rfl) ?_) | (refine wpList_store_row rfl _ _ _ rfl w.heap.size kTab rfl rfl 127 _ (heap_alloc_new w _) (by rw [kTab_size]; exact Try.size64) (by rw [kTab_size]; rfl) kTab_one ?_))
  exact bodyPost_ret (results_cell_row rfl _ _ w.heap.size 127 kTab (0, 0) _ rfl (setRow_heap _ _ _ _ _ _ (heap_alloc_new w _)) Try.underlying127 rfl (by rw [kTab_size]; exact Try.size64)) rfl ⟨rfl, below_setRow ((Below.refl _ _).alloc (Nat.le_refl _) _) (Nat.le_refl _) _⟩

set_option maxRecDepth 100000 in
set_option maxHeartbeats 1600000 in
theorem first_any (w : World) : Calls Try.prog 46 #[] w fun e w' => e = .returned (.agg hTab) ∧ Below w.heap.size w w' := by
  go_enter Try.func46, Try.ntmps46
  go_wp2_with (first | (refine wpList_build_as rfl _ _ rfl hTab (by kernel_rfl) ?_) | (refine wpList_store_row rfl _ _ _ rfl w.heap.size hTab rfl rfl 90 _ (heap_alloc_new w _) (by rw [hTab_size]; exact Try.size8) (by rw [hTab_size]; rfl) hTab_one ?_))
  exact bodyPost_ret (results_cell_row rfl _ _ w.heap.size 90 hTab (0, 0) _ rfl (setRow_heap _ _ _ _ _ _ (heap_alloc_new w _)) Try.underlying90 rfl (by rw [hTab_size]; exact Try.size8)) rfl ⟨rfl, below_setRow ((Below.refl _ _).alloc (Nat.le_refl _) _) (Nat.le_refl _) _⟩


theorem turned_2 (x : Int) (w : World) : Calls Try.prog 70 #[.int .u32 x, .int .i64 2] w fun e w' => e = .returned (.int .u32 (rot 2 x)) ∧ w = w' := by
  have h1 : bits .and .u64 (IntKind.u64.wrap (-2)) 31 = 30 := by kernel_rfl
  go_enter Try.func70, Try.ntmps70
  go_wp2
  go_ret
  exact ⟨rfl, rfl⟩

theorem turned_6 (x : Int) (w : World) : Calls Try.prog 70 #[.int .u32 x, .int .i64 6] w fun e w' => e = .returned (.int .u32 (rot 6 x)) ∧ w = w' := by
  have h1 : bits .and .u64 (IntKind.u64.wrap (-6)) 31 = 26 := by kernel_rfl
  go_enter Try.func70, Try.ntmps70
  go_wp2
  go_ret
  exact ⟨rfl, rfl⟩

theorem turned_7 (x : Int) (w : World) : Calls Try.prog 70 #[.int .u32 x, .int .i64 7] w fun e w' => e = .returned (.int .u32 (rot 7 x)) ∧ w = w' := by
  have h1 : bits .and .u64 (IntKind.u64.wrap (-7)) 31 = 25 := by kernel_rfl
  go_enter Try.func70, Try.ntmps70
  go_wp2
  go_ret
  exact ⟨rfl, rfl⟩

theorem turned_11 (x : Int) (w : World) : Calls Try.prog 70 #[.int .u32 x, .int .i64 11] w fun e w' => e = .returned (.int .u32 (rot 11 x)) ∧ w = w' := by
  have h1 : bits .and .u64 (IntKind.u64.wrap (-11)) 31 = 21 := by kernel_rfl
  go_enter Try.func70, Try.ntmps70
  go_wp2
  go_ret
  exact ⟨rfl, rfl⟩

theorem turned_13 (x : Int) (w : World) : Calls Try.prog 70 #[.int .u32 x, .int .i64 13] w fun e w' => e = .returned (.int .u32 (rot 13 x)) ∧ w = w' := by
  have h1 : bits .and .u64 (IntKind.u64.wrap (-13)) 31 = 19 := by kernel_rfl
  go_enter Try.func70, Try.ntmps70
  go_wp2
  go_ret
  exact ⟨rfl, rfl⟩

theorem turned_17 (x : Int) (w : World) : Calls Try.prog 70 #[.int .u32 x, .int .i64 17] w fun e w' => e = .returned (.int .u32 (rot 17 x)) ∧ w = w' := by
  have h1 : bits .and .u64 (IntKind.u64.wrap (-17)) 31 = 15 := by kernel_rfl
  go_enter Try.func70, Try.ntmps70
  go_wp2
  go_ret
  exact ⟨rfl, rfl⟩

theorem turned_18 (x : Int) (w : World) : Calls Try.prog 70 #[.int .u32 x, .int .i64 18] w fun e w' => e = .returned (.int .u32 (rot 18 x)) ∧ w = w' := by
  have h1 : bits .and .u64 (IntKind.u64.wrap (-18)) 31 = 14 := by kernel_rfl
  go_enter Try.func70, Try.ntmps70
  go_wp2
  go_ret
  exact ⟨rfl, rfl⟩

theorem turned_19 (x : Int) (w : World) : Calls Try.prog 70 #[.int .u32 x, .int .i64 19] w fun e w' => e = .returned (.int .u32 (rot 19 x)) ∧ w = w' := by
  have h1 : bits .and .u64 (IntKind.u64.wrap (-19)) 31 = 13 := by kernel_rfl
  go_enter Try.func70, Try.ntmps70
  go_wp2
  go_ret
  exact ⟨rfl, rfl⟩

theorem turned_22 (x : Int) (w : World) : Calls Try.prog 70 #[.int .u32 x, .int .i64 22] w fun e w' => e = .returned (.int .u32 (rot 22 x)) ∧ w = w' := by
  have h1 : bits .and .u64 (IntKind.u64.wrap (-22)) 31 = 10 := by kernel_rfl
  go_enter Try.func70, Try.ntmps70
  go_wp2
  go_ret
  exact ⟨rfl, rfl⟩

theorem turned_25 (x : Int) (w : World) : Calls Try.prog 70 #[.int .u32 x, .int .i64 25] w fun e w' => e = .returned (.int .u32 (rot 25 x)) ∧ w = w' := by
  have h1 : bits .and .u64 (IntKind.u64.wrap (-25)) 31 = 7 := by kernel_rfl
  go_enter Try.func70, Try.ntmps70
  go_wp2
  go_ret
  exact ⟨rfl, rfl⟩
end Go.Proofs.Yteadfpbkhledlaa
