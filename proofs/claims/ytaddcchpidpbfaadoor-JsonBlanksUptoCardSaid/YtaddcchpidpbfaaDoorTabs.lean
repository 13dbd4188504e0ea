/- Closed facts on the program's table of types. -/
import Derived.Test.YtaddcchpidpbfaaDoorChecked
import Derived.WalkKit
import Derived.KernelRfl
namespace Go.Proofs.YtaddcchpidpbfaaDoor
theorem Tryd.infoU8 : (Tryd.prog.info? 5).map (fun i => (i.zero, i.size, i.bytes)) = some (some (.int .u8 0), 1, 1) := by kernel_rfl
theorem Tryd.infoStr : (Tryd.prog.info? 9).map (fun i => (i.zero, i.size, i.bytes)) = some (some (.string ByteArray.empty), 1, 16) := by kernel_rfl
theorem Tryd.infoInt : (Tryd.prog.info? 3).map (fun i => (i.zero, i.size, i.bytes)) = some (some (.int .i64 0), 1, 8) := by kernel_rfl
end Go.Proofs.YtaddcchpidpbfaaDoor
