/- Underlying types of arguments and results. -/
import Derived.Test.YtcffcblfmlclnaaGreatDoorOpen
namespace Go.Proofs.YtcffcblfmlclnaaGreatDoor
theorem u_u8 : Tryz.prog.underlying 5 = some (.int .u8) := by kernel_rfl
theorem u_bool : Tryz.prog.underlying 4 = some .bool := by kernel_rfl
theorem u_int : Tryz.prog.underlying 3 = some (.int .i64) := by kernel_rfl
end Go.Proofs.YtcffcblfmlclnaaGreatDoor
