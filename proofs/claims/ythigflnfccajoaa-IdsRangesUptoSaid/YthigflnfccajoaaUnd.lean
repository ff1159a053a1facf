/- Underlying types of arguments and results. -/
import Derived.Test.YthigflnfccajoaaOpen
namespace Go.Proofs.Ythigflnfccajoaa
theorem u_u8 : Try.prog.underlying 5 = some (.int .u8) := by kernel_rfl
theorem u_bool : Try.prog.underlying 4 = some .bool := by kernel_rfl
theorem u_int : Try.prog.underlying 3 = some (.int .i64) := by kernel_rfl
end Go.Proofs.Ythigflnfccajoaa
