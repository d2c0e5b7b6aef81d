/-
  A closed fact of the row. No condition.
-/
import Derived.Test.YtblohnpdcjgmcaaGreatDoorRows
namespace Go.Proofs.YtblohnpdcjgmcaaGreatDoor
set_option linter.all false
open Go
set_option maxRecDepth 100000
theorem f_inPlace : (Rows.topHandRow.inPlace == Tryz.prog.inPlace 3) = true := by kernel_rfl
end Go.Proofs.YtblohnpdcjgmcaaGreatDoor
