/-
  A closed fact of the row. No condition.
-/
import Derived.Test.YtoipldpekiikjaaGreatDoorRows
namespace Go.Proofs.YtoipldpekiikjaaGreatDoor
set_option linter.all false
open Go
set_option maxRecDepth 100000
theorem f_unfollowed : (Rows.topLineUptoRow.unfollowed == Tryz.prog.unfollowed 3) = true := by kernel_rfl
end Go.Proofs.YtoipldpekiikjaaGreatDoor
