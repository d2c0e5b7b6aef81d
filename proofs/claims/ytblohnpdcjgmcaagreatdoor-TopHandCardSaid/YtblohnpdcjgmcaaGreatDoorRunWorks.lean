/-
  The abstract run of works answers true. No condition.
-/
import Derived.Test.YtblohnpdcjgmcaaGreatDoorStart
import Derived.KernelRfl
namespace Go.Proofs.YtblohnpdcjgmcaaGreatDoor.Clo
set_option linter.all false
set_option maxRecDepth 100000
theorem works_run : lookR (callF tab 5 (exec 20000 tab 5) ⟨.d0,.d0,.d7⟩ [] h0) = some (.b true, .cl 62 .c 0 1 [gvA], .cl 62 .c 0 1 [gvB]) := by kernel_rfl
end Go.Proofs.YtblohnpdcjgmcaaGreatDoor.Clo
