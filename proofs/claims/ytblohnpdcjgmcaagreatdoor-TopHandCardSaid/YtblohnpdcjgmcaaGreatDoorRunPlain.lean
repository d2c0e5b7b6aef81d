/-
  The abstract run of console.Plain on the script. No condition.
-/
import Derived.Test.YtblohnpdcjgmcaaGreatDoorStart
import Derived.KernelRfl
namespace Go.Proofs.YtblohnpdcjgmcaaGreatDoor.Clo
set_option linter.all false
set_option maxRecDepth 100000
theorem plain_run : lookR (callF tab 5 (exec 20000 tab 5) ⟨.d0,.d0,.d5⟩ [scr, .i .i64 4] h0) = some (.t [want, .i .i64 0, .i .i64 0], .cl 62 .c 0 1 [gvA], .cl 62 .c 0 1 [gvB]) := by kernel_rfl
end Go.Proofs.YtblohnpdcjgmcaaGreatDoor.Clo
