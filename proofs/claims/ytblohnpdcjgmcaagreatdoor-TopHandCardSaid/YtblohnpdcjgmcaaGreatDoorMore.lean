/-
  Small facts more on worlds with new blocks. No condition.
-/
import Derived.Test.YtblohnpdcjgmcaaGreatDoorBase
namespace Go.Proofs.YtblohnpdcjgmcaaGreatDoor
open Go.RowKit Go.Sort
@[simp] theorem redrawn_heap (w : World) (d : Nat) : (redrawn w d).heap = w.heap := rfl
end Go.Proofs.YtblohnpdcjgmcaaGreatDoor
