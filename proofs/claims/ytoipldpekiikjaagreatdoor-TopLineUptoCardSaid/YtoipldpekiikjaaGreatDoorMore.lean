/-
  Small facts more on worlds with new blocks. No condition.
-/
import Derived.Test.YtoipldpekiikjaaGreatDoorBase
namespace Go.Proofs.YtoipldpekiikjaaGreatDoor
open Go.RowKit Go.Sort
@[simp] theorem redrawn_heap (w : World) (d : Nat) : (redrawn w d).heap = w.heap := rfl
end Go.Proofs.YtoipldpekiikjaaGreatDoor
