/-
  Small facts more on worlds with new blocks. No condition.
-/
import Derived.Test.YtoefekojjagjdaaBase
namespace Go.Proofs.Ytoefekojjagjdaa
open Go.RowKit Go.Sort
@[simp] theorem redrawn_heap (w : World) (d : Nat) : (redrawn w d).heap = w.heap := rfl
end Go.Proofs.Ytoefekojjagjdaa
