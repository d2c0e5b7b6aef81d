/-
  Small facts more on worlds with new blocks. No condition.
-/
import Derived.Test.YtplhgpeeekjfcaaBase
namespace Go.Proofs.Ytplhgpeeekjfcaa
open Go.RowKit Go.Sort
@[simp] theorem redrawn_heap (w : World) (d : Nat) : (redrawn w d).heap = w.heap := rfl
end Go.Proofs.Ytplhgpeeekjfcaa
