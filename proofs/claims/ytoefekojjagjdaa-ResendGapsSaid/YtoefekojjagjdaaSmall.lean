/-
  A slice that is not too long. No condition.
-/
import Derived.Test.YtoefekojjagjdaaMore
namespace Go.Proofs.Ytoefekojjagjdaa
/-- A slice of at most so many elements. -/
def Small (v : Value) : Prop := ∀ (ao : Option Addr) (len cap : Nat), v = .slice ao len cap → len ≤ 1048576
end Go.Proofs.Ytoefekojjagjdaa
