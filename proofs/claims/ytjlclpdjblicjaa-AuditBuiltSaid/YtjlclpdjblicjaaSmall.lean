/-
  A slice that is not too long; a struct of such slices. No condition.
-/
import Derived.Test.YtjlclpdjblicjaaMore
namespace Go.Proofs.Ytjlclpdjblicjaa
/-- A slice of at most so many elements. -/
def Small (v : Value) : Prop := ∀ (ao : Option Addr) (len cap : Nat), v = .slice ao len cap → len ≤ 1048576
/-- A struct of four slices, none of which is too long. -/
def SmallSnap (v : Value) : Prop := ∀ (a b c d : Value), v = .agg #[a, b, c, d] → Small a ∧ Small b ∧ Small c ∧ Small d
end Go.Proofs.Ytjlclpdjblicjaa
