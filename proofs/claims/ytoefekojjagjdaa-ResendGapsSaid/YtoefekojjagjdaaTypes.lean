/-
  What the reading of an argument tells of its cells, for the structs of this translation. No condition.
-/
import Derived.Test.YtoefekojjagjdaaProg
import Derived.Test.YtoefekojjagjdaaFit
namespace Go.Proofs.Ytoefekojjagjdaa
open Go.RowKit
set_option linter.unusedVariables false
theorem cells_pair : Try.prog.cellsOf 43 = 2 := by kernel_rfl
theorem list_pair {l : List Value} (h : l.length = 2) : ∃ x0 x1, l = [x0, x1] := by
  match l, h with
  | [x0, x1], _ => exact ⟨x0, x1, rfl⟩
theorem fit_pair {w : World} {n : Nat} {cs : List Value} (h : FitW Try.prog w (n + 2) 43 cs) : ∃ (fPid : Int) (fBlp : Int), cs = [.int .u16 fPid, .int .u16 fBlp] ∧ 0 ≤ fPid ∧ fPid ≤ 65535 ∧ 0 ≤ fBlp ∧ fBlp ≤ 65535 := by
  obtain ⟨hlen, h⟩ := fit_struct Try.underlying43 h
  rw [cells_pair] at hlen
  obtain ⟨x0, x1, rfl⟩ := list_pair hlen
  clear hlen
  obtain ⟨z0, e0, c0, d0⟩ := fit_u16 Try.underlying22 (h 0 _ rfl)
  simp [(show Try.prog.cellsOf 22 = 1 by kernel_rfl)] at e0
  obtain ⟨z1, e1, c1, d1⟩ := fit_u16 Try.underlying22 (h 1 _ rfl)
  simp [(show Try.prog.cellsOf 22 = 1 by kernel_rfl)] at e1
  subst e0
  subst e1
  exact ⟨z0, z1, rfl, c0, d0, c1, d1⟩
theorem arg_pair {w : World} {v : Value} (h : Arg Try.prog w 43 v) : ∃ (fPid : Int) (fBlp : Int), v = .agg #[.int .u16 fPid, .int .u16 fBlp] ∧ 0 ≤ fPid ∧ fPid ≤ 65535 ∧ 0 ≤ fBlp ∧ fBlp ≤ 65535 := by
  obtain ⟨⟨l⟩, rfl, h'⟩ := arg_struct Try.underlying43 h
  obtain ⟨fPid, fBlp, e, k0, k1, k2, k3⟩ := fit_pair h'
  simp only at e
  subst e
  exact ⟨fPid, fBlp, rfl, k0, k1, k2, k3⟩

end Go.Proofs.Ytoefekojjagjdaa
