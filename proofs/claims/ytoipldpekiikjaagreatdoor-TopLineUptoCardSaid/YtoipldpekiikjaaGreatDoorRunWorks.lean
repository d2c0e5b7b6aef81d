/-
  The abstract run of works answers true. No condition.
-/
import Derived.Test.YtoipldpekiikjaaGreatDoorStart
import Derived.KernelRfl
namespace Go.Proofs.YtoipldpekiikjaaGreatDoor.Clo
set_option linter.all false
set_option maxRecDepth 100000
/-- What is looked at behind a run: the answer, the two variables. -/
noncomputable def lookR (r : R1) : Option (V × Blk × Blk) := @R1.rec (fun _ => Option (V × Blk × Blk)) (fun _ => none) (fun v h => some (v, h.get nA, h.get nB)) r
theorem lookR_ok {r : R1} {v : V} {a b : Blk} (e : lookR r = some (v, a, b)) : ∃ h', r = .ok v h' ∧ h'.get nA = a ∧ h'.get nB = b := by
  cases r with
  | no c => cases e
  | ok v h' => cases e; exact ⟨h', rfl, rfl, rfl⟩
theorem works_run : lookR (callF tab 5 (exec 20000 tab 5) ⟨.d0,.d0,.d4⟩ [] h0) = some (.b true, .cl 61 .c 0 1 [gvA], .cl 61 .c 0 1 [gvB]) := by kernel_rfl
end Go.Proofs.YtoipldpekiikjaaGreatDoor.Clo
