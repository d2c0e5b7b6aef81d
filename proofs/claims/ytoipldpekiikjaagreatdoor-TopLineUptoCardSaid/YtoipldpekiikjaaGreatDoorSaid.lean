/-
  The row of the law, its second form. No condition beyond the row's own.
-/
import Derived.Test.YtoipldpekiikjaaGreatDoorEnd
import Derived.Test.YtoipldpekiikjaaGreatDoorFactInPlace
import Derived.Test.YtoipldpekiikjaaGreatDoorFactUnfollowed
import Derived.Test.YtoipldpekiikjaaGreatDoorFactRecurses
import Derived.Test.YtoipldpekiikjaaGreatDoorFactNamed
namespace Go.Proofs.YtoipldpekiikjaaGreatDoor
set_option linter.all false
open Go Go.ChangeShapes Go.WideShapes Go.ChangeAt Go.RowKit
set_option maxRecDepth 100000
theorem facts : joinedFacts Tryz.prog 3 Tryz.f3 (Rows.OpenSpec.upto Rows.topLineSpec).bare Rows.topLineUptoRow = true := by
  unfold joinedFacts
  repeat (refine Bool.and_eq_true_iff.2 ⟨?_, ?_⟩)
  all_goals first | with_reducible exact f_inPlace | with_reducible exact f_unfollowed | with_reducible exact f_recurses | with_reducible exact f_named | kernel_rfl
theorem said : Rows.TopLineUptoSaid :=
  OpenClaim.holds_of_cond 3 Tryz.f3 rfl rfl rfl rfl rfl rfl rfl ⟨rfl, rfl, rfl, rfl, rfl⟩ rfl rfl rfl rfl rfl (by kernel_rfl) Tryz.func3 facts
    (of_decide_eq_true (by kernel_rfl)) (by unfold Func.isWrapper; first | (rw [if_pos (by decide +kernel)]; kernel_rfl) | (rw [if_neg (by decide +kernel)]; exact ⟨rfl, rfl⟩))
    (fun os started H enc _ F => by rw [OpenClaim.pre_eq_preRow]; exact lifted os started H enc F)
end Go.Proofs.YtoipldpekiikjaaGreatDoor
