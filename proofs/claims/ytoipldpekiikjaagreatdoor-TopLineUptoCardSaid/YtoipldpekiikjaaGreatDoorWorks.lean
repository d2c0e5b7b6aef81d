/-
  The call of works answers true and leaves all that was there. The two listed errors are held by their variables.
-/
import Derived.Test.YtoipldpekiikjaaGreatDoorTab
import Derived.Test.YtoipldpekiikjaaGreatDoorRunWorks
namespace Go.Proofs.YtoipldpekiikjaaGreatDoor.Clo
set_option linter.all false
open Go.Proofs
set_option maxRecDepth 100000
/-- The program's 'works' answers true and leaves all that was there as it was. -/
theorem works_calls {w : World} {bA oA bB oB : Nat} (H : Begun w bA oA bB oB) :
    Calls Tryz.prog 4 #[] w fun e w' => e = .returned (.bool true) ∧ Stood w w' := by
  obtain ⟨h', hr, eA, eB⟩ := lookR_ok works_run
  have r := start_rel (P := Tryz.prog) (by kernel_rfl) (by kernel_rfl) H
  have hn := call_ok table 20000 ⟨.d0, .d0, .d4⟩ [] h0 _ h' hr (s0 w bA oA bB oB) w #[] r .nil
  have hrun : (callFunc 4 #[]).run Tryz.prog w = .ok (.enter 4 #[]) w := enter_run (fn := Tryz.f4) (c := Tryz.f4.body.getD .skip) (by kernel_rfl) (by kernel_rfl) (by kernel_rfl) #[] w
  rcases hn with ⟨_, _, _, h, _⟩ | ⟨_, _, h, _⟩ | ⟨f, args, h, hc⟩
  · rw [show (callFunc (Fx.n ⟨.d0, .d0, .d4⟩) #[]) = callFunc 4 #[] from rfl, hrun] at h; cases h
  · rw [show (callFunc (Fx.n ⟨.d0, .d0, .d4⟩) #[]) = callFunc 4 #[] from rfl, hrun] at h; cases h
  · rw [show (callFunc (Fx.n ⟨.d0, .d0, .d4⟩) #[]) = callFunc 4 #[] from rfl, hrun] at h
    cases h
    refine Calls.mono hc fun x w' hx => ?_
    cases x with
    | returned c =>
      obtain ⟨σ', hx1, r', hv⟩ := hx
      exact ⟨by rw [hv.inv_b], stood_of H hx1 r' eA eB⟩
    | panicked c => exact hx.elim
    | outgrown => exact hx.elim
end Go.Proofs.YtoipldpekiikjaaGreatDoor.Clo
