/-
  The laws SerialOne and SerialLow as walks. No condition but that the arguments fit their types.
-/
import Derived.Test.YtoefekojjagjdaaSerialLaws
namespace Go.Proofs.Ytoefekojjagjdaa
open Go.RowKit Go.Sort Go.BigFrame
set_option linter.unusedVariables false
theorem extV_nonneg (l s : Int) : 0 ≤ extV l s := by unfold extV; simp only; split <;> omega
theorem extV_mod (l s : Int) (hs : 0 ≤ s) (hs' : s ≤ 65535) : extV l s % 65536 = s := by unfold extV; simp only; split <;> omega
theorem extV_low (l s : Int) (hs : 0 ≤ s) (hs' : s ≤ 65535) (h : l ≤ 0) : extV l s = s := by unfold extV; simp only; split <;> omega
theorem extV_high (l s : Int) (h : 1099511627776 ≤ l) : extV l s = extV 1099511627776 s := by unfold extV; simp only; rw [show min l 1099511627776 = min 1099511627776 1099511627776 by omega]
theorem extV_le (l s : Int) : extV l s ≤ 1099511700000 := by unfold extV; simp only; split <;> omega
theorem serialLow_ok (v0 v1 : Value) (w : World) (h0 : Arg Try.prog w 3 v0) (h1 : Arg Try.prog w 22 v1) : Calls Try.prog 8 #[v0, v1] w (Gives (.bool true) w) := by
  obtain ⟨l, rfl, hl, hl'⟩ := arg_i64 Try.underlying3 h0
  obtain ⟨s, rfl, hs, hs'⟩ := arg_u16 Try.underlying22 h1
  clear h0 h1
  have n0 := extV_nonneg l s
  have n1 := extV_mod l s hs hs'
  have n2 := extV_le l s
  have n6 : s % 65536 = s := by omega
  have n7 := extV_nonneg 1099511627776 s
  have n8 := extV_mod 1099511627776 s hs hs'
  have n9 := extV_le 1099511627776 s
  rcases (show l ≤ 0 ∨ (0 < l ∧ l < 1099511627776) ∨ 1099511627776 ≤ l by omega) with hx | ⟨hx, hx'⟩ | hx
  all_goals
    first
      | have n4 := extV_low l s hs hs' (by omega)
      | skip
    first
      | have n5 := extV_high l s (by omega)
      | skip
    go_enter Try.func8, Try.ntmps8
    go_wp2_with (first | (go_at_call 18; refine (shown2 _).mono ?_; rintro e w' ⟨rfl, rfl⟩) | (go_at_call 25; refine (extend _ _ _ (by omega) (by omega) (by omega) (by omega)).mono ?_; rintro e w' ⟨rfl, rfl⟩))
    refine ret_any ⟨_, by simp [results, Try.results8, go_sem]; rfl, ?_⟩ rfl
    exact gives_of rfl (Below.refl _ _)
end Go.Proofs.Ytoefekojjagjdaa
