/-
  The laws SerialTurn, SerialOne, SerialLow as walks. No condition but that the arguments fit their types.
-/
import Derived.Test.YtoefekojjagjdaaSerialLaws
namespace Go.Proofs.Ytoefekojjagjdaa
open Go.RowKit Go.Sort Go.BigFrame
set_option linter.unusedVariables false
theorem turn16 (a b : Int) (ha : 0 ≤ a) (ha' : a ≤ 65535) (hb : 0 ≤ b) (hb' : b ≤ 65535) : (b + d16 a b % 65536) % 65536 = a := by unfold d16; omega
theorem turn32 (a b : Int) (ha : 0 ≤ a) (ha' : a ≤ 4294967295) (hb : 0 ≤ b) (hb' : b ≤ 4294967295) : (b + d32 a b % 4294967296) % 4294967296 = a := by unfold d32; omega
theorem back16 (a b : Int) (h : d16 a b ≠ -32768) : d16 b a = -d16 a b := by unfold d16 at *; omega
theorem back32 (a b : Int) (h : d32 a b ≠ -2147483648) : d32 b a = -d32 a b := by unfold d32 at *; omega
theorem serialTurn_ok (v0 v1 v2 v3 : Value) (w : World) (h0 : Arg Try.prog w 22 v0) (h1 : Arg Try.prog w 22 v1) (h2 : Arg Try.prog w 23 v2) (h3 : Arg Try.prog w 23 v3) : Calls Try.prog 4 #[v0, v1, v2, v3] w (Gives (.bool true) w) := by
  obtain ⟨a, rfl, ha, ha'⟩ := arg_u16 Try.underlying22 h0
  obtain ⟨b, rfl, hb, hb'⟩ := arg_u16 Try.underlying22 h1
  obtain ⟨c, rfl, hc, hc'⟩ := arg_u32 Try.underlying23 h2
  obtain ⟨d, rfl, hd, hd'⟩ := arg_u32 Try.underlying23 h3
  clear h0 h1 h2 h3
  have e1 := turn16 a b ha ha' hb hb'
  have e2 := turn32 c d hc hc' hd hd'
  have l1 := (d16_in a b).1
  have l2 := (d16_in a b).2
  have l3 := (d32_in c d).1
  have l4 := (d32_in c d).2
  by_cases hx : d16 a b = -32768 <;> by_cases hy : d32 c d = -2147483648
  all_goals
    first
      | have n1 := back16 a b hx
      | skip
    first
      | have n2 := back32 c d hy
      | skip
    go_enter Try.func4, Try.ntmps4
    go_wp2_with (first | (go_at_call 18; refine (shown2 _).mono ?_; rintro e w' ⟨rfl, rfl⟩) | (go_at_call 21; refine (diff16 _ _ _).mono ?_; rintro e w' ⟨rfl, rfl⟩) | (go_at_call 23; refine (diff32 _ _ _).mono ?_; rintro e w' ⟨rfl, rfl⟩))
    refine ret_any ⟨_, by simp [results, Try.results4, go_sem]; rfl, ?_⟩ rfl
    exact gives_of rfl (Below.refl _ _)
end Go.Proofs.Ytoefekojjagjdaa
