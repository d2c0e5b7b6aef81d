/-
  The law SerialOne as a walk. No condition but that the arguments fit their types.
-/
import Derived.Test.YtoefekojjagjdaaSerialLaws
namespace Go.Proofs.Ytoefekojjagjdaa
open Go.RowKit Go.Sort Go.BigFrame
set_option linter.unusedVariables false
theorem one16 (a b : Int) (ha : 0 ≤ a) (ha' : a ≤ 65535) (hb : 0 ≤ b) (hb' : b ≤ 65535) :
    (0 < d16 a b ∧ d16 b a ≤ 0 ∧ a ≠ b ∧ (a - b) % 65536 ≠ 32768) ∨ (d16 a b ≤ 0 ∧ 0 < d16 b a ∧ a ≠ b ∧ (a - b) % 65536 ≠ 32768) ∨ (d16 a b ≤ 0 ∧ d16 b a ≤ 0 ∧ a = b) ∨ (d16 a b ≤ 0 ∧ d16 b a ≤ 0 ∧ a ≠ b ∧ (a - b) % 65536 = 32768) := by unfold d16; omega
theorem one32 (a b : Int) (ha : 0 ≤ a) (ha' : a ≤ 4294967295) (hb : 0 ≤ b) (hb' : b ≤ 4294967295) :
    (0 < d32 a b ∧ d32 b a ≤ 0 ∧ a ≠ b ∧ (a - b) % 4294967296 ≠ 2147483648) ∨ (d32 a b ≤ 0 ∧ 0 < d32 b a ∧ a ≠ b ∧ (a - b) % 4294967296 ≠ 2147483648) ∨ (d32 a b ≤ 0 ∧ d32 b a ≤ 0 ∧ a = b) ∨ (d32 a b ≤ 0 ∧ d32 b a ≤ 0 ∧ a ≠ b ∧ (a - b) % 4294967296 = 2147483648) := by unfold d32; omega
set_option maxHeartbeats 1600000 in
theorem serialOne_ok (v0 v1 v2 v3 : Value) (w : World) (h0 : Arg Try.prog w 22 v0) (h1 : Arg Try.prog w 22 v1) (h2 : Arg Try.prog w 23 v2) (h3 : Arg Try.prog w 23 v3) : Calls Try.prog 6 #[v0, v1, v2, v3] w (Gives (.bool true) w) := by
  obtain ⟨a, rfl, ha, ha'⟩ := arg_u16 Try.underlying22 h0
  obtain ⟨b, rfl, hb, hb'⟩ := arg_u16 Try.underlying22 h1
  obtain ⟨c, rfl, hc, hc'⟩ := arg_u32 Try.underlying23 h2
  obtain ⟨d, rfl, hd, hd'⟩ := arg_u32 Try.underlying23 h3
  clear h0 h1 h2 h3
  rcases one16 a b ha ha' hb hb' with ⟨p, q, r, s⟩ | ⟨p, q, r, s⟩ | ⟨p, q, rfl⟩ | ⟨p, q, r, s⟩
  all_goals rcases one32 c d hc hc' hd hd' with ⟨p', q', r', s'⟩ | ⟨p', q', r', s'⟩ | ⟨p', q', rfl⟩ | ⟨p', q', r', s'⟩
  all_goals
    try (have e1 : (a == b) = false := by simpa using r)
    try (have e2 : (c == d) = false := by simpa using r')
    try (have e3 : ((a - b) % 65536 == 32768) = false := by simpa using s)
    try (have e4 : ((c - d) % 4294967296 == 2147483648) = false := by simpa using s')
    try (have e1' : (a != b) = true := by simpa using r)
    try (have e2' : (c != d) = true := by simpa using r')
    try (have e3' : ((a - b) % 65536 != 32768) = true := by simpa using s)
    try (have e4' : ((c - d) % 4294967296 != 2147483648) = true := by simpa using s')
    go_enter Try.func6, Try.ntmps6
    go_wp2_with (first | (go_at_call 18; refine (shown2 _).mono ?_; rintro e w' ⟨rfl, rfl⟩) | (go_at_call 22; refine (ahead16 _ _ _).mono ?_; rintro e w' ⟨rfl, rfl⟩) | (go_at_call 24; refine (ahead32 _ _ _).mono ?_; rintro e w' ⟨rfl, rfl⟩))
    refine ret_any ⟨_, by simp [results, Try.results6, go_sem]; rfl, ?_⟩ rfl
    refine gives_of (congrArg Value.bool ?_) (Below.refl _ _)
    first
      | rfl
      | (simp; omega)
end Go.Proofs.Ytoefekojjagjdaa
