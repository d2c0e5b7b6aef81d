/-
  The laws SerialAll, SerialTurn, SerialShift, SerialOne as walks. No condition but that the arguments fit their types.
-/
import Derived.Test.YtoefekojjagjdaaSerial
namespace Go.Proofs.Ytoefekojjagjdaa
open Go.RowKit Go.Sort Go.BigFrame
set_option linter.unusedVariables false
theorem shown2 (w : World) : Calls Try.prog 18 #[] w fun e w' => e = .returned (.bool true) ∧ w = w' := by
  have e1 : d16 1 65535 = 2 := by decide
  have e2 : d16 65535 1 = -2 := by decide
  have e3 : d32 0 4294967295 = 1 := by decide
  have e4 : extV 65535 1 = 65537 := by decide
  go_enter Try.func18, Try.ntmps18
  go_wp2_with (first | (go_at_call 21; refine (diff16 _ _ _).mono ?_; rintro e w' ⟨rfl, rfl⟩) | (go_at_call 22; refine (ahead16 _ _ _).mono ?_; rintro e w' ⟨rfl, rfl⟩) | (go_at_call 23; refine (diff32 _ _ _).mono ?_; rintro e w' ⟨rfl, rfl⟩) | (go_at_call 24; refine (ahead32 _ _ _).mono ?_; rintro e w' ⟨rfl, rfl⟩) | (go_at_call 19; refine (refDiff16 _ _ _ (by omega) (by omega) (by omega) (by omega)).mono ?_; rintro e w' ⟨rfl, rfl⟩) | (go_at_call 20; refine (refDiff32 _ _ _ (by omega) (by omega) (by omega) (by omega)).mono ?_; rintro e w' ⟨rfl, rfl⟩) | (go_at_call 25; refine (extend _ _ _ (by omega) (by omega) (by omega) (by omega)).mono ?_; rintro e w' ⟨rfl, rfl⟩) | (go_at_call 26; refine (refExtend _ _ _ (by omega) (by omega) (by omega) (by omega)).mono ?_; rintro e w' ⟨rfl, rfl⟩))
  refine ret_any ⟨_, by simp [results, Try.results18, go_sem]; rfl, ?_⟩ rfl
  exact ⟨rfl, rfl⟩
theorem serialAll_ok (v0 v1 v2 v3 v4 : Value) (w : World) (h0 : Arg Try.prog w 22 v0) (h1 : Arg Try.prog w 22 v1) (h2 : Arg Try.prog w 23 v2) (h3 : Arg Try.prog w 23 v3) (h4 : Arg Try.prog w 3 v4) : Calls Try.prog 3 #[v0, v1, v2, v3, v4] w (Gives (.bool true) w) := by
  obtain ⟨a, rfl, ha, ha'⟩ := arg_u16 Try.underlying22 h0
  obtain ⟨b, rfl, hb, hb'⟩ := arg_u16 Try.underlying22 h1
  obtain ⟨c, rfl, hc, hc'⟩ := arg_u32 Try.underlying23 h2
  obtain ⟨d, rfl, hd, hd'⟩ := arg_u32 Try.underlying23 h3
  obtain ⟨l, rfl, hl, hl'⟩ := arg_i64 Try.underlying3 h4
  clear h0 h1 h2 h3 h4
  go_enter Try.func3, Try.ntmps3
  go_wp2_with (first | (go_at_call 18; refine (shown2 _).mono ?_; rintro e w' ⟨rfl, rfl⟩) | (go_at_call 21; refine (diff16 _ _ _).mono ?_; rintro e w' ⟨rfl, rfl⟩) | (go_at_call 22; refine (ahead16 _ _ _).mono ?_; rintro e w' ⟨rfl, rfl⟩) | (go_at_call 23; refine (diff32 _ _ _).mono ?_; rintro e w' ⟨rfl, rfl⟩) | (go_at_call 24; refine (ahead32 _ _ _).mono ?_; rintro e w' ⟨rfl, rfl⟩) | (go_at_call 19; refine (refDiff16 _ _ _ (by omega) (by omega) (by omega) (by omega)).mono ?_; rintro e w' ⟨rfl, rfl⟩) | (go_at_call 20; refine (refDiff32 _ _ _ (by omega) (by omega) (by omega) (by omega)).mono ?_; rintro e w' ⟨rfl, rfl⟩) | (go_at_call 25; refine (extend _ _ _ (by omega) (by omega) (by omega) (by omega)).mono ?_; rintro e w' ⟨rfl, rfl⟩) | (go_at_call 26; refine (refExtend _ _ _ (by omega) (by omega) (by omega) (by omega)).mono ?_; rintro e w' ⟨rfl, rfl⟩))
  refine ret_any ⟨_, by simp [results, Try.results3, go_sem]; rfl, ?_⟩ rfl
  exact gives_of rfl (Below.refl _ _)
theorem serialShift_ok (v0 v1 v2 v3 v4 v5 : Value) (w : World) (h0 : Arg Try.prog w 22 v0) (h1 : Arg Try.prog w 22 v1) (h2 : Arg Try.prog w 22 v2) (h3 : Arg Try.prog w 23 v3) (h4 : Arg Try.prog w 23 v4) (h5 : Arg Try.prog w 23 v5) : Calls Try.prog 5 #[v0, v1, v2, v3, v4, v5] w (Gives (.bool true) w) := by
  obtain ⟨a, rfl, ha, ha'⟩ := arg_u16 Try.underlying22 h0
  obtain ⟨b, rfl, hb, hb'⟩ := arg_u16 Try.underlying22 h1
  obtain ⟨k, rfl, hk, hk'⟩ := arg_u16 Try.underlying22 h2
  obtain ⟨c, rfl, hc, hc'⟩ := arg_u32 Try.underlying23 h3
  obtain ⟨d, rfl, hd, hd'⟩ := arg_u32 Try.underlying23 h4
  obtain ⟨m, rfl, hm, hm'⟩ := arg_u32 Try.underlying23 h5
  clear h0 h1 h2 h3 h4 h5
  have e1 : d16 ((a + k) % 65536) ((b + k) % 65536) = d16 a b := by unfold d16; omega
  have e2 : d32 ((c + m) % 4294967296) ((d + m) % 4294967296) = d32 c d := by unfold d32; omega
  go_enter Try.func5, Try.ntmps5
  go_wp2_with (first | (go_at_call 18; refine (shown2 _).mono ?_; rintro e w' ⟨rfl, rfl⟩) | (go_at_call 21; refine (diff16 _ _ _).mono ?_; rintro e w' ⟨rfl, rfl⟩) | (go_at_call 22; refine (ahead16 _ _ _).mono ?_; rintro e w' ⟨rfl, rfl⟩) | (go_at_call 23; refine (diff32 _ _ _).mono ?_; rintro e w' ⟨rfl, rfl⟩) | (go_at_call 24; refine (ahead32 _ _ _).mono ?_; rintro e w' ⟨rfl, rfl⟩) | (go_at_call 19; refine (refDiff16 _ _ _ (by omega) (by omega) (by omega) (by omega)).mono ?_; rintro e w' ⟨rfl, rfl⟩) | (go_at_call 20; refine (refDiff32 _ _ _ (by omega) (by omega) (by omega) (by omega)).mono ?_; rintro e w' ⟨rfl, rfl⟩) | (go_at_call 25; refine (extend _ _ _ (by omega) (by omega) (by omega) (by omega)).mono ?_; rintro e w' ⟨rfl, rfl⟩) | (go_at_call 26; refine (refExtend _ _ _ (by omega) (by omega) (by omega) (by omega)).mono ?_; rintro e w' ⟨rfl, rfl⟩))
  refine ret_any ⟨_, by simp [results, Try.results5, go_sem]; rfl, ?_⟩ rfl
  exact gives_of rfl (Below.refl _ _)
end Go.Proofs.Ytoefekojjagjdaa
