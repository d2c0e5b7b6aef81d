/-
  The law StampWhose as a walk: each peer and source have an SSRC of their own. No condition but that the arguments fit their types.
-/
import Derived.Test.YtplhgpeeekjfcaaStampShown
namespace Go.Proofs.Ytplhgpeeekjfcaa
open Go.RowKit Go.Sort Go.BigFrame
set_option linter.unusedVariables false
attribute [local go_sem ↓] Go.wp_at_zero Go.wp_at_succ
set_option maxRecDepth 100000 in
set_option maxHeartbeats 8000000 in
theorem stampWhose_ok (v0 v1 v2 : Value) (w : World) (h0 : Arg Try.prog w 22 v0) (h1 : Arg Try.prog w 3 v1) (h2 : Arg Try.prog w 3 v2) : Calls Try.prog 16 #[v0, v1, v2] w (Gives (.bool true) w) := by
  obtain ⟨x, rfl, hx, hx'⟩ := arg_u32 Try.underlying22 h0
  obtain ⟨p, rfl, hp, hp'⟩ := arg_i64 Try.underlying3 h1
  obtain ⟨s, rfl, hs, hs'⟩ := arg_i64 Try.underlying3 h2
  clear h0 h1 h2
  have kx := fun (w : World) => whose_any x w hx hx'
  have kr := fun (w : World) => refWhose_any x w hx hx'
  have hin : 0 ≤ outV p s ∧ outV p s ≤ 4294967295 := by unfold outV; split <;> omega
  have ky := fun (w : World) => whose_any (outV p s) w hin.1 hin.2
  have hw := whose_out p s
  generalize hq : outV p s = q at *
  have HQ := Lib.hid hq
  clear hq
  obtain ⟨a, b, c, hv⟩ : ∃ a b c, whoseV x = .tuple #[.int .i64 a, .int .i64 b, .bool c] := ⟨_, _, _, rfl⟩
  rw [hv] at kx kr
  clear hv
  have ko := fun (w : World) => out_any p s w
  have kf := fun (w : World) => refOut_any p s w
  rw [HQ.out] at ko kf
  rcases hw with ⟨p1, p2, s1, s2, hq, hv⟩ | ⟨hq, hv⟩
  · rw [hv] at ky
    have f1 : (q == 0) = false := by simp; omega
    have f2 : (q != 0) = true := by simp; omega
    have f3 : 3221225472 ≤ q := by omega
    clear hv hq
    go_enter Try.func16, Try.ntmps16
    go_wp2_with (first | (go_at_call 43; refine (shown17 _).mono ?_; rintro e w1 ⟨rfl, hb1⟩; have ha1 : After _ w1 := ⟨hb1⟩; obtain ⟨hc1, hf1⟩ := after hb1; have hz1 := hb1.size; try simp at hz1))
    refine (kx _).mono ?_; rintro e w' ⟨rfl, rfl⟩
    go_wp2_with (first | (go_at_call 51; refine (kr _).mono ?_; rintro e w' ⟨rfl, rfl⟩) | (go_at_call 52; refine (ko _).mono ?_; rintro e w' ⟨rfl, rfl⟩))
    refine (ky _).mono ?_; rintro e w' ⟨rfl, rfl⟩
    go_wp2_with (first | (go_at_call 53; refine (kf _).mono ?_; rintro e w' ⟨rfl, rfl⟩))
    refine ret_any ⟨_, by simp [results, Try.results16, go_sem, *]; rfl, ?_⟩ rfl
    refine gives_of rfl (by repeat (first | with_reducible exact Below.refl _ _ | (with_reducible refine Below.alloc ?_ ?_ _; rotate_left; focus ((try simp) <;> omega)) | (with_reducible refine Below.setCell ?_ ?_ _; rotate_left; focus ((try simp) <;> omega)) | (with_reducible refine below_grow ?_ ?_; rotate_left; focus ((try simp) <;> omega)) | (with_reducible refine below_putB ?_ ?_; rotate_left; focus ((try simp) <;> omega)) | with_reducible refine Below.drew ?_ | with_reducible refine below_drewN ?_ | with_reducible assumption | (with_reducible refine below_step (by assumption) ?_ ?_; rotate_left; focus ((try simp) <;> omega))))
  · rw [hv] at ky
    subst hq
    clear hv
    go_enter Try.func16, Try.ntmps16
    go_wp2_with (first | (go_at_call 43; refine (shown17 _).mono ?_; rintro e w1 ⟨rfl, hb1⟩; have ha1 : After _ w1 := ⟨hb1⟩; obtain ⟨hc1, hf1⟩ := after hb1; have hz1 := hb1.size; try simp at hz1))
    refine (kx _).mono ?_; rintro e w' ⟨rfl, rfl⟩
    go_wp2_with (first | (go_at_call 51; refine (kr _).mono ?_; rintro e w' ⟨rfl, rfl⟩) | (go_at_call 52; refine (ko _).mono ?_; rintro e w' ⟨rfl, rfl⟩))
    refine (ky _).mono ?_; rintro e w' ⟨rfl, rfl⟩
    go_wp2_with (first | (go_at_call 53; refine (kf _).mono ?_; rintro e w' ⟨rfl, rfl⟩))
    refine ret_any ⟨_, by simp [results, Try.results16, go_sem, *]; rfl, ?_⟩ rfl
    refine gives_of rfl (by repeat (first | with_reducible exact Below.refl _ _ | (with_reducible refine Below.alloc ?_ ?_ _; rotate_left; focus ((try simp) <;> omega)) | (with_reducible refine Below.setCell ?_ ?_ _; rotate_left; focus ((try simp) <;> omega)) | (with_reducible refine below_grow ?_ ?_; rotate_left; focus ((try simp) <;> omega)) | (with_reducible refine below_putB ?_ ?_; rotate_left; focus ((try simp) <;> omega)) | with_reducible refine Below.drew ?_ | with_reducible refine below_drewN ?_ | with_reducible assumption | (with_reducible refine below_step (by assumption) ?_ ?_; rotate_left; focus ((try simp) <;> omega))))
end Go.Proofs.Ytplhgpeeekjfcaa

