/-
  The law HistoryNone as a walk: one that is none keeps nothing. No condition but that the argument fits its type.
-/
import Derived.Test.YtjlclpdjblicjaaHistMid
namespace Go.Proofs.Ytjlclpdjblicjaa
open Go.RowKit Go.Sort Go.BigFrame
set_option linter.unusedVariables false
attribute [local go_sem ↓] Go.wp_at_zero Go.wp_at_succ
set_option maxRecDepth 100000 in
set_option maxHeartbeats 4000000 in
theorem historyNone_ok (v0 : Value) (w : World) (h0 : Arg Try.prog w 54 v0) : Calls Try.prog 10 #[v0] w (Gives (.bool true) w) := by
  obtain ⟨x0, x1, x2, x3, x4, x5, x6, rfl, _, _, _, _, _, _, _, _, _, _, _, _, _, _⟩ := arg_entry h0
  have kp := fun (w : World) => pushNil18 (x0, x1, x2, x3, x4, x5, x6) w
  have kf := fun (w : World) => findNil (s := x0) (w := w)
  simp only [entC] at kp
  rw [show findV [] x0 = .tuple #[.agg #[.int .u16 0, .int .i64 0, .int .u32 0, .int .u16 0, .int .u32 0, .int .u32 0, .int .u16 0], .bool false] from rfl] at kf
  clear h0
  go_enter Try.func10, Try.ntmps10
  go_wp2_with (first | (go_at_call 27; refine (shown18 _).mono ?_; rintro e w1 ⟨rfl, hb1⟩; have ha1 : After _ w1 := ⟨hb1⟩; obtain ⟨hc1, hf1⟩ := after hb1; have hz1 := hb1.size; try simp at hz1))
  refine (kp _).mono ?_; rintro e w2 ⟨rfl, hb2⟩; have ha2 : After _ w2 := ⟨hb2⟩; obtain ⟨hc2, hf2⟩ := after hb2; have hz2 := hb2.size; try simp at hz2
  go_wp2_with fail
  refine (kf _).mono ?_; rintro e w3 ⟨rfl, hb3⟩; have ha3 : After _ w3 := ⟨hb3⟩; obtain ⟨hc3, hf3⟩ := after hb3; have hz3 := hb3.size; try simp at hz3
  go_wp2_with (first | (go_at_call 35; refine (allNil18 _).mono ?_; rintro e w1 ⟨rfl, hb1⟩; have ha1 : After _ w1 := ⟨hb1⟩; obtain ⟨hc1, hf1⟩ := after hb1; have hz1 := hb1.size; try simp at hz1))
  refine (clearNil _).mono ?_; rintro e w5 ⟨rfl, hb5⟩
  go_wp2_with fail
  refine ret_any ⟨_, by simp [results, Try.results10, go_sem, *]; rfl, ?_⟩ rfl
  exact gives_of rfl (by repeat (first | with_reducible exact Below.refl _ _ | (with_reducible refine Below.alloc ?_ ?_ _; rotate_left; focus ((try simp) <;> omega)) | (with_reducible refine Below.setCell ?_ ?_ _; rotate_left; focus ((try simp) <;> omega)) | (with_reducible refine below_grow ?_ ?_; rotate_left; focus ((try simp) <;> omega)) | (with_reducible refine below_putB ?_ ?_; rotate_left; focus ((try simp) <;> omega)) | with_reducible refine Below.drew ?_ | with_reducible refine below_drewN ?_ | with_reducible assumption | (with_reducible refine below_step (by assumption) ?_ ?_; rotate_left; focus ((try simp) <;> omega))))
end Go.Proofs.Ytjlclpdjblicjaa
