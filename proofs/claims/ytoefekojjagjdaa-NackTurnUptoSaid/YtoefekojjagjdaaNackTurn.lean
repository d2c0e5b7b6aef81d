/-
  The law NackTurn as a walk: the pairs that were packed ask for just those numbers. Of the argument: it fits its type and is not too long.
-/
import Derived.Test.YtoefekojjagjdaaNackArgs
namespace Go.Proofs.Ytoefekojjagjdaa
open Go.RowKit Go.Sort Go.BigFrame
set_option linter.unusedVariables false
attribute [local go_sem ↓] Go.wp_at_zero Go.wp_at_succ
set_option maxRecDepth 100000 in
theorem nackTurn_ok (v0 : Value) (w : World) (h0 : Arg Try.prog w 36 v0) (s0 : Small v0) : Calls Try.prog 9 #[v0] w (Gives (.bool true) w) := by
  obtain ⟨m, hm, hh⟩ := arg_nums h0
  obtain ⟨ao, cap, hv, _⟩ := hh.shape
  have hn : m.length ≤ 1048576 := s0 ao _ cap hv
  have kp := fun (w' : World) (k : Below w.heap.size w w') => packR (hh.keep k) rfl hm (by omega)
  have hpl : (pack m).length ≤ m.length := packTo_len m m.length
  have kx := fun (w' : World) (v : Value) (h : Has w' 2 v (pack m).length (prs (pack m))) => expandR h rfl (packTo_fits hm m.length) (by omega)
  rw [expand_pack_all hm] at kx
  have ks := fun (w' : World) (v : Value) (k : Below w.heap.size w w') (h : Has w' 1 v m.length (nums m)) => sameN h (hh.keep k) rfl (by omega)
  have KP := Lib.hid kp
  have KX := Lib.hid kx
  have KS := Lib.hid ks
  clear kp kx ks hpl hn hv h0 s0
  go_enter Try.func9, Try.ntmps9
  go_wp2_with (first | (go_at_call 27; refine (shown8 _).mono ?_; rintro e w1 ⟨rfl, hb1⟩; have ha1 : After _ w1 := ⟨hb1⟩; obtain ⟨hc1, hf1⟩ := after hb1; have hz1 := hb1.size; try simp at hz1))
  refine (KP.out _ (by repeat (first | with_reducible exact Below.refl _ _ | (with_reducible refine Below.alloc ?_ ?_ _; rotate_left; focus ((try simp) <;> omega)) | (with_reducible refine Below.setCell ?_ ?_ _; rotate_left; focus ((try simp) <;> omega)) | (with_reducible refine below_grow ?_ ?_; rotate_left; focus ((try simp) <;> omega)) | (with_reducible refine below_putB ?_ ?_; rotate_left; focus ((try simp) <;> omega)) | with_reducible refine Below.drew ?_ | with_reducible refine below_drewN ?_ | with_reducible assumption | (with_reducible refine below_step (by assumption) ?_ ?_; rotate_left; focus ((try simp) <;> omega))))).mono ?_; rintro e w2 ⟨v2, rfl, hL2, hb2⟩
  have B2 : RowKit.Below w.heap.size w w2 := (by repeat (first | with_reducible exact Below.refl _ _ | (with_reducible refine Below.alloc ?_ ?_ _; rotate_left; focus ((try simp) <;> omega)) | (with_reducible refine Below.setCell ?_ ?_ _; rotate_left; focus ((try simp) <;> omega)) | (with_reducible refine below_grow ?_ ?_; rotate_left; focus ((try simp) <;> omega)) | (with_reducible refine below_putB ?_ ?_; rotate_left; focus ((try simp) <;> omega)) | with_reducible refine Below.drew ?_ | with_reducible refine below_drewN ?_ | with_reducible assumption | (with_reducible refine below_step (by assumption) ?_ ?_; rotate_left; focus ((try simp) <;> omega))))
  go_wp2_with fail
  refine (KX.out _ _ (Has.of_line hL2)).mono ?_; rintro e w3 ⟨v3, rfl, hL3, hb3⟩
  have hz2 := B2.size
  have B3 : RowKit.Below w.heap.size w w3 := (by repeat (first | with_reducible exact Below.refl _ _ | (with_reducible refine Below.alloc ?_ ?_ _; rotate_left; focus ((try simp) <;> omega)) | (with_reducible refine Below.setCell ?_ ?_ _; rotate_left; focus ((try simp) <;> omega)) | (with_reducible refine below_grow ?_ ?_; rotate_left; focus ((try simp) <;> omega)) | (with_reducible refine below_putB ?_ ?_; rotate_left; focus ((try simp) <;> omega)) | with_reducible refine Below.drew ?_ | with_reducible refine below_drewN ?_ | with_reducible assumption | (with_reducible refine below_step (by assumption) ?_ ?_; rotate_left; focus ((try simp) <;> omega))))
  have hz3 := B3.size
  go_wp2_with fail
  refine (KS.out _ _ B3 (Has.of_line hL3)).mono ?_; rintro e w4 ⟨rfl, hb4⟩
  go_wp2_with fail
  refine ret_any ⟨_, by simp [results, Try.results9, go_sem, *]; rfl, ?_⟩ rfl
  refine gives_of rfl (by repeat (first | with_reducible exact Below.refl _ _ | (with_reducible refine Below.alloc ?_ ?_ _; rotate_left; focus ((try simp) <;> omega)) | (with_reducible refine Below.setCell ?_ ?_ _; rotate_left; focus ((try simp) <;> omega)) | (with_reducible refine below_grow ?_ ?_; rotate_left; focus ((try simp) <;> omega)) | (with_reducible refine below_putB ?_ ?_; rotate_left; focus ((try simp) <;> omega)) | with_reducible refine Below.drew ?_ | with_reducible refine below_drewN ?_ | with_reducible assumption | (with_reducible refine below_step (by assumption) ?_ ?_; rotate_left; focus ((try simp) <;> omega))))
end Go.Proofs.Ytoefekojjagjdaa
