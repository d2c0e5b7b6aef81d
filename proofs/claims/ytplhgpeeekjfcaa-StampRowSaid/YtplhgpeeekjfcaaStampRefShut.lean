/-
  Media of stamp and of the reference, each by its contract, in four ways (ref). No condition but that the numbers fit their kinds.
-/
import Derived.Test.YtplhgpeeekjfcaaStampDefs
namespace Go.Proofs.Ytplhgpeeekjfcaa
open Go.RowKit Go.Sort Go.BigFrame
set_option linter.unusedVariables false
attribute [local go_sem ↓] Go.wp_at_zero Go.wp_at_succ
set_option maxHeartbeats 4000000 in
set_option maxRecDepth 100000 in
theorem refShut3false (ga gc : Int) (gp gm cl : Bool) (ci co cn : Int) (ka : Bool) (ko kl out fr se oc : Int) (mk : Bool) (ty sq tm ss : Int) (cA : Option Addr) (cL cC : Nat) (hx : Bool) (pf : Int) (eA : Option Addr) (eL eC : Nat) (pA : Option Addr) (pL pC : Nat) (pad : Int) (la : Int) (st : Bool) (df : Int) (w : World) (h : takeV ga gc gp gm la (false && st) = 3) :
    Calls Try.prog 45 #[track ga gc gp gm cl ci co cn ka ko kl out fr se oc, packetV mk ty sq tm ss cA cL cC hx pf eA eL eC pA pL pC pad, descV la false st df] w (Gives (.tuple #[track ga gc gp gm cl ci co cn ka ko kl out fr se oc, patchV 0 0 0 0, .int .i64 3]) w) := by
  have key := fun (w : World) => refTake ga gc la gp gm (false && st) w
  rw [h] at key
  simp only [Bool.false_and] at key
  unfold track packetV descV patchV
  clear h
  go_enter Try.func45, Try.ntmps45
  go_wp2_with (first | (go_at_call 35; refine (key _).mono ?_; rintro e w1 ⟨rfl, hb1⟩; have ha1 : After _ w1 := ⟨hb1⟩; obtain ⟨hc1, hf1⟩ := after hb1; have hz1 := hb1.size; try simp at hz1) | (refine wpList_load_whole (by rfl) 64 _ (by rfl) _ (by rfl) (by infer_instance) (by rfl) ?_) | (refine wpList_store_whole (by rfl) 64 _ _ (by rfl) _ _ (by rfl) (by rfl) (by infer_instance) (by rfl) (by rfl) (by rfl) ?_))
  refine ret_cct 6 7 8 64 71 (by rfl) (by rfl) _ _ _ (by rfl) (by rfl) (by rfl) (by infer_instance) (by infer_instance) (by rfl) (by rfl) ?_
  refine gives_of rfl (by repeat (first | with_reducible exact Below.refl _ _ | (with_reducible refine Below.alloc ?_ ?_ _; rotate_left; focus ((try simp) <;> omega)) | (with_reducible refine Below.setCell ?_ ?_ _; rotate_left; focus ((try simp) <;> omega)) | (with_reducible refine below_grow ?_ ?_; rotate_left; focus ((try simp) <;> omega)) | (with_reducible refine below_putB ?_ ?_; rotate_left; focus ((try simp) <;> omega)) | with_reducible refine Below.drew ?_ | with_reducible refine below_drewN ?_ | with_reducible assumption | (with_reducible refine below_step (by assumption) ?_ ?_; rotate_left; focus ((try simp) <;> omega))))
set_option maxHeartbeats 4000000 in
set_option maxRecDepth 100000 in
theorem refShut3true (ga gc : Int) (gp gm cl : Bool) (ci co cn : Int) (ka : Bool) (ko kl out fr se oc : Int) (mk : Bool) (ty sq tm ss : Int) (cA : Option Addr) (cL cC : Nat) (hx : Bool) (pf : Int) (eA : Option Addr) (eL eC : Nat) (pA : Option Addr) (pL pC : Nat) (pad : Int) (la : Int) (st : Bool) (df : Int) (w : World) (h : takeV ga gc gp gm la (true && st) = 3) :
    Calls Try.prog 45 #[track ga gc gp gm cl ci co cn ka ko kl out fr se oc, packetV mk ty sq tm ss cA cL cC hx pf eA eL eC pA pL pC pad, descV la true st df] w (Gives (.tuple #[track ga gc gp gm cl ci co cn ka ko kl out fr se oc, patchV 0 0 0 0, .int .i64 3]) w) := by
  have key := fun (w : World) => refTake ga gc la gp gm (true && st) w
  rw [h] at key
  simp only [Bool.true_and] at key
  unfold track packetV descV patchV
  clear h
  go_enter Try.func45, Try.ntmps45
  go_wp2_with (first | (go_at_call 35; refine (key _).mono ?_; rintro e w1 ⟨rfl, hb1⟩; have ha1 : After _ w1 := ⟨hb1⟩; obtain ⟨hc1, hf1⟩ := after hb1; have hz1 := hb1.size; try simp at hz1) | (refine wpList_load_whole (by rfl) 64 _ (by rfl) _ (by rfl) (by infer_instance) (by rfl) ?_) | (refine wpList_store_whole (by rfl) 64 _ _ (by rfl) _ _ (by rfl) (by rfl) (by infer_instance) (by rfl) (by rfl) (by rfl) ?_))
  refine ret_cct 6 7 8 64 71 (by rfl) (by rfl) _ _ _ (by rfl) (by rfl) (by rfl) (by infer_instance) (by infer_instance) (by rfl) (by rfl) ?_
  refine gives_of rfl (by repeat (first | with_reducible exact Below.refl _ _ | (with_reducible refine Below.alloc ?_ ?_ _; rotate_left; focus ((try simp) <;> omega)) | (with_reducible refine Below.setCell ?_ ?_ _; rotate_left; focus ((try simp) <;> omega)) | (with_reducible refine below_grow ?_ ?_; rotate_left; focus ((try simp) <;> omega)) | (with_reducible refine below_putB ?_ ?_; rotate_left; focus ((try simp) <;> omega)) | with_reducible refine Below.drew ?_ | with_reducible refine below_drewN ?_ | with_reducible assumption | (with_reducible refine below_step (by assumption) ?_ ?_; rotate_left; focus ((try simp) <;> omega))))
set_option maxHeartbeats 4000000 in
set_option maxRecDepth 100000 in
theorem refShut4false (ga gc : Int) (gp gm cl : Bool) (ci co cn : Int) (ka : Bool) (ko kl out fr se oc : Int) (mk : Bool) (ty sq tm ss : Int) (cA : Option Addr) (cL cC : Nat) (hx : Bool) (pf : Int) (eA : Option Addr) (eL eC : Nat) (pA : Option Addr) (pL pC : Nat) (pad : Int) (la : Int) (st : Bool) (df : Int) (w : World) (h : takeV ga gc gp gm la (false && st) = 4) :
    Calls Try.prog 45 #[track ga gc gp gm cl ci co cn ka ko kl out fr se oc, packetV mk ty sq tm ss cA cL cC hx pf eA eL eC pA pL pC pad, descV la false st df] w (Gives (.tuple #[track ga gc gp gm cl ci co cn ka ko kl out fr se oc, patchV 0 0 0 0, .int .i64 4]) w) := by
  have key := fun (w : World) => refTake ga gc la gp gm (false && st) w
  rw [h] at key
  simp only [Bool.false_and] at key
  unfold track packetV descV patchV
  clear h
  go_enter Try.func45, Try.ntmps45
  go_wp2_with (first | (go_at_call 35; refine (key _).mono ?_; rintro e w1 ⟨rfl, hb1⟩; have ha1 : After _ w1 := ⟨hb1⟩; obtain ⟨hc1, hf1⟩ := after hb1; have hz1 := hb1.size; try simp at hz1) | (refine wpList_load_whole (by rfl) 64 _ (by rfl) _ (by rfl) (by infer_instance) (by rfl) ?_) | (refine wpList_store_whole (by rfl) 64 _ _ (by rfl) _ _ (by rfl) (by rfl) (by infer_instance) (by rfl) (by rfl) (by rfl) ?_))
  refine ret_cct 6 7 8 64 71 (by rfl) (by rfl) _ _ _ (by rfl) (by rfl) (by rfl) (by infer_instance) (by infer_instance) (by rfl) (by rfl) ?_
  refine gives_of rfl (by repeat (first | with_reducible exact Below.refl _ _ | (with_reducible refine Below.alloc ?_ ?_ _; rotate_left; focus ((try simp) <;> omega)) | (with_reducible refine Below.setCell ?_ ?_ _; rotate_left; focus ((try simp) <;> omega)) | (with_reducible refine below_grow ?_ ?_; rotate_left; focus ((try simp) <;> omega)) | (with_reducible refine below_putB ?_ ?_; rotate_left; focus ((try simp) <;> omega)) | with_reducible refine Below.drew ?_ | with_reducible refine below_drewN ?_ | with_reducible assumption | (with_reducible refine below_step (by assumption) ?_ ?_; rotate_left; focus ((try simp) <;> omega))))
set_option maxHeartbeats 4000000 in
set_option maxRecDepth 100000 in
theorem refShut4true (ga gc : Int) (gp gm cl : Bool) (ci co cn : Int) (ka : Bool) (ko kl out fr se oc : Int) (mk : Bool) (ty sq tm ss : Int) (cA : Option Addr) (cL cC : Nat) (hx : Bool) (pf : Int) (eA : Option Addr) (eL eC : Nat) (pA : Option Addr) (pL pC : Nat) (pad : Int) (la : Int) (st : Bool) (df : Int) (w : World) (h : takeV ga gc gp gm la (true && st) = 4) :
    Calls Try.prog 45 #[track ga gc gp gm cl ci co cn ka ko kl out fr se oc, packetV mk ty sq tm ss cA cL cC hx pf eA eL eC pA pL pC pad, descV la true st df] w (Gives (.tuple #[track ga gc gp gm cl ci co cn ka ko kl out fr se oc, patchV 0 0 0 0, .int .i64 4]) w) := by
  have key := fun (w : World) => refTake ga gc la gp gm (true && st) w
  rw [h] at key
  simp only [Bool.true_and] at key
  unfold track packetV descV patchV
  clear h
  go_enter Try.func45, Try.ntmps45
  go_wp2_with (first | (go_at_call 35; refine (key _).mono ?_; rintro e w1 ⟨rfl, hb1⟩; have ha1 : After _ w1 := ⟨hb1⟩; obtain ⟨hc1, hf1⟩ := after hb1; have hz1 := hb1.size; try simp at hz1) | (refine wpList_load_whole (by rfl) 64 _ (by rfl) _ (by rfl) (by infer_instance) (by rfl) ?_) | (refine wpList_store_whole (by rfl) 64 _ _ (by rfl) _ _ (by rfl) (by rfl) (by infer_instance) (by rfl) (by rfl) (by rfl) ?_))
  refine ret_cct 6 7 8 64 71 (by rfl) (by rfl) _ _ _ (by rfl) (by rfl) (by rfl) (by infer_instance) (by infer_instance) (by rfl) (by rfl) ?_
  refine gives_of rfl (by repeat (first | with_reducible exact Below.refl _ _ | (with_reducible refine Below.alloc ?_ ?_ _; rotate_left; focus ((try simp) <;> omega)) | (with_reducible refine Below.setCell ?_ ?_ _; rotate_left; focus ((try simp) <;> omega)) | (with_reducible refine below_grow ?_ ?_; rotate_left; focus ((try simp) <;> omega)) | (with_reducible refine below_putB ?_ ?_; rotate_left; focus ((try simp) <;> omega)) | with_reducible refine Below.drew ?_ | with_reducible refine below_drewN ?_ | with_reducible assumption | (with_reducible refine below_step (by assumption) ?_ ?_; rotate_left; focus ((try simp) <;> omega))))
end Go.Proofs.Ytplhgpeeekjfcaa

