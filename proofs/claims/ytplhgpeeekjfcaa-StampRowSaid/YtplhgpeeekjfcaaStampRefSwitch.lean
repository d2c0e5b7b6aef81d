/-
  Media of stamp and of the reference, each by its contract, in four ways (ref). No condition but that the numbers fit their kinds.
-/
import Derived.Test.YtplhgpeeekjfcaaStampDefs
namespace Go.Proofs.Ytplhgpeeekjfcaa
open Go.RowKit Go.Sort Go.BigFrame
set_option linter.unusedVariables false
attribute [local go_sem ↓] Go.wp_at_zero Go.wp_at_succ
set_option maxHeartbeats 16000000 in
set_option maxRecDepth 100000 in
theorem refSwitch (ga gc : Int) (gp gm cl : Bool) (ci co cn : Int) (ka : Bool) (ko kl out fr se oc : Int) (mk : Bool) (ty sq tm ss : Int) (cA : Option Addr) (cL cC : Nat) (hx : Bool) (pf : Int) (eA : Option Addr) (eL eC : Nat) (pA : Option Addr) (pL pC : Nat) (pad : Int) (la : Int) (df : Int) (w : World) (h : takeV ga gc gp gm la true = 2) (hsq : 0 ≤ sq) (hsq' : sq ≤ 65535) (htm : 0 ≤ tm) (htm' : tm ≤ 4294967295) (hci : 0 ≤ ci) (hci' : ci ≤ 65535) (hcn : 0 ≤ cn) (hcn' : cn ≤ 65535) (hko : 0 ≤ ko) (hko' : ko ≤ 4294967295) (hkl : 0 ≤ kl) (hkl' : kl ≤ 4294967295) (hfr : 0 ≤ fr) (hfr' : fr ≤ 65535) (hse : 0 ≤ se) (hse' : se ≤ 4294967295) (hoc : 0 ≤ oc) (hoc' : oc ≤ 4294967295) (hpl : pL ≤ 9223372036854775807) :
    Calls Try.prog 45 #[track ga gc gp gm cl ci co cn ka ko kl out fr se oc, packetV mk ty sq tm ss cA cL cC hx pf eA eL eC pA pL pC pad, descV la true true df] w (Gives (.tuple #[track ga ga gp gm true sq ((cn - sq) % 65536) ((cn + 1) % 65536) true (startV ka kl tm) ((tm + startV ka kl tm) % 4294967296) out ((fr + 1) % 65536) ((se + 1) % 4294967296) ((oc + pL) % 4294967296), patchV cn ((tm + startV ka kl tm) % 4294967296) out ((fr + 1) % 65536), .int .i64 2]) w) := by
  have key := fun (w : World) => refTake ga gc la gp gm true w
  have hc : takeC ga gc gp gm la true = ga := by unfold takeC; rw [if_pos h]
  rw [h, hc] at key
  have kst := fun (w : World) => refStart ka ko kl tm w hkl hkl' htm htm'
  obtain ⟨X, hX⟩ : ∃ X, X = startV ka kl tm := ⟨_, rfl⟩
  obtain ⟨hX0, hX1⟩ := startV_in ka kl tm
  rw [← hX] at hX0 hX1 ⊢
  unfold startV at hX
  rw [← hX] at kst
  unfold track packetV descV patchV
  clear h hc hX
  go_enter Try.func45, Try.ntmps45
  go_wp2_with (first | (go_at_call 35; refine (key _).mono ?_; rintro e w1 ⟨rfl, hb1⟩; have ha1 : After _ w1 := ⟨hb1⟩; obtain ⟨hc1, hf1⟩ := after hb1; have hz1 := hb1.size; try simp at hz1) | (go_at_call 28; refine (refStepYes _ _ _ _ _ _ (by simp) hci hci' hsq hsq' hcn hcn').mono ?_; rintro e w2 ⟨rfl, hb2⟩; have ha2 : After _ w2 := ⟨hb2⟩; obtain ⟨hc2, hf2⟩ := after hb2; have hz2 := hb2.size; try simp at hz2) | (go_at_call 21; refine (refClockStep _ _ _ _ _ (by omega) (by omega) (by omega) (by omega)).mono ?_; rintro e w3 ⟨rfl, hb3⟩; have ha3 : After _ w3 := ⟨hb3⟩; obtain ⟨hc3, hf3⟩ := after hb3; have hz3 := hb3.size; try simp at hz3) | (go_at_call 54; refine (around2 _ ((oc + pL) % 4294967296) _ (by first | rfl | exact wrap_mod _ | exact wrap_mod2 _)).mono ?_; rintro e w' ⟨rfl, rfl⟩) | (go_at_call 30; refine (refBreak _ _ _ _ _).mono ?_; rintro e w4 ⟨rfl, hb4⟩; have ha4 : After _ w4 := ⟨hb4⟩; obtain ⟨hc4, hf4⟩ := after hb4; have hz4 := hb4.size; try simp at hz4) | (go_at_call 23; refine (kst _).mono ?_; rintro e w5 ⟨rfl, hb5⟩; have ha5 : After _ w5 := ⟨hb5⟩; obtain ⟨hc5, hf5⟩ := after hb5; have hz5 := hb5.size; try simp at hz5) | (refine wpList_load_whole (by rfl) 64 _ (by rfl) _ (by rfl) (by infer_instance) (by rfl) ?_) | (refine wpList_store_whole (by rfl) 64 _ _ (by rfl) _ _ (by rfl) (by rfl) (by infer_instance) (by rfl) (by rfl) (by rfl) ?_))
  go_region_held3 (fun w' => w'.cell? ⟨w1.heap.size + 1, 0, none⟩ = some (.int .i64 ga) ∧ w'.cell? ⟨w1.heap.size + 1, 1, none⟩ = some (.int .i64 ga) ∧ w'.cell? ⟨w1.heap.size + 1, 2, none⟩ = some (.bool gp) ∧ w'.cell? ⟨w1.heap.size + 1, 3, none⟩ = some (.bool gm) ∧ w'.cell? ⟨w1.heap.size + 1, 4, none⟩ = some (.bool true) ∧ w'.cell? ⟨w1.heap.size + 1, 5, none⟩ = some (.int .u16 sq) ∧ w'.cell? ⟨w1.heap.size + 1, 6, none⟩ = some (.int .u16 ((cn - sq) % 65536)) ∧ w'.cell? ⟨w1.heap.size + 1, 7, none⟩ = some (.int .u16 ((cn + 1) % 65536)) ∧ w'.cell? ⟨w1.heap.size + 1, 8, none⟩ = some (.bool true) ∧ w'.cell? ⟨w1.heap.size + 1, 9, none⟩ = some (.int .u32 (X)) ∧ w'.cell? ⟨w1.heap.size + 1, 10, none⟩ = some (.int .u32 ((tm + X) % 4294967296)) ∧ w'.cell? ⟨w1.heap.size + 1, 11, none⟩ = some (.int .u32 out) ∧ w'.cell? ⟨w1.heap.size + 1, 12, none⟩ = some (.int .u16 ((fr + 1) % 65536)) ∧ w'.cell? ⟨w1.heap.size + 1, 13, none⟩ = some (.int .u32 ((se + 1) % 4294967296)) ∧ w'.cell? ⟨w1.heap.size + 1, 14, none⟩ = some (.int .u32 ((oc + pL) % 4294967296)) ∧ w'.cell? ⟨w.heap.size, 11, none⟩ = some (.int .u32 out)) (first | (simp [*, go_sem]; done) | simp [*, go_sem, World.cell?_setCell_far]) (fail)
  all_goals go_wp2_with (first | (refine wpList_load_whole (by rfl) 64 _ (by rfl) _ (by rfl) (by infer_instance) (by rfl) ?_) | (refine wpList_store_whole (by rfl) 64 _ _ (by rfl) _ _ (by rfl) (by rfl) (by infer_instance) (by rfl) (by rfl) (by rfl) ?_))
  refine ret_cct 6 7 8 64 71 (by rfl) (by rfl) _ _ _ (by rfl) (by rfl) (by rfl) (by infer_instance) (by infer_instance) (by rfl) (by rfl) ?_
  all_goals refine gives_of rfl (by repeat (first | with_reducible exact Below.refl _ _ | (with_reducible refine Below.alloc ?_ ?_ _; rotate_left; focus ((try simp) <;> omega)) | (with_reducible refine Below.setCell ?_ ?_ _; rotate_left; focus ((try simp) <;> omega)) | (with_reducible refine below_grow ?_ ?_; rotate_left; focus ((try simp) <;> omega)) | (with_reducible refine below_putB ?_ ?_; rotate_left; focus ((try simp) <;> omega)) | with_reducible refine Below.drew ?_ | with_reducible refine below_drewN ?_ | with_reducible assumption | (with_reducible refine below_step (by assumption) ?_ ?_; rotate_left; focus ((try simp) <;> omega))))
end Go.Proofs.Ytplhgpeeekjfcaa

