/-
  Media of stamp and of the reference, each by its contract, in four ways (media). No condition but that the numbers fit their kinds.
-/
import Derived.Test.YtplhgpeeekjfcaaStampDefs
namespace Go.Proofs.Ytplhgpeeekjfcaa
open Go.RowKit Go.Sort Go.BigFrame
set_option linter.unusedVariables false
attribute [local go_sem ↓] Go.wp_at_zero Go.wp_at_succ
set_option maxHeartbeats 16000000 in
set_option maxRecDepth 100000 in
theorem mediaSwitch (ga gc : Int) (gp gm cl : Bool) (ci co cn : Int) (ka : Bool) (ko kl out fr se oc : Int) (mk : Bool) (ty sq tm ss : Int) (cA : Option Addr) (cL cC : Nat) (hx : Bool) (pf : Int) (eA : Option Addr) (eL eC : Nat) (pA : Option Addr) (pL pC : Nat) (pad : Int) (la : Int) (df : Int) (w : World) (h : takeV ga gc gp gm la true = 2) (hsq : 0 ≤ sq) (hsq' : sq ≤ 65535) (htm : 0 ≤ tm) (htm' : tm ≤ 4294967295) (hci : 0 ≤ ci) (hci' : ci ≤ 65535) (hcn : 0 ≤ cn) (hcn' : cn ≤ 65535) (hko : 0 ≤ ko) (hko' : ko ≤ 4294967295) (hkl : 0 ≤ kl) (hkl' : kl ≤ 4294967295) (hfr : 0 ≤ fr) (hfr' : fr ≤ 65535) (hse : 0 ≤ se) (hse' : se ≤ 4294967295) (hoc : 0 ≤ oc) (hoc' : oc ≤ 4294967295) (hpl : pL ≤ 9223372036854775807) :
    Calls Try.prog 44 #[track ga gc gp gm cl ci co cn ka ko kl out fr se oc, packetV mk ty sq tm ss cA cL cC hx pf eA eL eC pA pL pC pad, descV la true true df] w (Gives (.tuple #[track ga ga gp gm true sq ((cn - sq) % 65536) ((cn + 1) % 65536) true (startV ka kl tm) ((tm + startV ka kl tm) % 4294967296) out ((fr + 1) % 65536) ((se + 1) % 4294967296) ((oc + pL) % 4294967296), patchV cn ((tm + startV ka kl tm) % 4294967296) out ((fr + 1) % 65536), .int .i64 2]) w) := by
  have key := fun (w : World) => takeG ga gc la gp gm true w
  have hc : takeC ga gc gp gm la true = ga := by unfold takeC; rw [if_pos h]
  rw [h, hc] at key
  have kst := fun (w : World) => clockStart ka ko kl tm w
  obtain ⟨X, hX⟩ : ∃ X, X = startV ka kl tm := ⟨_, rfl⟩
  obtain ⟨hX0, hX1⟩ := startV_in ka kl tm
  rw [← hX] at hX0 hX1 ⊢
  unfold startV at hX
  rw [← hX] at kst
  unfold track packetV descV patchV
  clear h hc hX
  go_enter Try.func44, Try.ntmps44
  go_wp2_with (first | (go_at_call 34; refine (key _).mono ?_; rintro e w1 ⟨rfl, hb1⟩; have ha1 : After _ w1 := ⟨hb1⟩; obtain ⟨hc1, hf1⟩ := after hb1; have hz1 := hb1.size; try simp at hz1) | (refine wpList_load_whole (by rfl) 64 _ (by rfl) _ (by rfl) (by infer_instance) (by rfl) ?_) | (refine wpList_store_whole (by rfl) 64 _ _ (by rfl) _ _ (by rfl) (by rfl) (by infer_instance) (by rfl) (by rfl) (by rfl) ?_))
  go_cut [] (fun wx => BlkIs wx w.heap.size #[.int .i64 ga, .int .i64 ga, .bool gp, .bool gm, .bool false, .int .u16 ci, .int .u16 co, .int .u16 cn, .bool ka, .int .u32 X, .int .u32 kl, .int .u32 out, .int .u16 fr, .int .u32 se, .int .u32 oc] 64 ∧ BlkIs wx (w.heap.size + 1) #[.bool mk, .int .i64 ty, .int .u16 sq, .int .u32 tm, .int .u32 ss, .slice cA cL cC, .bool hx, .int .u16 pf, .slice eA eL eC, .slice pA pL pC, .int .i64 pad] 67 ∧ BlkIs wx (w.heap.size + 1 + 1) #[.int .i64 la, .bool true, .bool true, .int .u16 df] 69 ∧ BlkIs wx (w.heap.size + 1 + 1 + 1) #[.int .i64 0, .int .i64 0, .bool false, .bool false, .bool false, .int .u16 0, .int .u16 0, .int .u16 0, .bool false, .int .u32 0, .int .u32 0, .int .u32 0, .int .u16 0, .int .u32 0, .int .u32 0] 64 ∧ BlkIs wx (w.heap.size + 1 + 1 + 1 + 1) #[.int .u16 0, .int .u32 0, .int .u32 0, .int .u16 0] 71 ∧ Below w.heap.size w wx ∧ w.heap.size + 1 + 1 + 1 + 1 < wx.heap.size)
  case first =>
    go_region_with ((first | (go_at_call 29; refine (breakC _ _ _ _ _).mono ?_; rintro e w4 ⟨rfl, hb4⟩; have ha4 : After _ w4 := ⟨hb4⟩; obtain ⟨hc4, hf4⟩ := after hb4; have hz4 := hb4.size; try simp at hz4) | (go_at_call 22; refine (kst _).mono ?_; rintro e w5 ⟨rfl, hb5⟩; have ha5 : After _ w5 := ⟨hb5⟩; obtain ⟨hc5, hf5⟩ := after hb5; have hz5 := hb5.size; try simp at hz5)))
    all_goals go_wp2_with fail
    all_goals go_meet
    all_goals exact ⟨by infer_instance, by infer_instance, by infer_instance, by infer_instance, by infer_instance, (by repeat (first | with_reducible exact Below.refl _ _ | (with_reducible refine Below.alloc ?_ ?_ _; rotate_left; focus ((try simp) <;> omega)) | (with_reducible refine Below.setCell ?_ ?_ _; rotate_left; focus ((try simp) <;> omega)) | (with_reducible refine below_grow ?_ ?_; rotate_left; focus ((try simp) <;> omega)) | (with_reducible refine below_putB ?_ ?_; rotate_left; focus ((try simp) <;> omega)) | with_reducible refine Below.drew ?_ | with_reducible refine below_drewN ?_ | with_reducible assumption | (with_reducible refine below_step (by assumption) ?_ ?_; rotate_left; focus ((try simp) <;> omega)))), (by simp; omega)⟩
  obtain ⟨i3, i4, i5, i6, i7, hbel, hsz⟩ := hcut
  go_wp2_with (first | (go_at_call 27; refine (stepYes _ _ _ _ _ _ (by simp)).mono ?_; rintro e w2 ⟨rfl, hb2⟩; have ha2 : After _ w2 := ⟨hb2⟩; obtain ⟨hc2, hf2⟩ := after hb2; have hz2 := hb2.size; try simp at hz2) | (go_at_call 20; refine (clockStep _ _ _ _ _).mono ?_; rintro e w3 ⟨rfl, hb3⟩; have ha3 : After _ w3 := ⟨hb3⟩; obtain ⟨hc3, hf3⟩ := after hb3; have hz3 := hb3.size; try simp at hz3) | (refine wpList_load_whole (by rfl) 64 _ (by rfl) _ (by rfl) (by infer_instance) (by rfl) ?_) | (refine wpList_store_whole (by rfl) 64 _ _ (by rfl) _ _ (by rfl) (by rfl) (by infer_instance) (by rfl) (by rfl) (by rfl) ?_))
  go_region
  all_goals go_wp2_with (first | (refine wpList_load_whole (by rfl) 64 _ (by rfl) _ (by rfl) (by infer_instance) (by rfl) ?_) | (refine wpList_store_whole (by rfl) 64 _ _ (by rfl) _ _ (by rfl) (by rfl) (by infer_instance) (by rfl) (by rfl) (by rfl) ?_))
  go_region_held3 (fun w' => w'.cell? ⟨w.heap.size, 0, none⟩ = some (.int .i64 ga) ∧ w'.cell? ⟨w.heap.size, 1, none⟩ = some (.int .i64 ga) ∧ w'.cell? ⟨w.heap.size, 2, none⟩ = some (.bool gp) ∧ w'.cell? ⟨w.heap.size, 3, none⟩ = some (.bool gm) ∧ w'.cell? ⟨w.heap.size, 4, none⟩ = some (.bool true) ∧ w'.cell? ⟨w.heap.size, 5, none⟩ = some (.int .u16 sq) ∧ w'.cell? ⟨w.heap.size, 6, none⟩ = some (.int .u16 ((cn - sq) % 65536)) ∧ w'.cell? ⟨w.heap.size, 7, none⟩ = some (.int .u16 ((cn + 1) % 65536)) ∧ w'.cell? ⟨w.heap.size, 8, none⟩ = some (.bool true) ∧ w'.cell? ⟨w.heap.size, 9, none⟩ = some (.int .u32 (X)) ∧ w'.cell? ⟨w.heap.size, 10, none⟩ = some (.int .u32 ((tm + X) % 4294967296)) ∧ w'.cell? ⟨w.heap.size, 11, none⟩ = some (.int .u32 out) ∧ w'.cell? ⟨w.heap.size, 12, none⟩ = some (.int .u16 ((fr + 1) % 65536)) ∧ w'.cell? ⟨w.heap.size, 13, none⟩ = some (.int .u32 ((se + 1) % 4294967296)) ∧ w'.cell? ⟨w.heap.size, 14, none⟩ = some (.int .u32 ((oc + pL) % 4294967296))) (first | (simp [*, go_sem]; done) | simp [*, go_sem, World.cell?_setCell_far]) (fail)
  all_goals go_wp2_with (first | (refine wpList_load_whole (by rfl) 64 _ (by rfl) _ (by rfl) (by infer_instance) (by rfl) ?_) | (refine wpList_store_whole (by rfl) 64 _ _ (by rfl) _ _ (by rfl) (by rfl) (by infer_instance) (by rfl) (by rfl) (by rfl) ?_))
  refine ret_cct 6 7 8 64 71 (by rfl) (by rfl) _ _ _ (by rfl) (by rfl) (by rfl) (by infer_instance) (by infer_instance) (by rfl) (by rfl) ?_
  all_goals refine gives_of rfl (by repeat (first | with_reducible exact Below.refl _ _ | (with_reducible refine Below.alloc ?_ ?_ _; rotate_left; focus ((try simp) <;> omega)) | (with_reducible refine Below.setCell ?_ ?_ _; rotate_left; focus ((try simp) <;> omega)) | (with_reducible refine below_grow ?_ ?_; rotate_left; focus ((try simp) <;> omega)) | (with_reducible refine below_putB ?_ ?_; rotate_left; focus ((try simp) <;> omega)) | with_reducible refine Below.drew ?_ | with_reducible refine below_drewN ?_ | with_reducible assumption | (with_reducible refine below_step (by assumption) ?_ ?_; rotate_left; focus ((try simp) <;> omega))))
end Go.Proofs.Ytplhgpeeekjfcaa

