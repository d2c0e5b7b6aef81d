/-
  What a track that is new shows. No condition.
-/
import Derived.Test.YtplhgpeeekjfcaaStampMedia
namespace Go.Proofs.Ytplhgpeeekjfcaa
open Go.RowKit Go.Sort Go.BigFrame
set_option linter.unusedVariables false
attribute [local go_sem ↓] Go.wp_at_zero Go.wp_at_succ
set_option maxRecDepth 100000 in
set_option maxHeartbeats 4000000 in
theorem shown17 (w : World) : Calls Try.prog 43 #[] w (Gives (.bool true) w) := by
  have kn := fun (w : World) => stampNew 2 3 0 w
  have km := fun (pA : Option Addr) (w : World) => mediaSwitch 0 (-1) false false false 0 0 0 false 0 0 3221225987 65535 0 0 false 0 7 50 0 none 0 0 false 0 none 0 0 pA 2 2 0 0 0 w (by decide) (by decide) (by decide) (by decide) (by decide) (by decide) (by decide) (by decide) (by decide) (by decide) (by decide) (by decide) (by decide) (by decide) (by decide) (by decide) (by decide) (by decide) (by decide) (by decide)
  have kr := fun (w : World) => reportSent 0 0 false false true 7 65529 1 true 4294967246 0 3221225987 0 1 2 5 60 (.int .u32 0) (.int .u32 0) (.int .u32 0) (.slice none 0 0) (.slice none 0 0) (.int .u32 0) (.slice none 0 0) w (by decide) (by decide) (by decide) (by decide) (by decide)
  have kw := fun (w : World) => whose_any 3221225987 w (by decide) (by decide)
  have ko := fun (w : World) => out_any 0 1 w
  simp only [track, show heldV 0 = 0 by decide, show outV 2 3 = 3221225987 by decide] at kn
  simp only [track, packetV, descV, patchV, show startV false 0 50 = 4294967246 by decide, show (50 + 4294967246 : Int) % 4294967296 = 0 by decide, show ((0 : Int) - 7) % 65536 = 65529 by decide, show ((0 : Int) + ((2 : Nat) : Int)) % 4294967296 = 2 by decide, show ((0 : Int) + 1) % 65536 = 1 by decide, show ((65535 : Int) + 1) % 65536 = 0 by decide, show ((0 : Int) + 1) % 4294967296 = 1 by decide] at km
  simp only [track, itemV, show ((60 : Int) + 4294967246) % 4294967296 = 10 by decide] at kr
  simp only [show whoseV 3221225987 = .tuple #[.int .i64 2, .int .i64 3, .bool true] by simp [whoseV, whoseB, whoseP, whoseS]] at kw
  simp only [show outV 0 1 = 0 by decide] at ko
  go_enter Try.func43, Try.ntmps43
  go_wp2_with (first | (go_at_call 48; refine (kn _).mono ?_; rintro e w1 ⟨rfl, hb1⟩; have ha1 : After _ w1 := ⟨hb1⟩; obtain ⟨hc1, hf1⟩ := after hb1; have hz1 := hb1.size; try simp at hz1) | (go_at_call 44; refine (km _ _).mono ?_; rintro e w2 ⟨rfl, hb2⟩; have ha2 : After _ w2 := ⟨hb2⟩; obtain ⟨hc2, hf2⟩ := after hb2; have hz2 := hb2.size; try simp at hz2) | (go_at_call 46; refine (kr _).mono ?_; rintro e w3 ⟨rfl, hb3⟩; have ha3 : After _ w3 := ⟨hb3⟩; obtain ⟨hc3, hf3⟩ := after hb3; have hz3 := hb3.size; try simp at hz3) | (go_at_call 50; refine (kw _).mono ?_; rintro e w' ⟨rfl, rfl⟩) | (go_at_call 52; refine (ko _).mono ?_; rintro e w' ⟨rfl, rfl⟩) | (refine wpList_load_whole (by rfl) 64 _ (by rfl) _ (by rfl) (by infer_instance) (by rfl) ?_) | (refine wpList_store_whole (by rfl) 64 _ _ (by rfl) _ _ (by rfl) (by rfl) (by infer_instance) (by rfl) (by rfl) (by rfl) ?_) | (refine wpList_load_whole (by rfl) 67 _ (by rfl) _ (by rfl) (by infer_instance) (by rfl) ?_) | (refine wpList_store_whole (by rfl) 67 _ _ (by rfl) _ _ (by rfl) (by rfl) (by infer_instance) (by rfl) (by rfl) (by rfl) ?_) | (refine wpList_load_whole (by rfl) 79 _ (by rfl) _ (by rfl) (by infer_instance) (by rfl) ?_) | (refine wpList_store_whole (by rfl) 79 _ _ (by rfl) _ _ (by rfl) (by rfl) (by infer_instance) (by rfl) (by rfl) (by rfl) ?_))
  refine ret_any ⟨_, by simp [results, Try.results43, go_sem, *]; rfl, ?_⟩ rfl
  refine gives_of rfl (by repeat (first | with_reducible exact Below.refl _ _ | (with_reducible refine Below.alloc ?_ ?_ _; rotate_left; focus ((try simp) <;> omega)) | (with_reducible refine Below.setCell ?_ ?_ _; rotate_left; focus ((try simp) <;> omega)) | (with_reducible refine below_grow ?_ ?_; rotate_left; focus ((try simp) <;> omega)) | (with_reducible refine below_putB ?_ ?_; rotate_left; focus ((try simp) <;> omega)) | with_reducible refine Below.drew ?_ | with_reducible refine below_drewN ?_ | with_reducible assumption | (with_reducible refine below_step (by assumption) ?_ ?_; rotate_left; focus ((try simp) <;> omega))))
end Go.Proofs.Ytplhgpeeekjfcaa

