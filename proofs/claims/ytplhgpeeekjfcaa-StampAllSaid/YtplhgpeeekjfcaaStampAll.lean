/-
  The law StampAll as a walk: any track, any packet: what becomes of both. No condition but that the arguments fit their types.
-/
import Derived.Test.YtplhgpeeekjfcaaStampShown
namespace Go.Proofs.Ytplhgpeeekjfcaa
open Go.RowKit Go.Sort Go.BigFrame
set_option linter.unusedVariables false
attribute [local go_sem ↓] Go.wp_at_zero Go.wp_at_succ
set_option maxRecDepth 100000 in
set_option maxHeartbeats 8000000 in
theorem stampAll_ok (v0 v1 v2 : Value) (w : World) (h0 : Arg Try.prog w 64 v0) (h1 : Arg Try.prog w 67 v1) (h2 : Arg Try.prog w 69 v2) : Calls Try.prog 14 #[v0, v1, v2] w (Gives (.bool true) w) := by
  obtain ⟨ga, gc, gp, gm, cl, ci, co, cn, ka, ko, kl, out, fr, se, oc, rfl, hga, hga', hgc, hgc', hci, hci', hco, hco', hcn, hcn', hko, hko', hkl, hkl', hout, hout', hfr, hfr', hse, hse', hoc, hoc'⟩ := arg_track h0
  obtain ⟨mk, ty, sq, tm, ss, cA, cL, cC, hx, pf, eA, eL, eC, pA, pL, pC, pad, rfl, -, -, hsq, hsq', htm, htm', -, -, -, -, -, -, -, -, hpl1, hpl2, -, -⟩ := arg_packet h1
  obtain ⟨la, ke, st, df, rfl, hla, hla', -, -⟩ := arg_desc h2
  clear h0 h1 h2
  have hpl : pL ≤ 9223372036854775807 := by unfold maxLen at hpl2; omega
  have hm := media_cases ga gc gp gm cl ci co cn ka ko kl out fr se oc mk ty sq tm ss cA cL cC hx pf eA eL eC pA pL pC pad la ke st df hsq hsq' htm htm' hci hci' hcn hcn' hko hko' hkl hkl' hfr hfr' hse hse' hoc hoc' hpl
  clear hga hga' hgc hgc' hci hci' hco hco' hcn hcn' hko hko' hkl hkl' hout hout' hfr hfr' hse hse' hoc hoc' hsq hsq' htm htm' hpl1 hpl2 hpl hla hla'
  simp only [track, packetV, descV, patchV] at hm
  rcases hm with ⟨v, -, -, hB1, hB2⟩ | ⟨-, -, -, hB1, hB2⟩ | ⟨-, -, hB1, hB2⟩ | ⟨-, rfl, rfl, hB1, hB2⟩
  all_goals
    go_enter Try.func14, Try.ntmps14
    go_wp2_with (first | (go_at_call 43; refine (shown17 _).mono ?_; rintro e w1 ⟨rfl, hb1⟩; have ha1 : After _ w1 := ⟨hb1⟩; obtain ⟨hc1, hf1⟩ := after hb1; have hz1 := hb1.size; try simp at hz1) | (go_at_call 44; refine (hB1 _).mono ?_; rintro e w2 ⟨rfl, hb2⟩; have ha2 : After _ w2 := ⟨hb2⟩; obtain ⟨hc2, hf2⟩ := after hb2; have hz2 := hb2.size; try simp at hz2) | (go_at_call 45; refine (hB2 _).mono ?_; rintro e w3 ⟨rfl, hb3⟩; have ha3 : After _ w3 := ⟨hb3⟩; obtain ⟨hc3, hf3⟩ := after hb3; have hz3 := hb3.size; try simp at hz3) | (refine wpList_load_whole (by rfl) 64 _ (by rfl) _ (by rfl) (by infer_instance) (by rfl) ?_) | (refine wpList_store_whole (by rfl) 64 _ _ (by rfl) _ _ (by rfl) (by rfl) (by infer_instance) (by rfl) (by rfl) (by rfl) ?_) | (refine wpList_load_whole (by rfl) 67 _ (by rfl) _ (by rfl) (by infer_instance) (by rfl) ?_) | (refine wpList_store_whole (by rfl) 67 _ _ (by rfl) _ _ (by rfl) (by rfl) (by infer_instance) (by rfl) (by rfl) (by rfl) ?_) | (refine wpList_load_whole (by rfl) 79 _ (by rfl) _ (by rfl) (by infer_instance) (by rfl) ?_) | (refine wpList_store_whole (by rfl) 79 _ _ (by rfl) _ _ (by rfl) (by rfl) (by infer_instance) (by rfl) (by rfl) (by rfl) ?_))
  all_goals refine ret_any ⟨_, by simp [results, Try.results14, go_sem, *]; rfl, ?_⟩ rfl
  all_goals refine gives_of rfl (by repeat (first | with_reducible exact Below.refl _ _ | (with_reducible refine Below.alloc ?_ ?_ _; rotate_left; focus ((try simp) <;> omega)) | (with_reducible refine Below.setCell ?_ ?_ _; rotate_left; focus ((try simp) <;> omega)) | (with_reducible refine below_grow ?_ ?_; rotate_left; focus ((try simp) <;> omega)) | (with_reducible refine below_putB ?_ ?_; rotate_left; focus ((try simp) <;> omega)) | with_reducible refine Below.drew ?_ | with_reducible refine below_drewN ?_ | with_reducible assumption | (with_reducible refine below_step (by assumption) ?_ ?_; rotate_left; focus ((try simp) <;> omega))))
end Go.Proofs.Ytplhgpeeekjfcaa

