/-
  The law StampReport as a walk: any track, any report: what is told of it; how a track begins. No condition but that the arguments fit their types.
-/
import Derived.Test.YtplhgpeeekjfcaaStampShown
namespace Go.Proofs.Ytplhgpeeekjfcaa
open Go.RowKit Go.Sort Go.BigFrame
set_option linter.unusedVariables false
attribute [local go_sem ↓] Go.wp_at_zero Go.wp_at_succ
set_option maxRecDepth 100000 in
set_option maxHeartbeats 8000000 in
theorem stampReport_ok (v0 v1 v2 v3 v4 : Value) (w : World) (h0 : Arg Try.prog w 64 v0) (h1 : Arg Try.prog w 79 v1) (h2 : Arg Try.prog w 3 v2) (h3 : Arg Try.prog w 3 v3) (h4 : Arg Try.prog w 3 v4) : Calls Try.prog 15 #[v0, v1, v2, v3, v4] w (Gives (.bool true) w) := by
  obtain ⟨ga, gc, gp, gm, cl, ci, co, cn, ka, ko, kl, out, fr, se, oc, rfl, hga, hga', hgc, hgc', hci, hci', hco, hco', hcn, hcn', hko, hko', hkl, hkl', hout, hout', hfr, hfr', hse, hse', hoc, hoc'⟩ := arg_track h0
  obtain ⟨kd, ss, nt, tm, pk, oo, bA, bL, bC, gA, gL, gC, md, qA, qL, qC, rfl, -, -, -, -, -, -, htm, htm', -, -, -, -, -, -, -, -, -, -, -, -⟩ := arg_item h1
  obtain ⟨l, rfl, hl, hl'⟩ := arg_i64 Try.underlying3 h2
  obtain ⟨p, rfl, hp, hp'⟩ := arg_i64 Try.underlying3 h3
  obtain ⟨s, rfl, hs, hs'⟩ := arg_i64 Try.underlying3 h4
  clear h0 h1 h2 h3 h4
  have kn := fun (w : World) => stampNew p s l w
  have kt := fun (w : World) => refTrack p s l w
  generalize outV p s = q at kn kt
  generalize heldV l = hl0 at kn kt
  simp only [track] at kn kt
  by_cases hq : (gp || gm) = true
  · have r1 := fun (w : World) => reportQuiet ga gc gp gm cl ci co cn ka ko kl out fr se oc (.int .i64 kd) (.int .u32 ss) (.int .u64 nt) (.int .u32 tm) (.int .u32 pk) (.int .u32 oo) (.slice bA bL bC) (.slice gA gL gC) (.int .u32 md) (.slice qA qL qC) l w hq
    have r2 := fun (w : World) => refReportQuiet ga gc gp gm cl ci co cn ka ko kl out fr se oc (.int .i64 kd) (.int .u32 ss) (.int .u64 nt) (.int .u32 tm) (.int .u32 pk) (.int .u32 oo) (.slice bA bL bC) (.slice gA gL gC) (.int .u32 md) (.slice qA qL qC) l w hq
    simp only [track, itemV] at r1 r2
    clear hq
    go_enter Try.func15, Try.ntmps15
    go_wp2_with (first | (go_at_call 43; refine (shown17 _).mono ?_; rintro e w1 ⟨rfl, hb1⟩; have ha1 : After _ w1 := ⟨hb1⟩; obtain ⟨hc1, hf1⟩ := after hb1; have hz1 := hb1.size; try simp at hz1) | (go_at_call 46; refine (r1 _).mono ?_; rintro e w2 ⟨rfl, hb2⟩; have ha2 : After _ w2 := ⟨hb2⟩; obtain ⟨hc2, hf2⟩ := after hb2; have hz2 := hb2.size; try simp at hz2) | (go_at_call 47; refine (r2 _).mono ?_; rintro e w3 ⟨rfl, hb3⟩; have ha3 : After _ w3 := ⟨hb3⟩; obtain ⟨hc3, hf3⟩ := after hb3; have hz3 := hb3.size; try simp at hz3) | (go_at_call 48; refine (kn _).mono ?_; rintro e w4 ⟨rfl, hb4⟩; have ha4 : After _ w4 := ⟨hb4⟩; obtain ⟨hc4, hf4⟩ := after hb4; have hz4 := hb4.size; try simp at hz4) | (go_at_call 49; refine (kt _).mono ?_; rintro e w5 ⟨rfl, hb5⟩; have ha5 : After _ w5 := ⟨hb5⟩; obtain ⟨hc5, hf5⟩ := after hb5; have hz5 := hb5.size; try simp at hz5) | (refine wpList_load_whole (by rfl) 64 _ (by rfl) _ (by rfl) (by infer_instance) (by rfl) ?_) | (refine wpList_store_whole (by rfl) 64 _ _ (by rfl) _ _ (by rfl) (by rfl) (by infer_instance) (by rfl) (by rfl) (by rfl) ?_) | (refine wpList_load_whole (by rfl) 67 _ (by rfl) _ (by rfl) (by infer_instance) (by rfl) ?_) | (refine wpList_store_whole (by rfl) 67 _ _ (by rfl) _ _ (by rfl) (by rfl) (by infer_instance) (by rfl) (by rfl) (by rfl) ?_) | (refine wpList_load_whole (by rfl) 79 _ (by rfl) _ (by rfl) (by infer_instance) (by rfl) ?_) | (refine wpList_store_whole (by rfl) 79 _ _ (by rfl) _ _ (by rfl) (by rfl) (by infer_instance) (by rfl) (by rfl) (by rfl) ?_))
    refine ret_any ⟨_, by simp [results, Try.results15, go_sem, *]; rfl, ?_⟩ rfl
    refine gives_of rfl (by repeat (first | with_reducible exact Below.refl _ _ | (with_reducible refine Below.alloc ?_ ?_ _; rotate_left; focus ((try simp) <;> omega)) | (with_reducible refine Below.setCell ?_ ?_ _; rotate_left; focus ((try simp) <;> omega)) | (with_reducible refine below_grow ?_ ?_; rotate_left; focus ((try simp) <;> omega)) | (with_reducible refine below_putB ?_ ?_; rotate_left; focus ((try simp) <;> omega)) | with_reducible refine Below.drew ?_ | with_reducible refine below_drewN ?_ | with_reducible assumption | (with_reducible refine below_step (by assumption) ?_ ?_; rotate_left; focus ((try simp) <;> omega))))
  · have hq' : (gp || gm) = false := by simpa using hq
    by_cases h2 : l ≠ gc ∨ kd ≠ 200
    · have r1 := fun (w : World) => reportGated ga gc gp gm cl ci co cn ka ko kl out fr se oc kd (.int .u32 ss) (.int .u64 nt) (.int .u32 tm) (.int .u32 pk) (.int .u32 oo) (.slice bA bL bC) (.slice gA gL gC) (.int .u32 md) (.slice qA qL qC) l w hq' h2
      have r2 := fun (w : World) => refReportGated ga gc gp gm cl ci co cn ka ko kl out fr se oc kd (.int .u32 ss) (.int .u64 nt) (.int .u32 tm) (.int .u32 pk) (.int .u32 oo) (.slice bA bL bC) (.slice gA gL gC) (.int .u32 md) (.slice qA qL qC) l w hq' h2
      simp only [track, itemV] at r1 r2
      clear hq hq' h2
      go_enter Try.func15, Try.ntmps15
      go_wp2_with (first | (go_at_call 43; refine (shown17 _).mono ?_; rintro e w1 ⟨rfl, hb1⟩; have ha1 : After _ w1 := ⟨hb1⟩; obtain ⟨hc1, hf1⟩ := after hb1; have hz1 := hb1.size; try simp at hz1) | (go_at_call 46; refine (r1 _).mono ?_; rintro e w2 ⟨rfl, hb2⟩; have ha2 : After _ w2 := ⟨hb2⟩; obtain ⟨hc2, hf2⟩ := after hb2; have hz2 := hb2.size; try simp at hz2) | (go_at_call 47; refine (r2 _).mono ?_; rintro e w3 ⟨rfl, hb3⟩; have ha3 : After _ w3 := ⟨hb3⟩; obtain ⟨hc3, hf3⟩ := after hb3; have hz3 := hb3.size; try simp at hz3) | (go_at_call 48; refine (kn _).mono ?_; rintro e w4 ⟨rfl, hb4⟩; have ha4 : After _ w4 := ⟨hb4⟩; obtain ⟨hc4, hf4⟩ := after hb4; have hz4 := hb4.size; try simp at hz4) | (go_at_call 49; refine (kt _).mono ?_; rintro e w5 ⟨rfl, hb5⟩; have ha5 : After _ w5 := ⟨hb5⟩; obtain ⟨hc5, hf5⟩ := after hb5; have hz5 := hb5.size; try simp at hz5) | (refine wpList_load_whole (by rfl) 64 _ (by rfl) _ (by rfl) (by infer_instance) (by rfl) ?_) | (refine wpList_store_whole (by rfl) 64 _ _ (by rfl) _ _ (by rfl) (by rfl) (by infer_instance) (by rfl) (by rfl) (by rfl) ?_) | (refine wpList_load_whole (by rfl) 67 _ (by rfl) _ (by rfl) (by infer_instance) (by rfl) ?_) | (refine wpList_store_whole (by rfl) 67 _ _ (by rfl) _ _ (by rfl) (by rfl) (by infer_instance) (by rfl) (by rfl) (by rfl) ?_) | (refine wpList_load_whole (by rfl) 79 _ (by rfl) _ (by rfl) (by infer_instance) (by rfl) ?_) | (refine wpList_store_whole (by rfl) 79 _ _ (by rfl) _ _ (by rfl) (by rfl) (by infer_instance) (by rfl) (by rfl) (by rfl) ?_))
      refine ret_any ⟨_, by simp [results, Try.results15, go_sem, *]; rfl, ?_⟩ rfl
      refine gives_of rfl (by repeat (first | with_reducible exact Below.refl _ _ | (with_reducible refine Below.alloc ?_ ?_ _; rotate_left; focus ((try simp) <;> omega)) | (with_reducible refine Below.setCell ?_ ?_ _; rotate_left; focus ((try simp) <;> omega)) | (with_reducible refine below_grow ?_ ?_; rotate_left; focus ((try simp) <;> omega)) | (with_reducible refine below_putB ?_ ?_; rotate_left; focus ((try simp) <;> omega)) | with_reducible refine Below.drew ?_ | with_reducible refine below_drewN ?_ | with_reducible assumption | (with_reducible refine below_step (by assumption) ?_ ?_; rotate_left; focus ((try simp) <;> omega))))
    · obtain ⟨rfl, rfl⟩ : l = gc ∧ kd = 200 := by omega
      have r1 := fun (w : World) => reportSent ga l gp gm cl ci co cn ka ko kl out fr se oc nt tm (.int .u32 ss) (.int .u32 pk) (.int .u32 oo) (.slice bA bL bC) (.slice gA gL gC) (.int .u32 md) (.slice qA qL qC) w hq' hko hko' htm htm'
      have r2 := fun (w : World) => refReportSent ga l gp gm cl ci co cn ka ko kl out fr se oc nt tm (.int .u32 ss) (.int .u32 pk) (.int .u32 oo) (.slice bA bL bC) (.slice gA gL gC) (.int .u32 md) (.slice qA qL qC) w hq' hko hko' htm htm'
      simp only [track, itemV] at r1 r2
      clear hq hq' h2
      go_enter Try.func15, Try.ntmps15
      go_wp2_with (first | (go_at_call 43; refine (shown17 _).mono ?_; rintro e w1 ⟨rfl, hb1⟩; have ha1 : After _ w1 := ⟨hb1⟩; obtain ⟨hc1, hf1⟩ := after hb1; have hz1 := hb1.size; try simp at hz1) | (go_at_call 46; refine (r1 _).mono ?_; rintro e w2 ⟨rfl, hb2⟩; have ha2 : After _ w2 := ⟨hb2⟩; obtain ⟨hc2, hf2⟩ := after hb2; have hz2 := hb2.size; try simp at hz2) | (go_at_call 47; refine (r2 _).mono ?_; rintro e w3 ⟨rfl, hb3⟩; have ha3 : After _ w3 := ⟨hb3⟩; obtain ⟨hc3, hf3⟩ := after hb3; have hz3 := hb3.size; try simp at hz3) | (go_at_call 48; refine (kn _).mono ?_; rintro e w4 ⟨rfl, hb4⟩; have ha4 : After _ w4 := ⟨hb4⟩; obtain ⟨hc4, hf4⟩ := after hb4; have hz4 := hb4.size; try simp at hz4) | (go_at_call 49; refine (kt _).mono ?_; rintro e w5 ⟨rfl, hb5⟩; have ha5 : After _ w5 := ⟨hb5⟩; obtain ⟨hc5, hf5⟩ := after hb5; have hz5 := hb5.size; try simp at hz5) | (refine wpList_load_whole (by rfl) 64 _ (by rfl) _ (by rfl) (by infer_instance) (by rfl) ?_) | (refine wpList_store_whole (by rfl) 64 _ _ (by rfl) _ _ (by rfl) (by rfl) (by infer_instance) (by rfl) (by rfl) (by rfl) ?_) | (refine wpList_load_whole (by rfl) 67 _ (by rfl) _ (by rfl) (by infer_instance) (by rfl) ?_) | (refine wpList_store_whole (by rfl) 67 _ _ (by rfl) _ _ (by rfl) (by rfl) (by infer_instance) (by rfl) (by rfl) (by rfl) ?_) | (refine wpList_load_whole (by rfl) 79 _ (by rfl) _ (by rfl) (by infer_instance) (by rfl) ?_) | (refine wpList_store_whole (by rfl) 79 _ _ (by rfl) _ _ (by rfl) (by rfl) (by infer_instance) (by rfl) (by rfl) (by rfl) ?_))
      refine ret_any ⟨_, by simp [results, Try.results15, go_sem, *]; rfl, ?_⟩ rfl
      refine gives_of rfl (by repeat (first | with_reducible exact Below.refl _ _ | (with_reducible refine Below.alloc ?_ ?_ _; rotate_left; focus ((try simp) <;> omega)) | (with_reducible refine Below.setCell ?_ ?_ _; rotate_left; focus ((try simp) <;> omega)) | (with_reducible refine below_grow ?_ ?_; rotate_left; focus ((try simp) <;> omega)) | (with_reducible refine below_putB ?_ ?_; rotate_left; focus ((try simp) <;> omega)) | with_reducible refine Below.drew ?_ | with_reducible refine below_drewN ?_ | with_reducible assumption | (with_reducible refine below_step (by assumption) ?_ ?_; rotate_left; focus ((try simp) <;> omega))))
end Go.Proofs.Ytplhgpeeekjfcaa

