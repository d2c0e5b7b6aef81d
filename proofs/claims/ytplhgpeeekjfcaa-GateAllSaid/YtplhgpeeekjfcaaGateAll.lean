/-
  The law GateAll as a walk: any gate: what each call tells. No condition but that the arguments fit their types.
-/
import Derived.Test.YtplhgpeeekjfcaaGate
namespace Go.Proofs.Ytplhgpeeekjfcaa
open Go.RowKit Go.Sort Go.BigFrame
set_option linter.unusedVariables false
attribute [local go_sem ↓] Go.wp_at_zero Go.wp_at_succ
set_option maxRecDepth 100000 in
set_option maxHeartbeats 6400000 in
theorem gateAll_ok (v0 v1 v2 : Value) (w : World) (h0 : Arg Try.prog w 49 v0) (h1 : Arg Try.prog w 3 v1) (h2 : Arg Try.prog w 4 v2) : Calls Try.prog 11 #[v0, v1, v2] w (Gives (.bool true) w) := by
  obtain ⟨a, c, p, m, rfl, ha, ha', hc, hc'⟩ := arg_gate h0
  obtain ⟨l, rfl, hl, hl'⟩ := arg_i64 Try.underlying3 h1
  obtain ⟨on, rfl⟩ := arg_bool Try.underlying4 h2
  clear h0 h1 h2
  go_enter Try.func11, Try.ntmps11
  go_upto_region 5 with (first | (go_at_call 33; refine (shown16 _).mono ?_; rintro e w1 ⟨rfl, hb1⟩; have ha1 : After _ w1 := ⟨hb1⟩; obtain ⟨hc1, hf1⟩ := after hb1; have hz1 := hb1.size; try simp at hz1) | (go_at_call 34; refine (takeG _ _ _ _ _ _ _).mono ?_; rintro e w1 ⟨rfl, hb1⟩; have ha1 : After _ w1 := ⟨hb1⟩; obtain ⟨hc1, hf1⟩ := after hb1; have hz1 := hb1.size; try simp at hz1) | (go_at_call 35; refine (refTake _ _ _ _ _ _ _).mono ?_; rintro e w1 ⟨rfl, hb1⟩; have ha1 : After _ w1 := ⟨hb1⟩; obtain ⟨hc1, hf1⟩ := after hb1; have hz1 := hb1.size; try simp at hz1))
  go_cut [7, 9, 11, 12] (fun s7 s9 s11 s12 wx => ∃ g7 g9 g11 g12, s7 = .pointer (some ⟨g7, 0, none⟩) ∧ s9 = .pointer (some ⟨g9, 0, none⟩) ∧ s11 = .pointer (some ⟨g11, 0, none⟩) ∧ s12 = .pointer (some ⟨g12, 0, none⟩) ∧ (wx.cell? ⟨w.heap.size, 0, none⟩ = some (.int .i64 a) ∧ wx.cell? ⟨w.heap.size, 1, none⟩ = some (.int .i64 c) ∧ wx.cell? ⟨w.heap.size, 2, none⟩ = some (.bool p) ∧ wx.cell? ⟨w.heap.size, 3, none⟩ = some (.bool m)) ∧ (wx.cell? ⟨g7, 0, none⟩ = some (.int .i64 a) ∧ wx.cell? ⟨g7, 1, none⟩ = some (.int .i64 (takeC a c p m l on)) ∧ wx.cell? ⟨g7, 2, none⟩ = some (.bool p) ∧ wx.cell? ⟨g7, 3, none⟩ = some (.bool m)) ∧ (wx.cell? ⟨g9, 0, none⟩ = some (.int .i64 a) ∧ wx.cell? ⟨g9, 1, none⟩ = some (.int .i64 (takeC a c p m l on)) ∧ wx.cell? ⟨g9, 2, none⟩ = some (.bool p) ∧ wx.cell? ⟨g9, 3, none⟩ = some (.bool m)) ∧ (wx.cell? ⟨g11, 0, none⟩ = some (.int .i64 a) ∧ wx.cell? ⟨g11, 1, none⟩ = some (.int .i64 c) ∧ wx.cell? ⟨g11, 2, none⟩ = some (.bool p) ∧ wx.cell? ⟨g11, 3, none⟩ = some (.bool m)) ∧ (wx.cell? ⟨g12, 0, none⟩ = some (.int .i64 a) ∧ wx.cell? ⟨g12, 1, none⟩ = some (.int .i64 c) ∧ wx.cell? ⟨g12, 2, none⟩ = some (.bool p) ∧ wx.cell? ⟨g12, 3, none⟩ = some (.bool m)) ∧ (wx.frozen? ⟨g11, 0, none⟩ = false ∧ wx.frozen? ⟨g11, 1, none⟩ = false ∧ wx.frozen? ⟨g11, 2, none⟩ = false ∧ wx.frozen? ⟨g11, 3, none⟩ = false) ∧ (wx.frozen? ⟨g12, 0, none⟩ = false ∧ wx.frozen? ⟨g12, 1, none⟩ = false ∧ wx.frozen? ⟨g12, 2, none⟩ = false ∧ wx.frozen? ⟨g12, 3, none⟩ = false) ∧ g11 ≠ g12 ∧ g7 ≠ g11 ∧ g7 ≠ g12 ∧ g9 ≠ g11 ∧ g9 ≠ g12 ∧ w.heap.size < g11 ∧ w.heap.size < g12 ∧ w.heap.size < wx.heap.size ∧ g7 < wx.heap.size ∧ g9 < wx.heap.size ∧ g11 < wx.heap.size ∧ g12 < wx.heap.size ∧ Below w.heap.size w wx)
  case first =>
    go_region_held3 (fun w' => w'.cell? ⟨w.heap.size, 0, none⟩ = some (.int .i64 a) ∧ w'.cell? ⟨w.heap.size, 1, none⟩ = some (.int .i64 c) ∧ w'.cell? ⟨w.heap.size, 2, none⟩ = some (.bool p) ∧ w'.cell? ⟨w.heap.size, 3, none⟩ = some (.bool m)) (first | (simp [*, go_sem]; done) | simp [*, go_sem, World.cell?_setCell_far]) (fail)
    all_goals (go_wp2_with fail; go_meet)
    all_goals refine ⟨_, _, _, _, rfl, rfl, rfl, rfl, ?_, ?_, ?_, ?_, ?_, ?_, ?_, ?_, ?_, ?_, ?_, ?_, ?_, ?_, ?_, ?_, ?_, ?_, ?_, ?_⟩
    all_goals first | (show RowKit.Below _ _ _; (repeat (first | with_reducible exact Below.refl _ _ | (with_reducible refine Below.alloc ?_ ?_ _; rotate_left; focus ((try simp) <;> omega)) | (with_reducible refine Below.setCell ?_ ?_ _; rotate_left; focus ((try simp) <;> omega)) | (with_reducible refine below_grow ?_ ?_; rotate_left; focus ((try simp) <;> omega)) | with_reducible refine Below.drew ?_ | with_reducible refine below_drewN ?_ | with_reducible assumption | (with_reducible refine below_step (by assumption) ?_ ?_; rotate_left; focus ((try simp) <;> omega)))); done) | (simp [*, go_sem]; done) | omega | (simp; omega) | (simp [*, go_sem, World.cell?_setCell_far]; done)
  case rest =>
    obtain ⟨g7, g9, g11, g12, rfl, rfl, rfl, rfl, ⟨c0, c1, c2, c3⟩, ⟨d0, d1, d2, d3⟩, ⟨e0, e1, e2, e3⟩, ⟨i0, i1, i2, i3⟩, ⟨j0, j1, j2, j3⟩, ⟨f0, f1, f2, f3⟩, ⟨k0, k1, k2, k3⟩, n1, n2, n3, n4, n5, n6, n7, z0, z7, z9, z11, z12, hbel⟩ := hcut
    have o0 : Old w.heap.size wc := ⟨z0⟩
    have o7 : Old g7 wc := ⟨z7⟩
    have o9 : Old g9 wc := ⟨z9⟩
    have o11 : Old g11 wc := ⟨z11⟩
    have o12 : Old g12 wc := ⟨z12⟩
    have n1' := Ne.symm n1
    have m1 : w.heap.size ≠ g11 := by omega
    have m2 : w.heap.size ≠ g12 := by omega
    cases on
    · have hs : shutC false c = c := rfl
      go_upto_region 10 with (fail)
      obtain ⟨wo, hwo⟩ : ∃ wo : World, wo = wc := ⟨_, rfl⟩
      subst hwo
      go_cut [13] (fun s13 wx => ∃ g13, s13 = .pointer (some ⟨g13, 0, none⟩) ∧ (wx.cell? ⟨g13, 0, none⟩ = some (.int .i64 (heldV l)) ∧ wx.cell? ⟨g13, 1, none⟩ = some (.int .i64 c) ∧ wx.cell? ⟨g13, 2, none⟩ = some (.bool p) ∧ wx.cell? ⟨g13, 3, none⟩ = some (.bool m)) ∧ (wx.cell? ⟨w.heap.size, 0, none⟩ = some (.int .i64 a) ∧ wx.cell? ⟨w.heap.size, 1, none⟩ = some (.int .i64 c) ∧ wx.cell? ⟨w.heap.size, 2, none⟩ = some (.bool p) ∧ wx.cell? ⟨w.heap.size, 3, none⟩ = some (.bool m)) ∧ (wx.cell? ⟨g7, 0, none⟩ = some (.int .i64 a) ∧ wx.cell? ⟨g7, 1, none⟩ = some (.int .i64 (takeC a c p m l false)) ∧ wx.cell? ⟨g7, 2, none⟩ = some (.bool p) ∧ wx.cell? ⟨g7, 3, none⟩ = some (.bool m)) ∧ (wx.cell? ⟨g9, 0, none⟩ = some (.int .i64 a) ∧ wx.cell? ⟨g9, 1, none⟩ = some (.int .i64 (takeC a c p m l false)) ∧ wx.cell? ⟨g9, 2, none⟩ = some (.bool p) ∧ wx.cell? ⟨g9, 3, none⟩ = some (.bool m)) ∧ (wx.cell? ⟨g11, 0, none⟩ = some (.int .i64 a) ∧ wx.cell? ⟨g11, 1, none⟩ = some (.int .i64 c) ∧ wx.cell? ⟨g11, 2, none⟩ = some (.bool false) ∧ wx.cell? ⟨g11, 3, none⟩ = some (.bool m)) ∧ (wx.cell? ⟨g12, 0, none⟩ = some (.int .i64 a) ∧ wx.cell? ⟨g12, 1, none⟩ = some (.int .i64 c) ∧ wx.cell? ⟨g12, 2, none⟩ = some (.bool p) ∧ wx.cell? ⟨g12, 3, none⟩ = some (.bool false)) ∧ w.heap.size < wx.heap.size ∧ g7 < wx.heap.size ∧ g9 < wx.heap.size ∧ g11 < wx.heap.size ∧ g12 < wx.heap.size ∧ g13 < wx.heap.size ∧ Below w.heap.size w wx)
      case first =>
        go_wp2
        all_goals go_meet
        all_goals refine ⟨_, rfl, ?_, ?_, ?_, ?_, ?_, ?_, ?_, ?_, ?_, ?_, ?_, ?_, ?_⟩
        all_goals first | (have hh : heldV l = 0 := by (unfold heldV; omega)) | (have hh : heldV l = 2 := by (unfold heldV; omega)) | (have hh : heldV l = l := by (unfold heldV; omega))
        all_goals first | (show RowKit.Below _ _ _; (repeat (first | with_reducible exact Below.refl _ _ | (with_reducible refine Below.alloc ?_ ?_ _; rotate_left; focus ((try simp) <;> omega)) | (with_reducible refine Below.setCell ?_ ?_ _; rotate_left; focus ((try simp) <;> omega)) | (with_reducible refine below_grow ?_ ?_; rotate_left; focus ((try simp) <;> omega)) | with_reducible refine Below.drew ?_ | with_reducible refine below_drewN ?_ | with_reducible assumption | (with_reducible refine below_step (by assumption) ?_ ?_; rotate_left; focus ((try simp) <;> omega)))); done) | (simp [*, go_sem]; done) | omega | (simp; omega) | (simp [*, go_sem, World.cell?_setCell_far]; done)
      case rest =>
        clear c0 c1 c2 c3 d0 d1 d2 d3 e0 e1 e2 e3 i0 i1 i2 i3 j0 j1 j2 j3 f0 f1 f2 f3 k0 k1 k2 k3 o0 o7 o9 o11 o12 z0 z7 z9 z11 z12 hbel
        obtain ⟨g13, rfl, ⟨x0, x1, x2, x3⟩, ⟨c0, c1, c2, c3⟩, ⟨d0, d1, d2, d3⟩, ⟨e0, e1, e2, e3⟩, ⟨i0, i1, i2, i3⟩, ⟨j0, j1, j2, j3⟩, z0, z7, z9, z11, z12, z13, hbel⟩ := hcut
        have o0 : Old w.heap.size wc := ⟨z0⟩
        have o7 : Old g7 wc := ⟨z7⟩
        have o9 : Old g9 wc := ⟨z9⟩
        have o11 : Old g11 wc := ⟨z11⟩
        have o12 : Old g12 wc := ⟨z12⟩
        have o13 : Old g13 wc := ⟨z13⟩
        cases p <;> cases m
        all_goals have hs1 : asksV a c false false = (c != a) := by simp [asksV]
        all_goals have hs2 : asksV a c true false = false := by simp [asksV]
        all_goals have hs3 : asksV a c false true = false := by simp [asksV]
        all_goals have hs4 : asksV a c true true = false := by simp [asksV]
        all_goals go_wp2_with fail
        all_goals
          refine wp_region_quiet_below (by kernel_rfl) (by kernel_rfl) ?_
          repeat (first | go_big_quiet_step (((first | (go_at_call 36; exact Calls.regrown_gives (pauseG _ _ _ _ _ _)) | (go_at_call 37; exact Calls.regrown_gives (muteG _ _ _ _ _ _)) | (go_at_call 38; exact Calls.regrown_gives (wantG _ _ _ _ _ _)) | (go_at_call 39; exact Calls.regrown_gives (quietG _ _ _ _ _)) | (go_at_call 40; exact Calls.regrown_gives (asksG _ _ _ _ _)) | (go_at_call 41; exact Calls.regrown_gives (gateNew _ _)) | (go_at_call 42; exact Calls.regrown_gives (refNewGate _ _))))) | quiet_step (((first | (go_at_call 36; exact Calls.regrown_gives (pauseG _ _ _ _ _ _)) | (go_at_call 37; exact Calls.regrown_gives (muteG _ _ _ _ _ _)) | (go_at_call 38; exact Calls.regrown_gives (wantG _ _ _ _ _ _)) | (go_at_call 39; exact Calls.regrown_gives (quietG _ _ _ _ _)) | (go_at_call 40; exact Calls.regrown_gives (asksG _ _ _ _ _)) | (go_at_call 41; exact Calls.regrown_gives (gateNew _ _)) | (go_at_call 42; exact Calls.regrown_gives (refNewGate _ _))))))
          refine wpQuiet_nil ?_
          intro _ hw'
          obtain ⟨⟨dq, osq⟩, hw''⟩ := hw'
          subst hw''
        all_goals go_wp2
        all_goals refine ret_any ⟨_, by simp [results, Try.results11, go_sem, *]; rfl, ?_⟩ rfl
        all_goals refine gives_of rfl (by repeat (first | with_reducible exact Below.refl _ _ | (with_reducible refine Below.alloc ?_ ?_ _; rotate_left; focus ((try simp) <;> omega)) | (with_reducible refine Below.setCell ?_ ?_ _; rotate_left; focus ((try simp) <;> omega)) | (with_reducible refine below_grow ?_ ?_; rotate_left; focus ((try simp) <;> omega)) | with_reducible refine Below.drew ?_ | with_reducible refine below_drewN ?_ | with_reducible assumption | (with_reducible refine below_step (by assumption) ?_ ?_; rotate_left; focus ((try simp) <;> omega))))
    · have hs : shutC true c = (-1) := rfl
      go_upto_region 10 with (fail)
      obtain ⟨wo, hwo⟩ : ∃ wo : World, wo = wc := ⟨_, rfl⟩
      subst hwo
      go_cut [13] (fun s13 wx => ∃ g13, s13 = .pointer (some ⟨g13, 0, none⟩) ∧ (wx.cell? ⟨g13, 0, none⟩ = some (.int .i64 (heldV l)) ∧ wx.cell? ⟨g13, 1, none⟩ = some (.int .i64 c) ∧ wx.cell? ⟨g13, 2, none⟩ = some (.bool p) ∧ wx.cell? ⟨g13, 3, none⟩ = some (.bool m)) ∧ (wx.cell? ⟨w.heap.size, 0, none⟩ = some (.int .i64 a) ∧ wx.cell? ⟨w.heap.size, 1, none⟩ = some (.int .i64 c) ∧ wx.cell? ⟨w.heap.size, 2, none⟩ = some (.bool p) ∧ wx.cell? ⟨w.heap.size, 3, none⟩ = some (.bool m)) ∧ (wx.cell? ⟨g7, 0, none⟩ = some (.int .i64 a) ∧ wx.cell? ⟨g7, 1, none⟩ = some (.int .i64 (takeC a c p m l true)) ∧ wx.cell? ⟨g7, 2, none⟩ = some (.bool p) ∧ wx.cell? ⟨g7, 3, none⟩ = some (.bool m)) ∧ (wx.cell? ⟨g9, 0, none⟩ = some (.int .i64 a) ∧ wx.cell? ⟨g9, 1, none⟩ = some (.int .i64 (takeC a c p m l true)) ∧ wx.cell? ⟨g9, 2, none⟩ = some (.bool p) ∧ wx.cell? ⟨g9, 3, none⟩ = some (.bool m)) ∧ (wx.cell? ⟨g11, 0, none⟩ = some (.int .i64 a) ∧ wx.cell? ⟨g11, 1, none⟩ = some (.int .i64 (-1)) ∧ wx.cell? ⟨g11, 2, none⟩ = some (.bool true) ∧ wx.cell? ⟨g11, 3, none⟩ = some (.bool m)) ∧ (wx.cell? ⟨g12, 0, none⟩ = some (.int .i64 a) ∧ wx.cell? ⟨g12, 1, none⟩ = some (.int .i64 (-1)) ∧ wx.cell? ⟨g12, 2, none⟩ = some (.bool p) ∧ wx.cell? ⟨g12, 3, none⟩ = some (.bool true)) ∧ w.heap.size < wx.heap.size ∧ g7 < wx.heap.size ∧ g9 < wx.heap.size ∧ g11 < wx.heap.size ∧ g12 < wx.heap.size ∧ g13 < wx.heap.size ∧ Below w.heap.size w wx)
      case first =>
        go_wp2
        all_goals go_meet
        all_goals refine ⟨_, rfl, ?_, ?_, ?_, ?_, ?_, ?_, ?_, ?_, ?_, ?_, ?_, ?_, ?_⟩
        all_goals first | (have hh : heldV l = 0 := by (unfold heldV; omega)) | (have hh : heldV l = 2 := by (unfold heldV; omega)) | (have hh : heldV l = l := by (unfold heldV; omega))
        all_goals first | (show RowKit.Below _ _ _; (repeat (first | with_reducible exact Below.refl _ _ | (with_reducible refine Below.alloc ?_ ?_ _; rotate_left; focus ((try simp) <;> omega)) | (with_reducible refine Below.setCell ?_ ?_ _; rotate_left; focus ((try simp) <;> omega)) | (with_reducible refine below_grow ?_ ?_; rotate_left; focus ((try simp) <;> omega)) | with_reducible refine Below.drew ?_ | with_reducible refine below_drewN ?_ | with_reducible assumption | (with_reducible refine below_step (by assumption) ?_ ?_; rotate_left; focus ((try simp) <;> omega)))); done) | (simp [*, go_sem]; done) | omega | (simp; omega) | (simp [*, go_sem, World.cell?_setCell_far]; done)
      case rest =>
        clear c0 c1 c2 c3 d0 d1 d2 d3 e0 e1 e2 e3 i0 i1 i2 i3 j0 j1 j2 j3 f0 f1 f2 f3 k0 k1 k2 k3 o0 o7 o9 o11 o12 z0 z7 z9 z11 z12 hbel
        obtain ⟨g13, rfl, ⟨x0, x1, x2, x3⟩, ⟨c0, c1, c2, c3⟩, ⟨d0, d1, d2, d3⟩, ⟨e0, e1, e2, e3⟩, ⟨i0, i1, i2, i3⟩, ⟨j0, j1, j2, j3⟩, z0, z7, z9, z11, z12, z13, hbel⟩ := hcut
        have o0 : Old w.heap.size wc := ⟨z0⟩
        have o7 : Old g7 wc := ⟨z7⟩
        have o9 : Old g9 wc := ⟨z9⟩
        have o11 : Old g11 wc := ⟨z11⟩
        have o12 : Old g12 wc := ⟨z12⟩
        have o13 : Old g13 wc := ⟨z13⟩
        cases p <;> cases m
        all_goals have hs1 : asksV a c false false = (c != a) := by simp [asksV]
        all_goals have hs2 : asksV a c true false = false := by simp [asksV]
        all_goals have hs3 : asksV a c false true = false := by simp [asksV]
        all_goals have hs4 : asksV a c true true = false := by simp [asksV]
        all_goals go_wp2_with fail
        all_goals
          refine wp_region_quiet_below (by kernel_rfl) (by kernel_rfl) ?_
          repeat (first | go_big_quiet_step (((first | (go_at_call 36; exact Calls.regrown_gives (pauseG _ _ _ _ _ _)) | (go_at_call 37; exact Calls.regrown_gives (muteG _ _ _ _ _ _)) | (go_at_call 38; exact Calls.regrown_gives (wantG _ _ _ _ _ _)) | (go_at_call 39; exact Calls.regrown_gives (quietG _ _ _ _ _)) | (go_at_call 40; exact Calls.regrown_gives (asksG _ _ _ _ _)) | (go_at_call 41; exact Calls.regrown_gives (gateNew _ _)) | (go_at_call 42; exact Calls.regrown_gives (refNewGate _ _))))) | quiet_step (((first | (go_at_call 36; exact Calls.regrown_gives (pauseG _ _ _ _ _ _)) | (go_at_call 37; exact Calls.regrown_gives (muteG _ _ _ _ _ _)) | (go_at_call 38; exact Calls.regrown_gives (wantG _ _ _ _ _ _)) | (go_at_call 39; exact Calls.regrown_gives (quietG _ _ _ _ _)) | (go_at_call 40; exact Calls.regrown_gives (asksG _ _ _ _ _)) | (go_at_call 41; exact Calls.regrown_gives (gateNew _ _)) | (go_at_call 42; exact Calls.regrown_gives (refNewGate _ _))))))
          refine wpQuiet_nil ?_
          intro _ hw'
          obtain ⟨⟨dq, osq⟩, hw''⟩ := hw'
          subst hw''
        all_goals go_wp2
        all_goals refine ret_any ⟨_, by simp [results, Try.results11, go_sem, *]; rfl, ?_⟩ rfl
        all_goals refine gives_of rfl (by repeat (first | with_reducible exact Below.refl _ _ | (with_reducible refine Below.alloc ?_ ?_ _; rotate_left; focus ((try simp) <;> omega)) | (with_reducible refine Below.setCell ?_ ?_ _; rotate_left; focus ((try simp) <;> omega)) | (with_reducible refine below_grow ?_ ?_; rotate_left; focus ((try simp) <;> omega)) | with_reducible refine Below.drew ?_ | with_reducible refine below_drewN ?_ | with_reducible assumption | (with_reducible refine below_step (by assumption) ?_ ?_; rotate_left; focus ((try simp) <;> omega))))
end Go.Proofs.Ytplhgpeeekjfcaa
