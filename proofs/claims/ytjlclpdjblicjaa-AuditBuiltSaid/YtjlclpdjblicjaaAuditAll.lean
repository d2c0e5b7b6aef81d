/-
  The law AuditAll as a walk. Conditions: the arguments fit their types, and no slice of the snapshot is too long.
-/
import Derived.Test.YtjlclpdjblicjaaAuditShown
import Derived.Test.YtjlclpdjblicjaaAuditRefHolds
import Derived.Test.YtjlclpdjblicjaaAuditArg
import Derived.Test.YtjlclpdjblicjaaSmall
namespace Go.Proofs.Ytjlclpdjblicjaa
open Go.RowKit Go.Sort Go.BigFrame
set_option linter.unusedVariables false
attribute [local go_sem ↓] Go.wp_at_zero Go.wp_at_succ
theorem small_le {w : World} {size n : Nat} {v : Value} {xs : List Value} (h : Has w size v n xs) (s : Small v) : n ≤ 10000000 := by
  obtain ⟨ao, cap, rfl, _, _⟩ := h.shape
  have := s _ _ _ rfl
  omega
theorem snap_of {w : World} {v : Value} (h0 : Arg Try.prog w 71 v) (s0 : SmallSnap v) : ∃ sa n sc ra nr rc wa nw wc ha nh hc S R Wr H, v = .agg #[.slice sa n sc, .slice ra nr rc, .slice wa nw wc, .slice ha nh hc] ∧
    SnapW w (.slice sa n sc) (.slice ra nr rc) (.slice wa nw wc) (.slice ha nh hc) n nr nw nh S R Wr H := by
  obtain ⟨sv, rv, wv, hv, S, R, Wr, H, rfl, hS, hR, hW, hH, _, _, _, _⟩ := arg_snap h0
  obtain ⟨z0, z1, z2, z3⟩ := s0 sv rv wv hv rfl
  have b0 := small_le hS z0
  have b1 := small_le hR z1
  have b2 := small_le hW z2
  have b3 := small_le hH z3
  obtain ⟨sa, sc, rfl, _, _⟩ := hS.shape
  obtain ⟨ra, rc, rfl, _, _⟩ := hR.shape
  obtain ⟨wa, wc, rfl, _, _⟩ := hW.shape
  obtain ⟨ha, hc, rfl, _, _⟩ := hH.shape
  exact ⟨_, _, _, _, _, _, _, _, _, _, _, _, S, R, Wr, H, rfl, hS, hR, hW, hH, rfl, rfl, rfl, rfl, b0, b1, b2, b3⟩
set_option maxRecDepth 100000 in
set_option maxHeartbeats 8000000 in
theorem auditAll_ok (v0 v1 v2 : Value) (w : World) (h0 : Arg Try.prog w 71 v0) (h1 : Arg Try.prog w 73 v1) (h2 : Arg Try.prog w 3 v2) (s0 : SmallSnap v0) : Calls Try.prog 11 #[v0, v1, v2] w (Gives (.bool true) w) := by
  obtain ⟨sa, n, sc, ra, nr, rc, wa, nw, wc, ha, nh, hc, S, R, Wr, H, rfl, hsn⟩ := snap_of h0 s0
  obtain ⟨sh, sl, ri, ba, hi, rfl, _⟩ := arg_conf h1
  obtain ⟨su, rfl, _, _⟩ := arg_i64 Try.underlying3 h2
  clear h0 h1 h2 s0
  have kc := fun (w' : World) (k : Below w.heap.size w w') => countedS (hsn.keep k)
  have kd := fun (w' : World) (k : Below w.heap.size w w') => refCountedS (hsn.keep k)
  have ka := fun (w' : World) (k : Below w.heap.size w w') => holdsS (hsn.keep k)
  have kb := fun (w' : World) (k : Below w.heap.size w w') => refHoldsS (hsn.keep k)
  have ke := fun (w' : World) (k : Below w.heap.size w w') => leaksS (hsn.keep k)
  have kf := fun (w' : World) (k : Below w.heap.size w w') => refLeaksS (hsn.keep k)
  have hcl := cntL_len S (R ++ Wr ++ H) n (nr + nw + nh)
  have hll := leaksL_len S (R ++ Wr ++ H) n n
  have hbn := hsn.bs
  unfold snapV at kc kd ka kb ke kf
  generalize cntL S (R ++ Wr ++ H) n (nr + nw + nh) = C at kc kd hcl
  generalize holdsB S (R ++ Wr ++ H) n = B at ka kb
  generalize leaksL S (R ++ Wr ++ H) n n = K at ke kf hll
  have KC := Lib.hid kc
  have KD := Lib.hid kd
  have KA := Lib.hid ka
  have KB := Lib.hid kb
  have KE := Lib.hid ke
  have KF := Lib.hid kf
  have HCL := Lib.hid hcl
  clear kc kd ka kb ke kf hsn hcl
  go_enter Try.func11, Try.ntmps11
  go_wp2_with (first | (go_at_call 36; refine (shown28 _).mono ?_; rintro e w1 ⟨rfl, hb1⟩; have ha1 : After _ w1 := ⟨hb1⟩; obtain ⟨hc1, hf1⟩ := after hb1; have hz1 := hb1.size; try simp at hz1))
  have B1 : RowKit.Below w.heap.size w w1 := (by repeat (first | with_reducible exact Below.refl _ _ | (with_reducible refine Below.alloc ?_ ?_ _; rotate_left; focus ((try simp) <;> omega)) | (with_reducible refine Below.setCell ?_ ?_ _; rotate_left; focus ((try simp) <;> omega)) | (with_reducible refine below_grow ?_ ?_; rotate_left; focus ((try simp) <;> omega)) | (with_reducible refine below_putB ?_ ?_; rotate_left; focus ((try simp) <;> omega)) | with_reducible refine Below.drew ?_ | with_reducible refine below_drewN ?_ | with_reducible assumption | (with_reducible refine below_step (by assumption) ?_ ?_; rotate_left; focus ((try simp) <;> omega))))
  refine wp_region_noPanic ?_
  refine wp_region_held_drew (S := (fun w' => BlkIs w' w.heap.size #[.slice sa n sc, .slice ra nr rc, .slice wa nw wc, .slice ha nh hc] 71 ∧ BlkIs w' (w.heap.size + 1) #[.int .i64 sh, .int .i64 sl, .int .i64 ri, .int .i64 ba, .int .i64 hi] 73)) (by kernel_rfl) (by (try dsimp only); exact ⟨by infer_instance, by infer_instance⟩) (fun hHeld => ?_)
  refine wpAnyH_take (i := 0) (oi := _) (v := ?_) (by simp only [List.getElem?_toArray, List.getElem?_cons_zero]; rfl) (by kernel_rfl) (by kernel_rfl) (by kernel_rfl) (fun _ _ _ h => h) (Or.inl ⟨by rfl, ?_⟩) (by assumption) ?_
  rotate_left
  focus (intro w hSw; (try dsimp only at hSw); (try have hS1 := hSw.1); (try have hS2 := hSw.2); (try have hS3 := hSw.2.1); (try have hS4 := hSw.2.2); go_simp; try with_reducible rfl)
  (try simp only [Act.put, List.setIfInBounds_toArray, List.set_cons_zero, List.set_cons_succ])
  refine wpAnyH_take (i := 2) (oi := _) (v := ?_) (by simp only [List.getElem?_toArray, List.getElem?_cons_succ, List.getElem?_cons_zero]; rfl) (by kernel_rfl) (by kernel_rfl) (by kernel_rfl) (fun _ _ _ h => h) (Or.inl ⟨by rfl, ?_⟩) (by assumption) ?_
  rotate_left
  focus (intro w hSw; (try dsimp only at hSw); (try have hS1 := hSw.1); (try have hS2 := hSw.2); (try have hS3 := hSw.2.1); (try have hS4 := hSw.2.2); go_simp; try with_reducible rfl)
  (try simp only [Act.put, List.setIfInBounds_toArray, List.set_cons_zero, List.set_cons_succ])
  refine wpAnyH_ready (rs := [1]) (by kernel_rfl) (by simp) ?_
  refine AllReadyH.cons (o := _) (by simp only [List.getElem?_toArray, List.getElem?_cons_succ, List.getElem?_cons_zero]; rfl) (fun K hK => ?_) AllReadyH.nil
  go_simp
  (refine (KC.out _ (by repeat (first | with_reducible exact Below.refl _ _ | (with_reducible refine Below.alloc ?_ ?_ _; rotate_left; focus ((try simp) <;> omega)) | (with_reducible refine Below.setCell ?_ ?_ _; rotate_left; focus ((try simp) <;> omega)) | (with_reducible refine below_grow ?_ ?_; rotate_left; focus ((try simp) <;> omega)) | (with_reducible refine below_putB ?_ ?_; rotate_left; focus ((try simp) <;> omega)) | with_reducible refine Below.drew ?_ | with_reducible refine below_drewN ?_ | with_reducible assumption | (with_reducible refine below_step (by assumption) ?_ ?_; rotate_left; focus ((try simp) <;> omega))))).mono ?_; rintro e w2 ⟨v2, rfl, hL2, hb2⟩; have ha2 : After _ w2 := ⟨hb2⟩; have B2 : RowKit.Below w.heap.size w w2 := (by repeat (first | with_reducible exact Below.refl _ _ | (with_reducible refine Below.alloc ?_ ?_ _; rotate_left; focus ((try simp) <;> omega)) | (with_reducible refine Below.setCell ?_ ?_ _; rotate_left; focus ((try simp) <;> omega)) | (with_reducible refine below_grow ?_ ?_; rotate_left; focus ((try simp) <;> omega)) | (with_reducible refine below_putB ?_ ?_; rotate_left; focus ((try simp) <;> omega)) | with_reducible refine Below.drew ?_ | with_reducible refine below_drewN ?_ | with_reducible assumption | (with_reducible refine below_step (by assumption) ?_ ?_; rotate_left; focus ((try simp) <;> omega)))); obtain ⟨a2, c2, rfl, _, _⟩ := hL2.shape; have H2 := Lib.hid hL2; clear hL2)
  try go_wp2_with fail
  refine hK.out _ _ (by (try dsimp only); exact ⟨by infer_instance, by infer_instance⟩) (fun hHeld => ?_)
  clear hK K
  (try simp only [Act.put, List.setIfInBounds_toArray, List.set_cons_zero, List.set_cons_succ])
  refine wpAnyH_ready (rs := [3]) (by kernel_rfl) (by simp) ?_
  refine AllReadyH.cons (o := _) (by simp only [List.getElem?_toArray, List.getElem?_cons_succ, List.getElem?_cons_zero]; rfl) (fun K hK => ?_) AllReadyH.nil
  go_simp
  (refine (KD.out _ B2).mono ?_; rintro e w3 ⟨v3, rfl, hL3, hb3⟩; have ha3 : After _ w3 := ⟨hb3⟩; have B3 : RowKit.Below w.heap.size w w3 := B2.trans (hb3.mono B2.size); obtain ⟨a3, c3, rfl, _, _⟩ := hL3.shape; have H2 := Lib.hid (H2.out.keep hb3); have H3 := Lib.hid hL3; clear hL3)
  try go_wp2_with fail
  refine hK.out _ _ (by (try dsimp only); exact ⟨by infer_instance, by infer_instance⟩) (fun hHeld => ?_)
  clear hK K
  (try simp only [Act.put, List.setIfInBounds_toArray, List.set_cons_zero, List.set_cons_succ])
  refine wpAnyH_ready (rs := [4]) (by kernel_rfl) (by simp) ?_
  refine AllReadyH.cons (o := _) (by simp only [List.getElem?_toArray, List.getElem?_cons_succ, List.getElem?_cons_zero]; rfl) (fun K hK => ?_) AllReadyH.nil
  go_simp
  (refine (sameI (Has.of_line H2.out) (Has.of_line H3.out) HCL.out (by omega)).mono ?_; rintro e w4 ⟨rfl, hb4⟩; have ha4 : After _ w4 := ⟨hb4⟩; have B4 : RowKit.Below w.heap.size w w4 := B3.trans (hb4.mono B3.size); clear H2 H3)
  try go_wp2_with fail
  refine hK.out _ _ (by (try dsimp only); exact ⟨by infer_instance, by infer_instance⟩) (fun hHeld => ?_)
  clear hK K
  (try simp only [Act.put, List.setIfInBounds_toArray, List.set_cons_zero, List.set_cons_succ])
  refine wpAnyH_take (i := 5) (oi := _) (v := ?_) (by simp only [List.getElem?_toArray, List.getElem?_cons_succ, List.getElem?_cons_zero]; rfl) (by kernel_rfl) (by kernel_rfl) (by kernel_rfl) (fun _ _ _ h => h) (Or.inl ⟨by rfl, ?_⟩) (by assumption) ?_
  rotate_left
  focus (intro w hSw; (try dsimp only at hSw); (try have hS1 := hSw.1); (try have hS2 := hSw.2); (try have hS3 := hSw.2.1); (try have hS4 := hSw.2.2); go_simp; try with_reducible rfl)
  (try simp only [Act.put, List.setIfInBounds_toArray, List.set_cons_zero, List.set_cons_succ])
  refine wpAnyH_take (i := 6) (oi := _) (v := ?_) (by simp only [List.getElem?_toArray, List.getElem?_cons_succ, List.getElem?_cons_zero]; rfl) (by kernel_rfl) (by kernel_rfl) (by kernel_rfl) (fun _ _ _ h => h) (Or.inl ⟨by rfl, ?_⟩) (by assumption) ?_
  rotate_left
  focus (intro w hSw; (try dsimp only at hSw); (try have hS1 := hSw.1); (try have hS2 := hSw.2); (try have hS3 := hSw.2.1); (try have hS4 := hSw.2.2); go_simp; try with_reducible rfl)
  (try simp only [Act.put, List.setIfInBounds_toArray, List.set_cons_zero, List.set_cons_succ])
  refine wpAnyH_take (i := 8) (oi := _) (v := ?_) (by simp only [List.getElem?_toArray, List.getElem?_cons_succ, List.getElem?_cons_zero]; rfl) (by kernel_rfl) (by kernel_rfl) (by kernel_rfl) (fun _ _ _ h => h) (Or.inl ⟨by rfl, ?_⟩) (by assumption) ?_
  rotate_left
  focus (intro w hSw; (try dsimp only at hSw); (try have hS1 := hSw.1); (try have hS2 := hSw.2); (try have hS3 := hSw.2.1); (try have hS4 := hSw.2.2); go_simp; try with_reducible rfl)
  (try simp only [Act.put, List.setIfInBounds_toArray, List.set_cons_zero, List.set_cons_succ])
  refine wpAnyH_ready (rs := [7]) (by kernel_rfl) (by simp) ?_
  refine AllReadyH.cons (o := _) (by simp only [List.getElem?_toArray, List.getElem?_cons_succ, List.getElem?_cons_zero]; rfl) (fun K hK => ?_) AllReadyH.nil
  go_simp
  (refine (KA.out _ B4).mono ?_; rintro e w5 ⟨rfl, hb5⟩; have ha5 : After _ w5 := ⟨hb5⟩; have B5 : RowKit.Below w.heap.size w w5 := B4.trans (hb5.mono B4.size))
  try go_wp2_with fail
  refine hK.out _ _ (by (try dsimp only); exact ⟨by infer_instance, by infer_instance⟩) (fun hHeld => ?_)
  clear hK K
  (try simp only [Act.put, List.setIfInBounds_toArray, List.set_cons_zero, List.set_cons_succ])
  refine wpAnyH_ready (rs := [9]) (by kernel_rfl) (by simp) ?_
  refine AllReadyH.cons (o := _) (by simp only [List.getElem?_toArray, List.getElem?_cons_succ, List.getElem?_cons_zero]; rfl) (fun K hK => ?_) AllReadyH.nil
  go_simp
  (refine (KB.out _ B5).mono ?_; rintro e w6 ⟨rfl, hb6⟩; have ha6 : After _ w6 := ⟨hb6⟩; have B6 : RowKit.Below w.heap.size w w6 := B5.trans (hb6.mono B5.size))
  try go_wp2_with fail
  refine hK.out _ _ (by (try dsimp only); exact ⟨by infer_instance, by infer_instance⟩) (fun hHeld => ?_)
  clear hK K
  (try simp only [Act.put, List.setIfInBounds_toArray, List.set_cons_zero, List.set_cons_succ])
  refine wpAnyH_take (i := 10) (oi := _) (v := ?_) (by simp only [List.getElem?_toArray, List.getElem?_cons_succ, List.getElem?_cons_zero]; rfl) (by kernel_rfl) (by kernel_rfl) (by kernel_rfl) (fun _ _ _ h => h) (Or.inl ⟨by rfl, ?_⟩) (by assumption) ?_
  rotate_left
  focus (intro w hSw; (try dsimp only at hSw); (try have hS1 := hSw.1); (try have hS2 := hSw.2); (try have hS3 := hSw.2.1); (try have hS4 := hSw.2.2); go_simp; try with_reducible rfl)
  (try simp only [Act.put, List.setIfInBounds_toArray, List.set_cons_zero, List.set_cons_succ])
  refine wpAnyH_take (i := 11) (oi := _) (v := ?_) (by simp only [List.getElem?_toArray, List.getElem?_cons_succ, List.getElem?_cons_zero]; rfl) (by kernel_rfl) (by kernel_rfl) (by kernel_rfl) (fun _ _ _ h => h) (Or.inl ⟨by rfl, ?_⟩) (by assumption) ?_
  rotate_left
  focus (intro w hSw; (try dsimp only at hSw); (try have hS1 := hSw.1); (try have hS2 := hSw.2); (try have hS3 := hSw.2.1); (try have hS4 := hSw.2.2); go_simp; try with_reducible rfl)
  (try simp only [Act.put, List.setIfInBounds_toArray, List.set_cons_zero, List.set_cons_succ])
  refine wpAnyH_take (i := 12) (oi := _) (v := ?_) (by simp only [List.getElem?_toArray, List.getElem?_cons_succ, List.getElem?_cons_zero]; rfl) (by kernel_rfl) (by kernel_rfl) (by kernel_rfl) (fun _ _ _ h => h) (Or.inl ⟨by rfl, ?_⟩) (by assumption) ?_
  rotate_left
  focus (intro w hSw; (try dsimp only at hSw); (try have hS1 := hSw.1); (try have hS2 := hSw.2); (try have hS3 := hSw.2.1); (try have hS4 := hSw.2.2); go_simp; try with_reducible rfl)
  (try simp only [Act.put, List.setIfInBounds_toArray, List.set_cons_zero, List.set_cons_succ])
  refine wpAnyH_take (i := 13) (oi := _) (v := ?_) (by simp only [List.getElem?_toArray, List.getElem?_cons_succ, List.getElem?_cons_zero]; rfl) (by kernel_rfl) (by kernel_rfl) (by kernel_rfl) (fun _ _ _ h => h) (Or.inl ⟨by rfl, ?_⟩) (by assumption) ?_
  rotate_left
  focus (intro w hSw; (try dsimp only at hSw); (try have hS1 := hSw.1); (try have hS2 := hSw.2); (try have hS3 := hSw.2.1); (try have hS4 := hSw.2.2); go_simp; try with_reducible rfl)
  (try simp only [Act.put, List.setIfInBounds_toArray, List.set_cons_zero, List.set_cons_succ])
  refine wpAnyH_take (i := 15) (oi := _) (v := ?_) (by simp only [List.getElem?_toArray, List.getElem?_cons_succ, List.getElem?_cons_zero]; rfl) (by kernel_rfl) (by kernel_rfl) (by kernel_rfl) (fun _ _ _ h => h) (Or.inl ⟨by rfl, ?_⟩) (by assumption) ?_
  rotate_left
  focus (intro w hSw; (try dsimp only at hSw); (try have hS1 := hSw.1); (try have hS2 := hSw.2); (try have hS3 := hSw.2.1); (try have hS4 := hSw.2.2); go_simp; try with_reducible rfl)
  (try simp only [Act.put, List.setIfInBounds_toArray, List.set_cons_zero, List.set_cons_succ])
  refine wpAnyH_ready (rs := [14]) (by kernel_rfl) (by simp) ?_
  refine AllReadyH.cons (o := _) (by simp only [List.getElem?_toArray, List.getElem?_cons_succ, List.getElem?_cons_zero]; rfl) (fun K hK => ?_) AllReadyH.nil
  go_simp
  (refine (KE.out _ B6).mono ?_; rintro e w7 ⟨v7, rfl, hL7, hb7⟩; have ha7 : After _ w7 := ⟨hb7⟩; have B7 : RowKit.Below w.heap.size w w7 := B6.trans (hb7.mono B6.size); obtain ⟨a7, c7, rfl, _, _⟩ := hL7.shape; have H7 := Lib.hid hL7; clear hL7)
  try go_wp2_with fail
  refine hK.out _ _ (by (try dsimp only); exact ⟨by infer_instance, by infer_instance⟩) (fun hHeld => ?_)
  clear hK K
  (try simp only [Act.put, List.setIfInBounds_toArray, List.set_cons_zero, List.set_cons_succ])
  refine wpAnyH_ready (rs := [16]) (by kernel_rfl) (by simp) ?_
  refine AllReadyH.cons (o := _) (by simp only [List.getElem?_toArray, List.getElem?_cons_succ, List.getElem?_cons_zero]; rfl) (fun K hK => ?_) AllReadyH.nil
  go_simp
  (refine (KF.out _ B7).mono ?_; rintro e w8 ⟨v8, rfl, hL8, hb8⟩; have ha8 : After _ w8 := ⟨hb8⟩; have B8 : RowKit.Below w.heap.size w w8 := B7.trans (hb8.mono B7.size); obtain ⟨a8, c8, rfl, _, _⟩ := hL8.shape; have H7 := Lib.hid (H7.out.keep hb8); have H8 := Lib.hid hL8; clear hL8)
  try go_wp2_with fail
  refine hK.out _ _ (by (try dsimp only); exact ⟨by infer_instance, by infer_instance⟩) (fun hHeld => ?_)
  clear hK K
  (try simp only [Act.put, List.setIfInBounds_toArray, List.set_cons_zero, List.set_cons_succ])
  refine wpAnyH_ready (rs := [17]) (by kernel_rfl) (by simp) ?_
  refine AllReadyH.cons (o := _) (by simp only [List.getElem?_toArray, List.getElem?_cons_succ, List.getElem?_cons_zero]; rfl) (fun K hK => ?_) AllReadyH.nil
  go_simp
  (refine (sameI (Has.of_line H7.out) (Has.of_line H8.out) rfl (by omega)).mono ?_; rintro e w9 ⟨rfl, hb9⟩; have ha9 : After _ w9 := ⟨hb9⟩; have B9 : RowKit.Below w.heap.size w w9 := B8.trans (hb9.mono B8.size); clear H7 H8)
  try go_wp2_with fail
  refine hK.out _ _ (by (try dsimp only); exact ⟨by infer_instance, by infer_instance⟩) (fun hHeld => ?_)
  clear hK K
  (try simp only [Act.put, List.setIfInBounds_toArray, List.set_cons_zero, List.set_cons_succ])
  refine wpAnyH_take (i := 18) (oi := _) (v := ?_) (by simp only [List.getElem?_toArray, List.getElem?_cons_succ, List.getElem?_cons_zero]; rfl) (by kernel_rfl) (by kernel_rfl) (by kernel_rfl) (fun _ _ _ h => h) (Or.inl ⟨by rfl, ?_⟩) (by assumption) ?_
  rotate_left
  focus (intro w hSw; (try dsimp only at hSw); (try have hS1 := hSw.1); (try have hS2 := hSw.2); (try have hS3 := hSw.2.1); (try have hS4 := hSw.2.2); go_simp; try with_reducible rfl)
  (try simp only [Act.put, List.setIfInBounds_toArray, List.set_cons_zero, List.set_cons_succ])
  refine wpAnyH_take (i := 19) (oi := _) (v := ?_) (by simp only [List.getElem?_toArray, List.getElem?_cons_succ, List.getElem?_cons_zero]; rfl) (by kernel_rfl) (by kernel_rfl) (by kernel_rfl) (fun _ _ _ h => h) (Or.inl ⟨by rfl, ?_⟩) (by assumption) ?_
  rotate_left
  focus (intro w hSw; (try dsimp only at hSw); (try have hS1 := hSw.1); (try have hS2 := hSw.2); (try have hS3 := hSw.2.1); (try have hS4 := hSw.2.2); go_simp; try with_reducible rfl)
  (try simp only [Act.put, List.setIfInBounds_toArray, List.set_cons_zero, List.set_cons_succ])
  refine wpAnyH_take (i := 20) (oi := _) (v := ?_) (by simp only [List.getElem?_toArray, List.getElem?_cons_succ, List.getElem?_cons_zero]; rfl) (by kernel_rfl) (by kernel_rfl) (by kernel_rfl) (fun _ _ _ h => h) (Or.inl ⟨by rfl, ?_⟩) (by assumption) ?_
  rotate_left
  focus (intro w hSw; (try dsimp only at hSw); (try have hS1 := hSw.1); (try have hS2 := hSw.2); (try have hS3 := hSw.2.1); (try have hS4 := hSw.2.2); go_simp; try with_reducible rfl)
  (try simp only [Act.put, List.setIfInBounds_toArray, List.set_cons_zero, List.set_cons_succ])
  refine wpAnyH_take (i := 21) (oi := _) (v := ?_) (by simp only [List.getElem?_toArray, List.getElem?_cons_succ, List.getElem?_cons_zero]; rfl) (by kernel_rfl) (by kernel_rfl) (by kernel_rfl) (fun _ _ _ h => h) (Or.inl ⟨by rfl, ?_⟩) (by assumption) ?_
  rotate_left
  focus (intro w hSw; (try dsimp only at hSw); (try have hS1 := hSw.1); (try have hS2 := hSw.2); (try have hS3 := hSw.2.1); (try have hS4 := hSw.2.2); go_simp; try with_reducible rfl)
  (try simp only [Act.put, List.setIfInBounds_toArray, List.set_cons_zero, List.set_cons_succ])
  refine wpAnyH_take (i := 23) (oi := _) (v := ?_) (by simp only [List.getElem?_toArray, List.getElem?_cons_succ, List.getElem?_cons_zero]; rfl) (by kernel_rfl) (by kernel_rfl) (by kernel_rfl) (fun _ _ _ h => h) (Or.inl ⟨by rfl, ?_⟩) (by assumption) ?_
  rotate_left
  focus (intro w hSw; (try dsimp only at hSw); (try have hS1 := hSw.1); (try have hS2 := hSw.2); (try have hS3 := hSw.2.1); (try have hS4 := hSw.2.2); go_simp; try with_reducible rfl)
  (try simp only [Act.put, List.setIfInBounds_toArray, List.set_cons_zero, List.set_cons_succ])
  refine wpAnyH_take (i := 24) (oi := _) (v := ?_) (by simp only [List.getElem?_toArray, List.getElem?_cons_succ, List.getElem?_cons_zero]; rfl) (by kernel_rfl) (by kernel_rfl) (by kernel_rfl) (fun _ _ _ h => h) (Or.inl ⟨by rfl, ?_⟩) (by assumption) ?_
  rotate_left
  focus (intro w hSw; (try dsimp only at hSw); (try have hS1 := hSw.1); (try have hS2 := hSw.2); (try have hS3 := hSw.2.1); (try have hS4 := hSw.2.2); go_simp; try with_reducible rfl)
  (try simp only [Act.put, List.setIfInBounds_toArray, List.set_cons_zero, List.set_cons_succ])
  refine wpAnyH_ready (rs := [22]) (by kernel_rfl) (by simp) ?_
  refine AllReadyH.cons (o := _) (by simp only [List.getElem?_toArray, List.getElem?_cons_succ, List.getElem?_cons_zero]; rfl) (fun K hK => ?_) AllReadyH.nil
  go_simp
  (refine (auditRoomR sh sl ri ba hi su _).mono ?_; rintro e w10 ⟨rfl, hb10⟩; have ha10 : After _ w10 := ⟨hb10⟩; have B10 : RowKit.Below w.heap.size w w10 := B9.trans (hb10.mono B9.size))
  try go_wp2_with fail
  refine hK.out _ _ (by (try dsimp only); exact ⟨by infer_instance, by infer_instance⟩) (fun hHeld => ?_)
  clear hK K
  (try simp only [Act.put, List.setIfInBounds_toArray, List.set_cons_zero, List.set_cons_succ])
  refine wpAnyH_ready (rs := [25]) (by kernel_rfl) (by simp) ?_
  refine AllReadyH.cons (o := _) (by simp only [List.getElem?_toArray, List.getElem?_cons_succ, List.getElem?_cons_zero]; rfl) (fun K hK => ?_) AllReadyH.nil
  go_simp
  (refine (auditRefRoomR sh sl ri ba hi su _).mono ?_; rintro e w11 ⟨rfl, hb11⟩; have ha11 : After _ w11 := ⟨hb11⟩; have B11 : RowKit.Below w.heap.size w w11 := B10.trans (hb11.mono B10.size))
  try go_wp2_with fail
  refine hK.out _ _ (by (try dsimp only); exact ⟨by infer_instance, by infer_instance⟩) (fun hHeld => ?_)
  clear hK K
  (try simp only [Act.put, List.setIfInBounds_toArray, List.set_cons_zero, List.set_cons_succ])
  refine wpAnyH_take (i := 26) (oi := _) (v := ?_) (by simp only [List.getElem?_toArray, List.getElem?_cons_succ, List.getElem?_cons_zero]; rfl) (by kernel_rfl) (by kernel_rfl) (by kernel_rfl) (fun _ _ _ h => h) (Or.inl ⟨by rfl, ?_⟩) (by assumption) ?_
  rotate_left
  focus (intro w hSw; (try dsimp only at hSw); (try have hS1 := hSw.1); (try have hS2 := hSw.2); (try have hS3 := hSw.2.1); (try have hS4 := hSw.2.2); go_simp; try with_reducible rfl)
  (try simp only [Act.put, List.setIfInBounds_toArray, List.set_cons_zero, List.set_cons_succ])
  refine wpAnyH_take (i := 27) (oi := _) (v := ?_) (by simp only [List.getElem?_toArray, List.getElem?_cons_succ, List.getElem?_cons_zero]; rfl) (by kernel_rfl) (by kernel_rfl) (by kernel_rfl) (fun _ _ _ h => h) (Or.inl ⟨by rfl, ?_⟩) (by assumption) ?_
  rotate_left
  focus (intro w hSw; (try dsimp only at hSw); (try have hS1 := hSw.1); (try have hS2 := hSw.2); (try have hS3 := hSw.2.1); (try have hS4 := hSw.2.2); go_simp; try with_reducible rfl)
  (try simp only [Act.put, List.setIfInBounds_toArray, List.set_cons_zero, List.set_cons_succ])
  refine wpAnyH_ready (rs := [28]) (by kernel_rfl) (by simp) ?_
  refine AllReadyH.cons (o := _) (by simp only [List.getElem?_toArray, List.getElem?_cons_succ, List.getElem?_cons_zero]; rfl) (fun K hK => ?_) AllReadyH.nil
  go_simp
  refine hK.out _ _ (by (try dsimp only); exact ⟨by infer_instance, by infer_instance⟩) (fun hHeld => ?_)
  clear hK K
  (try simp only [Act.put, List.setIfInBounds_toArray, List.set_cons_zero, List.set_cons_succ])
  refine wpAnyH_done (by kernel_rfl) ?_ _
  refine NoPanic.normal ?_
  go_wp2_with fail
  refine ret_any ⟨_, by simp [results, Try.results11, go_sem, *]; rfl, ?_⟩ rfl
  exact gives_of rfl B11
end Go.Proofs.Ytjlclpdjblicjaa
