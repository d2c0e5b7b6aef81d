/-
  The law AuditPlaces as a walk. Conditions: the argument fits its type, and no slice of the snapshot is too long.
-/
import Derived.Test.YtjlclpdjblicjaaAuditPlacesI
namespace Go.Proofs.Ytjlclpdjblicjaa
open Go.RowKit Go.Sort Go.BigFrame
set_option linter.unusedVariables false
attribute [local go_sem ↓] Go.wp_at_zero Go.wp_at_succ
set_option maxRecDepth 100000 in
set_option maxHeartbeats 8000000 in
theorem auditPlaces_ok (v0 : Value) (w : World) (h0 : Arg Try.prog w 71 v0) (s0 : SmallSnap v0) : Calls Try.prog 13 #[v0] w (Gives (.bool true) w) := by
  obtain ⟨sa, n, sc, ra, nr, rc, wa, nw, wq, ha, nh, hc, S, R, Wr, H, rfl, hsn, hbr, hbw, hbh⟩ := snap_of2 h0 s0
  clear h0 s0
  obtain ⟨i0, hi, hz0, hz1, hz2⟩ := info_parts info30
  have HI := And.intro (Lib.hid hi) (And.intro (Lib.hid hz0) (And.intro (Lib.hid hz1) (Lib.hid hz2)))
  clear hi hz0 hz1 hz2
  have HSN := Lib.hid hsn
  have hbn := hsn.bs
  clear hsn
  go_enter Try.func13, Try.ntmps13
  go_upto_region 4 with (first | (go_at_call 36; refine (shown28 _).mono ?_; rintro e w1 ⟨rfl, hb1⟩; have ha1 : After _ w1 := ⟨hb1⟩; obtain ⟨hc1, hf1⟩ := after hb1; have hz1 := hb1.size; try simp at hz1))
  have bw1 : RowKit.Below w.heap.size w w1 := (by repeat (first | with_reducible exact Below.refl _ _ | (with_reducible refine Below.alloc ?_ ?_ _; rotate_left; focus ((try simp) <;> omega)) | (with_reducible refine Below.setCell ?_ ?_ _; rotate_left; focus ((try simp) <;> omega)) | (with_reducible refine below_grow ?_ ?_; rotate_left; focus ((try simp) <;> omega)) | (with_reducible refine below_putB ?_ ?_; rotate_left; focus ((try simp) <;> omega)) | with_reducible refine Below.drew ?_ | with_reducible refine below_drewN ?_ | with_reducible assumption | (with_reducible refine below_step (by assumption) ?_ ?_; rotate_left; focus ((try simp) <;> omega))))
  obtain ⟨W, hW⟩ : ∃ W, W = w1.alloc (.cells #[.slice sa n sc, .slice ha nh hc, .slice ra nr rc, .slice wa nw wq] 71) := ⟨_, rfl⟩
  have e1 : BlkIs W w.heap.size #[.slice sa n sc, .slice ra nr rc, .slice wa nw wq, .slice ha nh hc] 71 := by rw [hW]; infer_instance
  have e3 : BlkIs W w1.heap.size #[.slice sa n sc, .slice ha nh hc, .slice ra nr rc, .slice wa nw wq] 71 := by rw [hW]; infer_instance
  have hB : RowKit.Below w.heap.size w W := by rw [hW]; exact (by repeat (first | with_reducible exact Below.refl _ _ | (with_reducible refine Below.alloc ?_ ?_ _; rotate_left; focus ((try simp) <;> omega)) | (with_reducible refine Below.setCell ?_ ?_ _; rotate_left; focus ((try simp) <;> omega)) | (with_reducible refine below_grow ?_ ?_; rotate_left; focus ((try simp) <;> omega)) | (with_reducible refine below_putB ?_ ?_; rotate_left; focus ((try simp) <;> omega)) | with_reducible refine Below.drew ?_ | with_reducible refine below_drewN ?_ | with_reducible assumption | (with_reducible refine below_step (by assumption) ?_ ?_; rotate_left; focus ((try simp) <;> omega))))
  have hBs := hB.size
  have hB1 := hb1.size
  rw [← hW]
  clear hW
  go_cut [4] (fun s4 wx => ∃ b4 a5 c5, s4 = .pointer (some ⟨b4, 0, none⟩) ∧ BlkIs wx b4 #[.slice sa n sc, .slice none 0 0, .slice a5 (nr + nw + nh) c5, .slice none 0 0] 71 ∧ BlkIs wx w.heap.size #[.slice sa n sc, .slice ra nr rc, .slice wa nw wq, .slice ha nh hc] 71 ∧ BlkIs wx w1.heap.size #[.slice sa n sc, .slice ha nh hc, .slice ra nr rc, .slice wa nw wq] 71 ∧
    Line wx w.heap.size 2 (.slice a5 (nr + nw + nh) c5) (nr + nw + nh) (hds (R ++ Wr ++ H)) ∧ Below w.heap.size w wx)
  case first =>
    have HR := Lib.hid (HSN.out.keep hB).r
    have HW := Lib.hid (HSN.out.keep hB).p
    have HH := Lib.hid (HSN.out.keep hB).h
    refine wp_region_noPanic ?_
    refine wp_region_held_drew (S := (fun w' => BlkIs w' w.heap.size #[.slice sa n sc, .slice ra nr rc, .slice wa nw wq, .slice ha nh hc] 71)) (by kernel_rfl) (by (try dsimp only); infer_instance) (fun hHeld => ?_)
    refine wpAnyH_take (i := 0) (oi := _) (v := ?_) (by simp only [List.getElem?_toArray, List.getElem?_cons_zero]; rfl) (by kernel_rfl) (by kernel_rfl) (by kernel_rfl) (fun _ _ _ h => h) (Or.inl ⟨by rfl, ?_⟩) (by assumption) ?_
    rotate_left
    focus (intro w hSw; (try dsimp only at hSw); (try have hS1 := hSw.1); (try have hS2 := hSw.2); (try have hS3 := hSw.2.1); (try have hS4 := hSw.2.2); go_simp; try with_reducible rfl)
    (try simp only [Act.put, List.setIfInBounds_toArray, List.set_cons_zero, List.set_cons_succ])
    refine wpAnyH_take (i := 1) (oi := _) (v := ?_) (by simp only [List.getElem?_toArray, List.getElem?_cons_succ, List.getElem?_cons_zero]; rfl) (by kernel_rfl) (by kernel_rfl) (by kernel_rfl) (fun _ _ _ h => h) (Or.inl ⟨by rfl, ?_⟩) (by assumption) ?_
    rotate_left
    focus (intro w hSw; (try dsimp only at hSw); (try have hS1 := hSw.1); (try have hS2 := hSw.2); (try have hS3 := hSw.2.1); (try have hS4 := hSw.2.2); go_simp; try with_reducible rfl)
    (try simp only [Act.put, List.setIfInBounds_toArray, List.set_cons_zero, List.set_cons_succ])
    refine wpAnyH_take (i := 2) (oi := _) (v := ?_) (by simp only [List.getElem?_toArray, List.getElem?_cons_succ, List.getElem?_cons_zero]; rfl) (by kernel_rfl) (by kernel_rfl) (by kernel_rfl) (fun _ _ _ h => h) (Or.inl ⟨by rfl, ?_⟩) (by assumption) ?_
    rotate_left
    focus (intro w hSw; (try dsimp only at hSw); (try have hS1 := hSw.1); (try have hS2 := hSw.2); (try have hS3 := hSw.2.1); (try have hS4 := hSw.2.2); go_simp; try with_reducible rfl)
    (try simp only [Act.put, List.setIfInBounds_toArray, List.set_cons_zero, List.set_cons_succ])
    refine wpAnyH_take (i := 3) (oi := _) (v := ?_) (by simp only [List.getElem?_toArray, List.getElem?_cons_succ, List.getElem?_cons_zero]; rfl) (by kernel_rfl) (by kernel_rfl) (by kernel_rfl) (fun _ _ _ h => h) (Or.inl ⟨by rfl, ?_⟩) (by assumption) ?_
    rotate_left
    focus (intro w hSw; (try dsimp only at hSw); (try have hS1 := hSw.1); (try have hS2 := hSw.2); (try have hS3 := hSw.2.1); (try have hS4 := hSw.2.2); go_simp; try with_reducible rfl)
    (try simp only [Act.put, List.setIfInBounds_toArray, List.set_cons_zero, List.set_cons_succ])
    refine wpAnyH_take (i := 5) (oi := _) (v := ?_) (by simp only [List.getElem?_toArray, List.getElem?_cons_succ, List.getElem?_cons_zero]; rfl) (by kernel_rfl) (by kernel_rfl) (by kernel_rfl) (fun _ _ _ h => h) (Or.inl ⟨by rfl, ?_⟩) (by assumption) ?_
    rotate_left
    focus (intro w hSw; (try dsimp only at hSw); (try have hS1 := hSw.1); (try have hS2 := hSw.2); (try have hS3 := hSw.2.1); (try have hS4 := hSw.2.2); go_simp; try with_reducible rfl)
    (try simp only [Act.put, List.setIfInBounds_toArray, List.set_cons_zero, List.set_cons_succ])
    refine wpAnyH_take (i := 6) (oi := _) (v := ?_) (by simp only [List.getElem?_toArray, List.getElem?_cons_succ, List.getElem?_cons_zero]; rfl) (by kernel_rfl) (by kernel_rfl) (by kernel_rfl) (fun _ _ _ h => h) (Or.inl ⟨by rfl, ?_⟩) (by assumption) ?_
    rotate_left
    focus (intro w hSw; (try dsimp only at hSw); (try have hS1 := hSw.1); (try have hS2 := hSw.2); (try have hS3 := hSw.2.1); (try have hS4 := hSw.2.2); go_simp; try with_reducible rfl)
    (try simp only [Act.put, List.setIfInBounds_toArray, List.set_cons_zero, List.set_cons_succ])
    refine wpAnyH_take (i := 8) (oi := _) (v := ?_) (by simp only [List.getElem?_toArray, List.getElem?_cons_succ, List.getElem?_cons_zero]; rfl) (by kernel_rfl) (by kernel_rfl) (by kernel_rfl) (fun _ _ _ h => h) (Or.inl ⟨by rfl, ?_⟩) (by assumption) ?_
    rotate_left
    focus (intro w hSw; (try dsimp only at hSw); (try have hS1 := hSw.1); (try have hS2 := hSw.2); (try have hS3 := hSw.2.1); (try have hS4 := hSw.2.2); go_simp; try with_reducible rfl)
    (try simp only [Act.put, List.setIfInBounds_toArray, List.set_cons_zero, List.set_cons_succ])
    refine wpAnyH_take (i := 9) (oi := _) (v := ?_) (by simp only [List.getElem?_toArray, List.getElem?_cons_succ, List.getElem?_cons_zero]; rfl) (by kernel_rfl) (by kernel_rfl) (by kernel_rfl) (fun _ _ _ h => h) (Or.inl ⟨by rfl, ?_⟩) (by assumption) ?_
    rotate_left
    focus (intro w hSw; (try dsimp only at hSw); (try have hS1 := hSw.1); (try have hS2 := hSw.2); (try have hS3 := hSw.2.1); (try have hS4 := hSw.2.2); go_simp; try with_reducible rfl)
    (try simp only [Act.put, List.setIfInBounds_toArray, List.set_cons_zero, List.set_cons_succ])
    have J0 := Lib.hid (PlI.nil (W := W) (wx := W.drew) (by repeat (first | with_reducible exact Below.refl _ _ | (with_reducible refine Below.alloc ?_ ?_ _; rotate_left; focus ((try simp) <;> omega)) | (with_reducible refine Below.setCell ?_ ?_ _; rotate_left; focus ((try simp) <;> omega)) | (with_reducible refine below_grow ?_ ?_; rotate_left; focus ((try simp) <;> omega)) | (with_reducible refine below_putB ?_ ?_; rotate_left; focus ((try simp) <;> omega)) | with_reducible refine Below.drew ?_ | with_reducible refine below_drewN ?_ | with_reducible assumption | (with_reducible refine below_step (by assumption) ?_ ?_; rotate_left; focus ((try simp) <;> omega)))))
    refine wpAnyH_ready (rs := [4, 12]) (by kernel_rfl) (by simp) ?_
    refine AllReadyH.cons (o := _) (by simp only [List.getElem?_toArray, List.getElem?_cons_succ, List.getElem?_cons_zero]; rfl) (fun K hK => ?_) (AllReadyH.cons (o := _) (by simp only [List.getElem?_toArray, List.getElem?_cons_succ, List.getElem?_cons_zero]; rfl) (fun K hK => ?_) AllReadyH.nil)
    · (refine step_append_line _ (by rfl) _ _ 69 (by rfl) W.heap.size 30 i0 _ 2 16 Try.underlying69 HI.1.out HI.2.1.out HI.2.2.1.out HI.2.2.2.out rfl (by decide) _ _ (0) nr ([]) (hds R) (by rfl) (by rfl) J0.out.line ((HR.out.keep J0.out.below).src' (hds_one _)) (by unfold maxLen; omega) (by omega) J0.out.below.size _ rfl ?_; intro v1 x1 hown1 hgrow1 hat1; have J1 := Lib.hid (J0.out.append (n' := nr) (xs' := hds R) hown1 hgrow1 hat1 rfl (by omega) (by simp [hds])); clear hown1 hgrow1 hat1; have ha1 : After W x1 := ⟨J1.out.below⟩; obtain ⟨a1, c1, rfl, _, _⟩ := J1.out.line.shape)
      refine hK.out _ _ (by (try dsimp only); infer_instance) (fun hHeld => ?_)
      clear hK K
      (try simp only [Act.put, List.setIfInBounds_toArray, List.set_cons_zero, List.set_cons_succ])
      refine wpAnyH_ready (rs := [7, 12]) (by kernel_rfl) (by simp) ?_
      refine AllReadyH.cons (o := _) (by simp only [List.getElem?_toArray, List.getElem?_cons_succ, List.getElem?_cons_zero]; rfl) (fun K hK => ?_) (AllReadyH.cons (o := _) (by simp only [List.getElem?_toArray, List.getElem?_cons_succ, List.getElem?_cons_zero]; rfl) (fun K hK => ?_) AllReadyH.nil)
      · (refine step_append_line _ (by rfl) _ _ 69 (by rfl) W.heap.size 30 i0 _ 2 16 Try.underlying69 HI.1.out HI.2.1.out HI.2.2.1.out HI.2.2.2.out rfl (by decide) _ _ (nr) nw (hds R) (hds Wr) (by rfl) (by rfl) J1.out.line ((HW.out.keep J1.out.below).src' (hds_one _)) (by unfold maxLen; omega) (by omega) J1.out.below.size _ rfl ?_; intro v2 x2 hown2 hgrow2 hat2; have J2 := Lib.hid (J1.out.append (n' := nr + nw) (xs' := hds (R ++ Wr)) hown2 hgrow2 hat2 rfl (by omega) (by simp [hds])); clear hown2 hgrow2 hat2; have ha2 : After W x2 := ⟨J2.out.below⟩; obtain ⟨a2, c2, rfl, _, _⟩ := J2.out.line.shape)
        refine hK.out _ _ (by (try dsimp only); infer_instance) (fun hHeld => ?_)
        clear hK K
        (try simp only [Act.put, List.setIfInBounds_toArray, List.set_cons_zero, List.set_cons_succ])
        refine wpAnyH_ready (rs := [10, 12]) (by kernel_rfl) (by simp) ?_
        refine AllReadyH.cons (o := _) (by simp only [List.getElem?_toArray, List.getElem?_cons_succ, List.getElem?_cons_zero]; rfl) (fun K hK => ?_) (AllReadyH.cons (o := _) (by simp only [List.getElem?_toArray, List.getElem?_cons_succ, List.getElem?_cons_zero]; rfl) (fun K hK => ?_) AllReadyH.nil)
        · (refine step_append_line _ (by rfl) _ _ 69 (by rfl) W.heap.size 30 i0 _ 2 16 Try.underlying69 HI.1.out HI.2.1.out HI.2.2.1.out HI.2.2.2.out rfl (by decide) _ _ (nr + nw) nh (hds (R ++ Wr)) (hds H) (by rfl) (by rfl) J2.out.line ((HH.out.keep J2.out.below).src' (hds_one _)) (by unfold maxLen; omega) (by omega) J2.out.below.size _ rfl ?_; intro v3 x3 hown3 hgrow3 hat3; have J3 := Lib.hid (J2.out.append (n' := nr + nw + nh) (xs' := hds (R ++ Wr ++ H)) hown3 hgrow3 hat3 rfl (by omega) (by simp [hds])); clear hown3 hgrow3 hat3; have ha3 : After W x3 := ⟨J3.out.below⟩; obtain ⟨a3, c3, rfl, _, _⟩ := J3.out.line.shape)
          refine hK.out _ _ (by (try dsimp only); infer_instance) (fun hHeld => ?_)
          clear hK K
          (try simp only [Act.put, List.setIfInBounds_toArray, List.set_cons_zero, List.set_cons_succ])
          refine wpAnyH_take (i := 11) (oi := _) (v := ?_) (by simp only [List.getElem?_toArray, List.getElem?_cons_succ, List.getElem?_cons_zero]; rfl) (by kernel_rfl) (by kernel_rfl) (by kernel_rfl) (fun _ _ _ h => h) (Or.inl ⟨by rfl, ?_⟩) (by assumption) ?_
          rotate_left
          focus (intro w hSw; (try dsimp only at hSw); (try have hS1 := hSw.1); (try have hS2 := hSw.2); (try have hS3 := hSw.2.1); (try have hS4 := hSw.2.2); go_simp; try with_reducible rfl)
          (try simp only [Act.put, List.setIfInBounds_toArray, List.set_cons_zero, List.set_cons_succ])
          refine wpAnyH_ready (rs := [12]) (by kernel_rfl) (by simp) ?_
          refine AllReadyH.cons (o := _) (by simp only [List.getElem?_toArray, List.getElem?_cons_succ, List.getElem?_cons_zero]; rfl) (fun K hK => ?_) AllReadyH.nil
          go_simp
          refine hK.out _ _ (by (try dsimp only); infer_instance) (fun hHeld => ?_)
          clear hK K
          (try simp only [Act.put, List.setIfInBounds_toArray, List.set_cons_zero, List.set_cons_succ])
          have JZ := Lib.hid J3.out.alloc
          have hbz : BlkIs _ _ nil4 71 := JZ.out.blk
          unfold nil4 at hbz
          refine wpAnyH_ready (rs := [13]) (by kernel_rfl) (by simp) ?_
          refine AllReadyH.cons (o := _) (by simp only [List.getElem?_toArray, List.getElem?_cons_succ, List.getElem?_cons_zero]; rfl) (fun K hK => ?_) AllReadyH.nil
          go_simp
          refine hK.out _ _ (by (try dsimp only); infer_instance) (fun hHeld => ?_)
          clear hK K
          (try simp only [Act.put, List.setIfInBounds_toArray, List.set_cons_zero, List.set_cons_succ])
          refine wpAnyH_done (by kernel_rfl) ?_ _
          refine NoPanic.normal ?_
          go_wp2_with fail
          go_meet
          have hbl : RowKit.Below x3.heap.size x3 (x3.alloc (.cells #[.slice sa n sc, .slice none 0 0, .slice a3 (nr + nw + nh) c3, .slice none 0 0] 71)) := (Below.refl _ _).alloc (Nat.le_refl _) _
          exact ⟨_, _, _, rfl, by infer_instance, by infer_instance, by infer_instance, (J3.out.line.keep hbl).weak hBs, hB.trans ((J3.out.below.trans (hbl.mono J3.out.below.size)).mono hBs)⟩
        · go_simp
          refine hK.out _ _ (by (try dsimp only); infer_instance) (fun hHeld => ?_)
          clear hK K
          (try simp only [Act.put, List.setIfInBounds_toArray, List.set_cons_zero, List.set_cons_succ])
          have J2z := Lib.hid J2.out.alloc
          refine wpAnyH_ready (rs := [10]) (by kernel_rfl) (by simp) ?_
          refine AllReadyH.cons (o := _) (by simp only [List.getElem?_toArray, List.getElem?_cons_succ, List.getElem?_cons_zero]; rfl) (fun K hK => ?_) AllReadyH.nil
          (refine step_append_line _ (by rfl) _ _ 69 (by rfl) W.heap.size 30 i0 _ 2 16 Try.underlying69 HI.1.out HI.2.1.out HI.2.2.1.out HI.2.2.2.out rfl (by decide) _ _ (nr + nw) nh (hds (R ++ Wr)) (hds H) (by rfl) (by rfl) J2z.out.line ((HH.out.keep J2z.out.below).src' (hds_one _)) (by unfold maxLen; omega) (by omega) J2z.out.below.size _ rfl ?_; intro v3 x3 hown3 hgrow3 hat3; have J3z := Lib.hid (J2z.out.append (n' := nr + nw + nh) (xs' := hds (R ++ Wr ++ H)) hown3 hgrow3 hat3 rfl (by omega) (by simp [hds])); clear hown3 hgrow3 hat3; have ha3 : After W x3 := ⟨J3z.out.below⟩; obtain ⟨a3, c3, rfl, _, _⟩ := J3z.out.line.shape)
          refine hK.out _ _ (by (try dsimp only); infer_instance) (fun hHeld => ?_)
          clear hK K
          (try simp only [Act.put, List.setIfInBounds_toArray, List.set_cons_zero, List.set_cons_succ])
          refine wpAnyH_take (i := 11) (oi := _) (v := ?_) (by simp only [List.getElem?_toArray, List.getElem?_cons_succ, List.getElem?_cons_zero]; rfl) (by kernel_rfl) (by kernel_rfl) (by kernel_rfl) (fun _ _ _ h => h) (Or.inl ⟨by rfl, ?_⟩) (by assumption) ?_
          rotate_left
          focus (intro w hSw; (try dsimp only at hSw); (try have hS1 := hSw.1); (try have hS2 := hSw.2); (try have hS3 := hSw.2.1); (try have hS4 := hSw.2.2); go_simp; try with_reducible rfl)
          (try simp only [Act.put, List.setIfInBounds_toArray, List.set_cons_zero, List.set_cons_succ])
          have hbz : BlkIs _ _ nil4 71 := J3z.out.blk
          unfold nil4 at hbz
          refine wpAnyH_ready (rs := [13]) (by kernel_rfl) (by simp) ?_
          refine AllReadyH.cons (o := _) (by simp only [List.getElem?_toArray, List.getElem?_cons_succ, List.getElem?_cons_zero]; rfl) (fun K hK => ?_) AllReadyH.nil
          go_simp
          refine hK.out _ _ (by (try dsimp only); infer_instance) (fun hHeld => ?_)
          clear hK K
          (try simp only [Act.put, List.setIfInBounds_toArray, List.set_cons_zero, List.set_cons_succ])
          refine wpAnyH_done (by kernel_rfl) ?_ _
          refine NoPanic.normal ?_
          go_wp2_with fail
          go_meet
          exact ⟨_, _, _, rfl, by infer_instance, by infer_instance, by infer_instance, J3z.out.put_line.weak hBs, hB.trans (J3z.out.put_below.mono hBs)⟩
      · go_simp
        refine hK.out _ _ (by (try dsimp only); infer_instance) (fun hHeld => ?_)
        clear hK K
        (try simp only [Act.put, List.setIfInBounds_toArray, List.set_cons_zero, List.set_cons_succ])
        have J1z := Lib.hid J1.out.alloc
        refine wpAnyH_ready (rs := [7]) (by kernel_rfl) (by simp) ?_
        refine AllReadyH.cons (o := _) (by simp only [List.getElem?_toArray, List.getElem?_cons_succ, List.getElem?_cons_zero]; rfl) (fun K hK => ?_) AllReadyH.nil
        (refine step_append_line _ (by rfl) _ _ 69 (by rfl) W.heap.size 30 i0 _ 2 16 Try.underlying69 HI.1.out HI.2.1.out HI.2.2.1.out HI.2.2.2.out rfl (by decide) _ _ (nr) nw (hds R) (hds Wr) (by rfl) (by rfl) J1z.out.line ((HW.out.keep J1z.out.below).src' (hds_one _)) (by unfold maxLen; omega) (by omega) J1z.out.below.size _ rfl ?_; intro v2 x2 hown2 hgrow2 hat2; have J2z := Lib.hid (J1z.out.append (n' := nr + nw) (xs' := hds (R ++ Wr)) hown2 hgrow2 hat2 rfl (by omega) (by simp [hds])); clear hown2 hgrow2 hat2; have ha2 : After W x2 := ⟨J2z.out.below⟩; obtain ⟨a2, c2, rfl, _, _⟩ := J2z.out.line.shape)
        refine hK.out _ _ (by (try dsimp only); infer_instance) (fun hHeld => ?_)
        clear hK K
        (try simp only [Act.put, List.setIfInBounds_toArray, List.set_cons_zero, List.set_cons_succ])
        refine wpAnyH_ready (rs := [10]) (by kernel_rfl) (by simp) ?_
        refine AllReadyH.cons (o := _) (by simp only [List.getElem?_toArray, List.getElem?_cons_succ, List.getElem?_cons_zero]; rfl) (fun K hK => ?_) AllReadyH.nil
        (refine step_append_line _ (by rfl) _ _ 69 (by rfl) W.heap.size 30 i0 _ 2 16 Try.underlying69 HI.1.out HI.2.1.out HI.2.2.1.out HI.2.2.2.out rfl (by decide) _ _ (nr + nw) nh (hds (R ++ Wr)) (hds H) (by rfl) (by rfl) J2z.out.line ((HH.out.keep J2z.out.below).src' (hds_one _)) (by unfold maxLen; omega) (by omega) J2z.out.below.size _ rfl ?_; intro v3 x3 hown3 hgrow3 hat3; have J3z := Lib.hid (J2z.out.append (n' := nr + nw + nh) (xs' := hds (R ++ Wr ++ H)) hown3 hgrow3 hat3 rfl (by omega) (by simp [hds])); clear hown3 hgrow3 hat3; have ha3 : After W x3 := ⟨J3z.out.below⟩; obtain ⟨a3, c3, rfl, _, _⟩ := J3z.out.line.shape)
        refine hK.out _ _ (by (try dsimp only); infer_instance) (fun hHeld => ?_)
        clear hK K
        (try simp only [Act.put, List.setIfInBounds_toArray, List.set_cons_zero, List.set_cons_succ])
        refine wpAnyH_take (i := 11) (oi := _) (v := ?_) (by simp only [List.getElem?_toArray, List.getElem?_cons_succ, List.getElem?_cons_zero]; rfl) (by kernel_rfl) (by kernel_rfl) (by kernel_rfl) (fun _ _ _ h => h) (Or.inl ⟨by rfl, ?_⟩) (by assumption) ?_
        rotate_left
        focus (intro w hSw; (try dsimp only at hSw); (try have hS1 := hSw.1); (try have hS2 := hSw.2); (try have hS3 := hSw.2.1); (try have hS4 := hSw.2.2); go_simp; try with_reducible rfl)
        (try simp only [Act.put, List.setIfInBounds_toArray, List.set_cons_zero, List.set_cons_succ])
        have hbz : BlkIs _ _ nil4 71 := J3z.out.blk
        unfold nil4 at hbz
        refine wpAnyH_ready (rs := [13]) (by kernel_rfl) (by simp) ?_
        refine AllReadyH.cons (o := _) (by simp only [List.getElem?_toArray, List.getElem?_cons_succ, List.getElem?_cons_zero]; rfl) (fun K hK => ?_) AllReadyH.nil
        go_simp
        refine hK.out _ _ (by (try dsimp only); infer_instance) (fun hHeld => ?_)
        clear hK K
        (try simp only [Act.put, List.setIfInBounds_toArray, List.set_cons_zero, List.set_cons_succ])
        refine wpAnyH_done (by kernel_rfl) ?_ _
        refine NoPanic.normal ?_
        go_wp2_with fail
        go_meet
        exact ⟨_, _, _, rfl, by infer_instance, by infer_instance, by infer_instance, J3z.out.put_line.weak hBs, hB.trans (J3z.out.put_below.mono hBs)⟩
    · go_simp
      refine hK.out _ _ (by (try dsimp only); infer_instance) (fun hHeld => ?_)
      clear hK K
      (try simp only [Act.put, List.setIfInBounds_toArray, List.set_cons_zero, List.set_cons_succ])
      have J0z := Lib.hid (show PlZ W (W.drew.alloc (.cells nil4 71)) W.heap.size _ _ _ from J0.out.alloc)
      refine wpAnyH_ready (rs := [4]) (by kernel_rfl) (by simp) ?_
      refine AllReadyH.cons (o := _) (by simp only [List.getElem?_toArray, List.getElem?_cons_succ, List.getElem?_cons_zero]; rfl) (fun K hK => ?_) AllReadyH.nil
      (refine step_append_line _ (by rfl) _ _ 69 (by rfl) W.heap.size 30 i0 _ 2 16 Try.underlying69 HI.1.out HI.2.1.out HI.2.2.1.out HI.2.2.2.out rfl (by decide) _ _ (0) nr ([]) (hds R) (by rfl) (by rfl) J0z.out.line ((HR.out.keep J0z.out.below).src' (hds_one _)) (by unfold maxLen; omega) (by omega) J0z.out.below.size _ rfl ?_; intro v1 x1 hown1 hgrow1 hat1; have J1z := Lib.hid (J0z.out.append (n' := nr) (xs' := hds R) hown1 hgrow1 hat1 rfl (by omega) (by simp [hds])); clear hown1 hgrow1 hat1; have ha1 : After W x1 := ⟨J1z.out.below⟩; obtain ⟨a1, c1, rfl, _, _⟩ := J1z.out.line.shape)
      refine hK.out _ _ (by (try dsimp only); infer_instance) (fun hHeld => ?_)
      clear hK K
      (try simp only [Act.put, List.setIfInBounds_toArray, List.set_cons_zero, List.set_cons_succ])
      refine wpAnyH_ready (rs := [7]) (by kernel_rfl) (by simp) ?_
      refine AllReadyH.cons (o := _) (by simp only [List.getElem?_toArray, List.getElem?_cons_succ, List.getElem?_cons_zero]; rfl) (fun K hK => ?_) AllReadyH.nil
      (refine step_append_line _ (by rfl) _ _ 69 (by rfl) W.heap.size 30 i0 _ 2 16 Try.underlying69 HI.1.out HI.2.1.out HI.2.2.1.out HI.2.2.2.out rfl (by decide) _ _ (nr) nw (hds R) (hds Wr) (by rfl) (by rfl) J1z.out.line ((HW.out.keep J1z.out.below).src' (hds_one _)) (by unfold maxLen; omega) (by omega) J1z.out.below.size _ rfl ?_; intro v2 x2 hown2 hgrow2 hat2; have J2z := Lib.hid (J1z.out.append (n' := nr + nw) (xs' := hds (R ++ Wr)) hown2 hgrow2 hat2 rfl (by omega) (by simp [hds])); clear hown2 hgrow2 hat2; have ha2 : After W x2 := ⟨J2z.out.below⟩; obtain ⟨a2, c2, rfl, _, _⟩ := J2z.out.line.shape)
      refine hK.out _ _ (by (try dsimp only); infer_instance) (fun hHeld => ?_)
      clear hK K
      (try simp only [Act.put, List.setIfInBounds_toArray, List.set_cons_zero, List.set_cons_succ])
      refine wpAnyH_ready (rs := [10]) (by kernel_rfl) (by simp) ?_
      refine AllReadyH.cons (o := _) (by simp only [List.getElem?_toArray, List.getElem?_cons_succ, List.getElem?_cons_zero]; rfl) (fun K hK => ?_) AllReadyH.nil
      (refine step_append_line _ (by rfl) _ _ 69 (by rfl) W.heap.size 30 i0 _ 2 16 Try.underlying69 HI.1.out HI.2.1.out HI.2.2.1.out HI.2.2.2.out rfl (by decide) _ _ (nr + nw) nh (hds (R ++ Wr)) (hds H) (by rfl) (by rfl) J2z.out.line ((HH.out.keep J2z.out.below).src' (hds_one _)) (by unfold maxLen; omega) (by omega) J2z.out.below.size _ rfl ?_; intro v3 x3 hown3 hgrow3 hat3; have J3z := Lib.hid (J2z.out.append (n' := nr + nw + nh) (xs' := hds (R ++ Wr ++ H)) hown3 hgrow3 hat3 rfl (by omega) (by simp [hds])); clear hown3 hgrow3 hat3; have ha3 : After W x3 := ⟨J3z.out.below⟩; obtain ⟨a3, c3, rfl, _, _⟩ := J3z.out.line.shape)
      refine hK.out _ _ (by (try dsimp only); infer_instance) (fun hHeld => ?_)
      clear hK K
      (try simp only [Act.put, List.setIfInBounds_toArray, List.set_cons_zero, List.set_cons_succ])
      refine wpAnyH_take (i := 11) (oi := _) (v := ?_) (by simp only [List.getElem?_toArray, List.getElem?_cons_succ, List.getElem?_cons_zero]; rfl) (by kernel_rfl) (by kernel_rfl) (by kernel_rfl) (fun _ _ _ h => h) (Or.inl ⟨by rfl, ?_⟩) (by assumption) ?_
      rotate_left
      focus (intro w hSw; (try dsimp only at hSw); (try have hS1 := hSw.1); (try have hS2 := hSw.2); (try have hS3 := hSw.2.1); (try have hS4 := hSw.2.2); go_simp; try with_reducible rfl)
      (try simp only [Act.put, List.setIfInBounds_toArray, List.set_cons_zero, List.set_cons_succ])
      have hbz : BlkIs _ _ nil4 71 := J3z.out.blk
      unfold nil4 at hbz
      refine wpAnyH_ready (rs := [13]) (by kernel_rfl) (by simp) ?_
      refine AllReadyH.cons (o := _) (by simp only [List.getElem?_toArray, List.getElem?_cons_succ, List.getElem?_cons_zero]; rfl) (fun K hK => ?_) AllReadyH.nil
      go_simp
      refine hK.out _ _ (by (try dsimp only); infer_instance) (fun hHeld => ?_)
      clear hK K
      (try simp only [Act.put, List.setIfInBounds_toArray, List.set_cons_zero, List.set_cons_succ])
      refine wpAnyH_done (by kernel_rfl) ?_ _
      refine NoPanic.normal ?_
      go_wp2_with fail
      go_meet
      exact ⟨_, _, _, rfl, by infer_instance, by infer_instance, by infer_instance, J3z.out.put_line.weak hBs, hB.trans (J3z.out.put_below.mono hBs)⟩
  case rest =>
    obtain ⟨b4, a5, c5, rfl, e4, e1, e3, hL, hbx⟩ := hcut
    obtain ⟨N, hN⟩ : ∃ N, N = nr + nw + nh := ⟨_, rfl⟩
    rw [← hN] at e4 hL
    have hlen := HSN.out.len
    rw [← hN] at hlen
    have hNb : N ≤ 3145728 := by omega
    have hT : nh + nr + nw = (H ++ R ++ Wr).length := HSN.out.turned.len
    have p1 := (turn3 R Wr H).symm
    have kcs := fun (w' : World) (k : Below w.heap.size w w') => countedS (HSN.out.keep k)
    have khs := fun (w' : World) (k : Below w.heap.size w w') => holdsS (HSN.out.keep k)
    have kls := fun (w' : World) (k : Below w.heap.size w w') => leaksS (HSN.out.keep k)
    have kct := fun (w' : World) (k : Below w.heap.size w w') => countedS (HSN.out.keep k).turned
    have kht := fun (w' : World) (k : Below w.heap.size w w') => holdsS (HSN.out.keep k).turned
    have zu := fun (w' : World) (k : Below w.heap.size w w') (l : Line w' w.heap.size 2 (.slice a5 N c5) N (hds (R ++ Wr ++ H))) =>
      (⟨(HSN.out.keep k).s, Has.of_nil, Has.of_line l, Has.of_nil, HSN.out.ls, rfl, hlen.symm, rfl, hbn, by decide, by omega, by decide⟩ : SnapW w' (.slice sa n sc) (.slice none 0 0) (.slice a5 N c5) (.slice none 0 0) n 0 N 0 S [] (R ++ Wr ++ H) [])
    have kcu := fun (w' : World) (k : Below w.heap.size w w') (l : Line w' w.heap.size 2 (.slice a5 N c5) N (hds (R ++ Wr ++ H))) => countedS (zu w' k l)
    have khu := fun (w' : World) (k : Below w.heap.size w w') (l : Line w' w.heap.size 2 (.slice a5 N c5) N (hds (R ++ Wr ++ H))) => holdsS (zu w' k l)
    have klu := fun (w' : World) (k : Below w.heap.size w w') (l : Line w' w.heap.size 2 (.slice a5 N c5) N (hds (R ++ Wr ++ H))) => leaksS (zu w' k l)
    rw [hT, cntL_perm S p1, ← hlen] at kct
    rw [holdsB_perm S p1] at kht
    rw [← hN] at kcs
    simp only [List.nil_append, List.append_nil, Nat.zero_add, Nat.add_zero] at kcu khu klu
    have hcl := cntL_len S (R ++ Wr ++ H) n N
    have hll := leaksL_len S (R ++ Wr ++ H) n n
    unfold snapV at kcs khs kls kct kht kcu khu klu
    clear zu hT p1 hlen hN
    generalize cntL S (R ++ Wr ++ H) n N = C at kcs kct kcu hcl
    generalize holdsB S (R ++ Wr ++ H) n = B at khs kht khu
    generalize leaksL S (R ++ Wr ++ H) n n = K at kls klu hll
    have KCS := Lib.hid kcs
    have KHS := Lib.hid khs
    have KLS := Lib.hid kls
    have KCT := Lib.hid kct
    have KHT := Lib.hid kht
    have KCU := Lib.hid kcu
    have KHU := Lib.hid khu
    have KLU := Lib.hid klu
    have HL := Lib.hid hL
    have HCL := Lib.hid hcl
    clear kcs khs kls kct kht kcu khu klu hL hcl HSN
    go_wp2_with fail
    refine wp_region_noPanic ?_
    refine wp_region_held_drew (S := (fun w' => BlkIs w' w.heap.size #[.slice sa n sc, .slice ra nr rc, .slice wa nw wq, .slice ha nh hc] 71 ∧ BlkIs w' w1.heap.size #[.slice sa n sc, .slice ha nh hc, .slice ra nr rc, .slice wa nw wq] 71 ∧ BlkIs w' b4 #[.slice sa n sc, .slice none 0 0, .slice a5 N c5, .slice none 0 0] 71)) (by kernel_rfl) (by (try dsimp only); exact ⟨by infer_instance, by infer_instance, by infer_instance⟩) (fun hHeld => ?_)
    refine wpAnyH_take (i := 0) (oi := _) (v := ?_) (by simp only [List.getElem?_toArray, List.getElem?_cons_zero]; rfl) (by kernel_rfl) (by kernel_rfl) (by kernel_rfl) (fun _ _ _ h => h) (Or.inl ⟨by rfl, ?_⟩) (by assumption) ?_
    rotate_left
    focus (intro w hSw; (try dsimp only at hSw); (try have hS1 := hSw.1); (try have hS2 := hSw.2); (try have hS3 := hSw.2.1); (try have hS4 := hSw.2.2); go_simp; try with_reducible rfl)
    (try simp only [Act.put, List.setIfInBounds_toArray, List.set_cons_zero, List.set_cons_succ])
    refine wpAnyH_take (i := 2) (oi := _) (v := ?_) (by simp only [List.getElem?_toArray, List.getElem?_cons_succ, List.getElem?_cons_zero]; rfl) (by kernel_rfl) (by kernel_rfl) (by kernel_rfl) (fun _ _ _ h => h) (Or.inl ⟨by rfl, ?_⟩) (by assumption) ?_
    rotate_left
    focus (intro w hSw; (try dsimp only at hSw); (try have hS1 := hSw.1); (try have hS2 := hSw.2); (try have hS3 := hSw.2.1); (try have hS4 := hSw.2.2); go_simp; try with_reducible rfl)
    (try simp only [Act.put, List.setIfInBounds_toArray, List.set_cons_zero, List.set_cons_succ])
    have B0 : RowKit.Below w.heap.size w _ := Below.drew hbx
    have HL := Lib.hid (HL.out.keep (Below.drew (Below.refl _ _)))
    refine wpAnyH_ready (rs := [1]) (by kernel_rfl) (by simp) ?_
    refine AllReadyH.cons (o := _) (by simp only [List.getElem?_toArray, List.getElem?_cons_succ, List.getElem?_cons_zero]; rfl) (fun K hK => ?_) AllReadyH.nil
    go_simp
    (refine (KCS.out _ B0).mono ?_; rintro e y1 ⟨u1, rfl, hL1, hb1⟩; have hay1 : After _ y1 := ⟨hb1⟩; have B1 : RowKit.Below w.heap.size w y1 := B0.trans (hb1.mono B0.size); have HL := Lib.hid (HL.out.keep hb1); obtain ⟨p1, q1, rfl, _, _⟩ := hL1.shape; have X1 := Lib.hid hL1; clear hL1)
    try go_wp2_with fail
    refine hK.out _ _ (by (try dsimp only); exact ⟨by infer_instance, by infer_instance, by infer_instance⟩) (fun hHeld => ?_)
    clear hK K
    (try simp only [Act.put, List.setIfInBounds_toArray, List.set_cons_zero, List.set_cons_succ])
    refine wpAnyH_ready (rs := [3]) (by kernel_rfl) (by simp) ?_
    refine AllReadyH.cons (o := _) (by simp only [List.getElem?_toArray, List.getElem?_cons_succ, List.getElem?_cons_zero]; rfl) (fun K hK => ?_) AllReadyH.nil
    go_simp
    (refine (KCT.out _ B1).mono ?_; rintro e y2 ⟨u2, rfl, hL2, hb2⟩; have hay2 : After _ y2 := ⟨hb2⟩; have B2 : RowKit.Below w.heap.size w y2 := B1.trans (hb2.mono B1.size); have HL := Lib.hid (HL.out.keep hb2); obtain ⟨p2, q2, rfl, _, _⟩ := hL2.shape; have X1 := Lib.hid (X1.out.keep hb2); have X2 := Lib.hid hL2; clear hL2)
    try go_wp2_with fail
    refine hK.out _ _ (by (try dsimp only); exact ⟨by infer_instance, by infer_instance, by infer_instance⟩) (fun hHeld => ?_)
    clear hK K
    (try simp only [Act.put, List.setIfInBounds_toArray, List.set_cons_zero, List.set_cons_succ])
    refine wpAnyH_ready (rs := [4]) (by kernel_rfl) (by simp) ?_
    refine AllReadyH.cons (o := _) (by simp only [List.getElem?_toArray, List.getElem?_cons_succ, List.getElem?_cons_zero]; rfl) (fun K hK => ?_) AllReadyH.nil
    go_simp
    (refine (sameI (Has.of_line X1.out) (Has.of_line X2.out) HCL.out (by omega)).mono ?_; rintro e y3 ⟨rfl, hb3⟩; have hay3 : After _ y3 := ⟨hb3⟩; have B3 : RowKit.Below w.heap.size w y3 := B2.trans (hb3.mono B2.size); have HL := Lib.hid (HL.out.keep hb3); clear X1 X2)
    try go_wp2_with fail
    refine hK.out _ _ (by (try dsimp only); exact ⟨by infer_instance, by infer_instance, by infer_instance⟩) (fun hHeld => ?_)
    clear hK K
    (try simp only [Act.put, List.setIfInBounds_toArray, List.set_cons_zero, List.set_cons_succ])
    refine wpAnyH_take (i := 5) (oi := _) (v := ?_) (by simp only [List.getElem?_toArray, List.getElem?_cons_succ, List.getElem?_cons_zero]; rfl) (by kernel_rfl) (by kernel_rfl) (by kernel_rfl) (fun _ _ _ h => h) (Or.inl ⟨by rfl, ?_⟩) (by assumption) ?_
    rotate_left
    focus (intro w hSw; (try dsimp only at hSw); (try have hS1 := hSw.1); (try have hS2 := hSw.2); (try have hS3 := hSw.2.1); (try have hS4 := hSw.2.2); go_simp; try with_reducible rfl)
    (try simp only [Act.put, List.setIfInBounds_toArray, List.set_cons_zero, List.set_cons_succ])
    refine wpAnyH_take (i := 6) (oi := _) (v := ?_) (by simp only [List.getElem?_toArray, List.getElem?_cons_succ, List.getElem?_cons_zero]; rfl) (by kernel_rfl) (by kernel_rfl) (by kernel_rfl) (fun _ _ _ h => h) (Or.inl ⟨by rfl, ?_⟩) (by assumption) ?_
    rotate_left
    focus (intro w hSw; (try dsimp only at hSw); (try have hS1 := hSw.1); (try have hS2 := hSw.2); (try have hS3 := hSw.2.1); (try have hS4 := hSw.2.2); go_simp; try with_reducible rfl)
    (try simp only [Act.put, List.setIfInBounds_toArray, List.set_cons_zero, List.set_cons_succ])
    refine wpAnyH_take (i := 8) (oi := _) (v := ?_) (by simp only [List.getElem?_toArray, List.getElem?_cons_succ, List.getElem?_cons_zero]; rfl) (by kernel_rfl) (by kernel_rfl) (by kernel_rfl) (fun _ _ _ h => h) (Or.inl ⟨by rfl, ?_⟩) (by assumption) ?_
    rotate_left
    focus (intro w hSw; (try dsimp only at hSw); (try have hS1 := hSw.1); (try have hS2 := hSw.2); (try have hS3 := hSw.2.1); (try have hS4 := hSw.2.2); go_simp; try with_reducible rfl)
    (try simp only [Act.put, List.setIfInBounds_toArray, List.set_cons_zero, List.set_cons_succ])
    refine wpAnyH_ready (rs := [7]) (by kernel_rfl) (by simp) ?_
    refine AllReadyH.cons (o := _) (by simp only [List.getElem?_toArray, List.getElem?_cons_succ, List.getElem?_cons_zero]; rfl) (fun K hK => ?_) AllReadyH.nil
    go_simp
    (refine (KCS.out _ B3).mono ?_; rintro e y4 ⟨u4, rfl, hL4, hb4⟩; have hay4 : After _ y4 := ⟨hb4⟩; have B4 : RowKit.Below w.heap.size w y4 := B3.trans (hb4.mono B3.size); have HL := Lib.hid (HL.out.keep hb4); obtain ⟨p4, q4, rfl, _, _⟩ := hL4.shape; have X4 := Lib.hid hL4; clear hL4)
    try go_wp2_with fail
    refine hK.out _ _ (by (try dsimp only); exact ⟨by infer_instance, by infer_instance, by infer_instance⟩) (fun hHeld => ?_)
    clear hK K
    (try simp only [Act.put, List.setIfInBounds_toArray, List.set_cons_zero, List.set_cons_succ])
    refine wpAnyH_ready (rs := [9]) (by kernel_rfl) (by simp) ?_
    refine AllReadyH.cons (o := _) (by simp only [List.getElem?_toArray, List.getElem?_cons_succ, List.getElem?_cons_zero]; rfl) (fun K hK => ?_) AllReadyH.nil
    go_simp
    (refine (KCU.out _ B4 HL.out).mono ?_; rintro e y5 ⟨u5, rfl, hL5, hb5⟩; have hay5 : After _ y5 := ⟨hb5⟩; have B5 : RowKit.Below w.heap.size w y5 := B4.trans (hb5.mono B4.size); have HL := Lib.hid (HL.out.keep hb5); obtain ⟨p5, q5, rfl, _, _⟩ := hL5.shape; have X4 := Lib.hid (X4.out.keep hb5); have X5 := Lib.hid hL5; clear hL5)
    try go_wp2_with fail
    refine hK.out _ _ (by (try dsimp only); exact ⟨by infer_instance, by infer_instance, by infer_instance⟩) (fun hHeld => ?_)
    clear hK K
    (try simp only [Act.put, List.setIfInBounds_toArray, List.set_cons_zero, List.set_cons_succ])
    refine wpAnyH_ready (rs := [10]) (by kernel_rfl) (by simp) ?_
    refine AllReadyH.cons (o := _) (by simp only [List.getElem?_toArray, List.getElem?_cons_succ, List.getElem?_cons_zero]; rfl) (fun K hK => ?_) AllReadyH.nil
    go_simp
    (refine (sameI (Has.of_line X4.out) (Has.of_line X5.out) HCL.out (by omega)).mono ?_; rintro e y6 ⟨rfl, hb6⟩; have hay6 : After _ y6 := ⟨hb6⟩; have B6 : RowKit.Below w.heap.size w y6 := B5.trans (hb6.mono B5.size); have HL := Lib.hid (HL.out.keep hb6); clear X4 X5)
    try go_wp2_with fail
    refine hK.out _ _ (by (try dsimp only); exact ⟨by infer_instance, by infer_instance, by infer_instance⟩) (fun hHeld => ?_)
    clear hK K
    (try simp only [Act.put, List.setIfInBounds_toArray, List.set_cons_zero, List.set_cons_succ])
    refine wpAnyH_take (i := 11) (oi := _) (v := ?_) (by simp only [List.getElem?_toArray, List.getElem?_cons_succ, List.getElem?_cons_zero]; rfl) (by kernel_rfl) (by kernel_rfl) (by kernel_rfl) (fun _ _ _ h => h) (Or.inl ⟨by rfl, ?_⟩) (by assumption) ?_
    rotate_left
    focus (intro w hSw; (try dsimp only at hSw); (try have hS1 := hSw.1); (try have hS2 := hSw.2); (try have hS3 := hSw.2.1); (try have hS4 := hSw.2.2); go_simp; try with_reducible rfl)
    (try simp only [Act.put, List.setIfInBounds_toArray, List.set_cons_zero, List.set_cons_succ])
    refine wpAnyH_take (i := 12) (oi := _) (v := ?_) (by simp only [List.getElem?_toArray, List.getElem?_cons_succ, List.getElem?_cons_zero]; rfl) (by kernel_rfl) (by kernel_rfl) (by kernel_rfl) (fun _ _ _ h => h) (Or.inl ⟨by rfl, ?_⟩) (by assumption) ?_
    rotate_left
    focus (intro w hSw; (try dsimp only at hSw); (try have hS1 := hSw.1); (try have hS2 := hSw.2); (try have hS3 := hSw.2.1); (try have hS4 := hSw.2.2); go_simp; try with_reducible rfl)
    (try simp only [Act.put, List.setIfInBounds_toArray, List.set_cons_zero, List.set_cons_succ])
    refine wpAnyH_take (i := 13) (oi := _) (v := ?_) (by simp only [List.getElem?_toArray, List.getElem?_cons_succ, List.getElem?_cons_zero]; rfl) (by kernel_rfl) (by kernel_rfl) (by kernel_rfl) (fun _ _ _ h => h) (Or.inl ⟨by rfl, ?_⟩) (by assumption) ?_
    rotate_left
    focus (intro w hSw; (try dsimp only at hSw); (try have hS1 := hSw.1); (try have hS2 := hSw.2); (try have hS3 := hSw.2.1); (try have hS4 := hSw.2.2); go_simp; try with_reducible rfl)
    (try simp only [Act.put, List.setIfInBounds_toArray, List.set_cons_zero, List.set_cons_succ])
    refine wpAnyH_take (i := 15) (oi := _) (v := ?_) (by simp only [List.getElem?_toArray, List.getElem?_cons_succ, List.getElem?_cons_zero]; rfl) (by kernel_rfl) (by kernel_rfl) (by kernel_rfl) (fun _ _ _ h => h) (Or.inl ⟨by rfl, ?_⟩) (by assumption) ?_
    rotate_left
    focus (intro w hSw; (try dsimp only at hSw); (try have hS1 := hSw.1); (try have hS2 := hSw.2); (try have hS3 := hSw.2.1); (try have hS4 := hSw.2.2); go_simp; try with_reducible rfl)
    (try simp only [Act.put, List.setIfInBounds_toArray, List.set_cons_zero, List.set_cons_succ])
    refine wpAnyH_ready (rs := [14]) (by kernel_rfl) (by simp) ?_
    refine AllReadyH.cons (o := _) (by simp only [List.getElem?_toArray, List.getElem?_cons_succ, List.getElem?_cons_zero]; rfl) (fun K hK => ?_) AllReadyH.nil
    go_simp
    (refine (KHS.out _ B6).mono ?_; rintro e y7 ⟨rfl, hb7⟩; have hay7 : After _ y7 := ⟨hb7⟩; have B7 : RowKit.Below w.heap.size w y7 := B6.trans (hb7.mono B6.size); have HL := Lib.hid (HL.out.keep hb7))
    try go_wp2_with fail
    refine hK.out _ _ (by (try dsimp only); exact ⟨by infer_instance, by infer_instance, by infer_instance⟩) (fun hHeld => ?_)
    clear hK K
    (try simp only [Act.put, List.setIfInBounds_toArray, List.set_cons_zero, List.set_cons_succ])
    refine wpAnyH_ready (rs := [16]) (by kernel_rfl) (by simp) ?_
    refine AllReadyH.cons (o := _) (by simp only [List.getElem?_toArray, List.getElem?_cons_succ, List.getElem?_cons_zero]; rfl) (fun K hK => ?_) AllReadyH.nil
    go_simp
    (refine (KHT.out _ B7).mono ?_; rintro e y8 ⟨rfl, hb8⟩; have hay8 : After _ y8 := ⟨hb8⟩; have B8 : RowKit.Below w.heap.size w y8 := B7.trans (hb8.mono B7.size); have HL := Lib.hid (HL.out.keep hb8))
    try go_wp2_with fail
    refine hK.out _ _ (by (try dsimp only); exact ⟨by infer_instance, by infer_instance, by infer_instance⟩) (fun hHeld => ?_)
    clear hK K
    (try simp only [Act.put, List.setIfInBounds_toArray, List.set_cons_zero, List.set_cons_succ])
    refine wpAnyH_take (i := 17) (oi := _) (v := ?_) (by simp only [List.getElem?_toArray, List.getElem?_cons_succ, List.getElem?_cons_zero]; rfl) (by kernel_rfl) (by kernel_rfl) (by kernel_rfl) (fun _ _ _ h => h) (Or.inl ⟨by rfl, ?_⟩) (by assumption) ?_
    rotate_left
    focus (intro w hSw; (try dsimp only at hSw); (try have hS1 := hSw.1); (try have hS2 := hSw.2); (try have hS3 := hSw.2.1); (try have hS4 := hSw.2.2); go_simp; try with_reducible rfl)
    (try simp only [Act.put, List.setIfInBounds_toArray, List.set_cons_zero, List.set_cons_succ])
    refine wpAnyH_take (i := 18) (oi := _) (v := ?_) (by simp only [List.getElem?_toArray, List.getElem?_cons_succ, List.getElem?_cons_zero]; rfl) (by kernel_rfl) (by kernel_rfl) (by kernel_rfl) (fun _ _ _ h => h) (Or.inl ⟨by rfl, ?_⟩) (by assumption) ?_
    rotate_left
    focus (intro w hSw; (try dsimp only at hSw); (try have hS1 := hSw.1); (try have hS2 := hSw.2); (try have hS3 := hSw.2.1); (try have hS4 := hSw.2.2); go_simp; try with_reducible rfl)
    (try simp only [Act.put, List.setIfInBounds_toArray, List.set_cons_zero, List.set_cons_succ])
    refine wpAnyH_take (i := 19) (oi := _) (v := ?_) (by simp only [List.getElem?_toArray, List.getElem?_cons_succ, List.getElem?_cons_zero]; rfl) (by kernel_rfl) (by kernel_rfl) (by kernel_rfl) (fun _ _ _ h => h) (Or.inl ⟨by rfl, ?_⟩) (by assumption) ?_
    rotate_left
    focus (intro w hSw; (try dsimp only at hSw); (try have hS1 := hSw.1); (try have hS2 := hSw.2); (try have hS3 := hSw.2.1); (try have hS4 := hSw.2.2); go_simp; try with_reducible rfl)
    (try simp only [Act.put, List.setIfInBounds_toArray, List.set_cons_zero, List.set_cons_succ])
    refine wpAnyH_take (i := 20) (oi := _) (v := ?_) (by simp only [List.getElem?_toArray, List.getElem?_cons_succ, List.getElem?_cons_zero]; rfl) (by kernel_rfl) (by kernel_rfl) (by kernel_rfl) (fun _ _ _ h => h) (Or.inl ⟨by rfl, ?_⟩) (by assumption) ?_
    rotate_left
    focus (intro w hSw; (try dsimp only at hSw); (try have hS1 := hSw.1); (try have hS2 := hSw.2); (try have hS3 := hSw.2.1); (try have hS4 := hSw.2.2); go_simp; try with_reducible rfl)
    (try simp only [Act.put, List.setIfInBounds_toArray, List.set_cons_zero, List.set_cons_succ])
    refine wpAnyH_take (i := 22) (oi := _) (v := ?_) (by simp only [List.getElem?_toArray, List.getElem?_cons_succ, List.getElem?_cons_zero]; rfl) (by kernel_rfl) (by kernel_rfl) (by kernel_rfl) (fun _ _ _ h => h) (Or.inl ⟨by rfl, ?_⟩) (by assumption) ?_
    rotate_left
    focus (intro w hSw; (try dsimp only at hSw); (try have hS1 := hSw.1); (try have hS2 := hSw.2); (try have hS3 := hSw.2.1); (try have hS4 := hSw.2.2); go_simp; try with_reducible rfl)
    (try simp only [Act.put, List.setIfInBounds_toArray, List.set_cons_zero, List.set_cons_succ])
    refine wpAnyH_ready (rs := [21]) (by kernel_rfl) (by simp) ?_
    refine AllReadyH.cons (o := _) (by simp only [List.getElem?_toArray, List.getElem?_cons_succ, List.getElem?_cons_zero]; rfl) (fun K hK => ?_) AllReadyH.nil
    go_simp
    (refine (KHS.out _ B8).mono ?_; rintro e y9 ⟨rfl, hb9⟩; have hay9 : After _ y9 := ⟨hb9⟩; have B9 : RowKit.Below w.heap.size w y9 := B8.trans (hb9.mono B8.size); have HL := Lib.hid (HL.out.keep hb9))
    try go_wp2_with fail
    refine hK.out _ _ (by (try dsimp only); exact ⟨by infer_instance, by infer_instance, by infer_instance⟩) (fun hHeld => ?_)
    clear hK K
    (try simp only [Act.put, List.setIfInBounds_toArray, List.set_cons_zero, List.set_cons_succ])
    refine wpAnyH_ready (rs := [23]) (by kernel_rfl) (by simp) ?_
    refine AllReadyH.cons (o := _) (by simp only [List.getElem?_toArray, List.getElem?_cons_succ, List.getElem?_cons_zero]; rfl) (fun K hK => ?_) AllReadyH.nil
    go_simp
    (refine (KHU.out _ B9 HL.out).mono ?_; rintro e y10 ⟨rfl, hb10⟩; have hay10 : After _ y10 := ⟨hb10⟩; have B10 : RowKit.Below w.heap.size w y10 := B9.trans (hb10.mono B9.size); have HL := Lib.hid (HL.out.keep hb10))
    try go_wp2_with fail
    refine hK.out _ _ (by (try dsimp only); exact ⟨by infer_instance, by infer_instance, by infer_instance⟩) (fun hHeld => ?_)
    clear hK K
    (try simp only [Act.put, List.setIfInBounds_toArray, List.set_cons_zero, List.set_cons_succ])
    refine wpAnyH_take (i := 24) (oi := _) (v := ?_) (by simp only [List.getElem?_toArray, List.getElem?_cons_succ, List.getElem?_cons_zero]; rfl) (by kernel_rfl) (by kernel_rfl) (by kernel_rfl) (fun _ _ _ h => h) (Or.inl ⟨by rfl, ?_⟩) (by assumption) ?_
    rotate_left
    focus (intro w hSw; (try dsimp only at hSw); (try have hS1 := hSw.1); (try have hS2 := hSw.2); (try have hS3 := hSw.2.1); (try have hS4 := hSw.2.2); go_simp; try with_reducible rfl)
    (try simp only [Act.put, List.setIfInBounds_toArray, List.set_cons_zero, List.set_cons_succ])
    refine wpAnyH_take (i := 25) (oi := _) (v := ?_) (by simp only [List.getElem?_toArray, List.getElem?_cons_succ, List.getElem?_cons_zero]; rfl) (by kernel_rfl) (by kernel_rfl) (by kernel_rfl) (fun _ _ _ h => h) (Or.inl ⟨by rfl, ?_⟩) (by assumption) ?_
    rotate_left
    focus (intro w hSw; (try dsimp only at hSw); (try have hS1 := hSw.1); (try have hS2 := hSw.2); (try have hS3 := hSw.2.1); (try have hS4 := hSw.2.2); go_simp; try with_reducible rfl)
    (try simp only [Act.put, List.setIfInBounds_toArray, List.set_cons_zero, List.set_cons_succ])
    refine wpAnyH_take (i := 26) (oi := _) (v := ?_) (by simp only [List.getElem?_toArray, List.getElem?_cons_succ, List.getElem?_cons_zero]; rfl) (by kernel_rfl) (by kernel_rfl) (by kernel_rfl) (fun _ _ _ h => h) (Or.inl ⟨by rfl, ?_⟩) (by assumption) ?_
    rotate_left
    focus (intro w hSw; (try dsimp only at hSw); (try have hS1 := hSw.1); (try have hS2 := hSw.2); (try have hS3 := hSw.2.1); (try have hS4 := hSw.2.2); go_simp; try with_reducible rfl)
    (try simp only [Act.put, List.setIfInBounds_toArray, List.set_cons_zero, List.set_cons_succ])
    refine wpAnyH_take (i := 27) (oi := _) (v := ?_) (by simp only [List.getElem?_toArray, List.getElem?_cons_succ, List.getElem?_cons_zero]; rfl) (by kernel_rfl) (by kernel_rfl) (by kernel_rfl) (fun _ _ _ h => h) (Or.inl ⟨by rfl, ?_⟩) (by assumption) ?_
    rotate_left
    focus (intro w hSw; (try dsimp only at hSw); (try have hS1 := hSw.1); (try have hS2 := hSw.2); (try have hS3 := hSw.2.1); (try have hS4 := hSw.2.2); go_simp; try with_reducible rfl)
    (try simp only [Act.put, List.setIfInBounds_toArray, List.set_cons_zero, List.set_cons_succ])
    refine wpAnyH_take (i := 29) (oi := _) (v := ?_) (by simp only [List.getElem?_toArray, List.getElem?_cons_succ, List.getElem?_cons_zero]; rfl) (by kernel_rfl) (by kernel_rfl) (by kernel_rfl) (fun _ _ _ h => h) (Or.inl ⟨by rfl, ?_⟩) (by assumption) ?_
    rotate_left
    focus (intro w hSw; (try dsimp only at hSw); (try have hS1 := hSw.1); (try have hS2 := hSw.2); (try have hS3 := hSw.2.1); (try have hS4 := hSw.2.2); go_simp; try with_reducible rfl)
    (try simp only [Act.put, List.setIfInBounds_toArray, List.set_cons_zero, List.set_cons_succ])
    refine wpAnyH_ready (rs := [28]) (by kernel_rfl) (by simp) ?_
    refine AllReadyH.cons (o := _) (by simp only [List.getElem?_toArray, List.getElem?_cons_succ, List.getElem?_cons_zero]; rfl) (fun K hK => ?_) AllReadyH.nil
    go_simp
    (refine (KLS.out _ B10).mono ?_; rintro e y11 ⟨u11, rfl, hL11, hb11⟩; have hay11 : After _ y11 := ⟨hb11⟩; have B11 : RowKit.Below w.heap.size w y11 := B10.trans (hb11.mono B10.size); have HL := Lib.hid (HL.out.keep hb11); obtain ⟨p11, q11, rfl, _, _⟩ := hL11.shape; have X11 := Lib.hid hL11; clear hL11)
    try go_wp2_with fail
    refine hK.out _ _ (by (try dsimp only); exact ⟨by infer_instance, by infer_instance, by infer_instance⟩) (fun hHeld => ?_)
    clear hK K
    (try simp only [Act.put, List.setIfInBounds_toArray, List.set_cons_zero, List.set_cons_succ])
    refine wpAnyH_ready (rs := [30]) (by kernel_rfl) (by simp) ?_
    refine AllReadyH.cons (o := _) (by simp only [List.getElem?_toArray, List.getElem?_cons_succ, List.getElem?_cons_zero]; rfl) (fun K hK => ?_) AllReadyH.nil
    go_simp
    (refine (KLU.out _ B11 HL.out).mono ?_; rintro e y12 ⟨u12, rfl, hL12, hb12⟩; have hay12 : After _ y12 := ⟨hb12⟩; have B12 : RowKit.Below w.heap.size w y12 := B11.trans (hb12.mono B11.size); have HL := Lib.hid (HL.out.keep hb12); obtain ⟨p12, q12, rfl, _, _⟩ := hL12.shape; have X11 := Lib.hid (X11.out.keep hb12); have X12 := Lib.hid hL12; clear hL12)
    try go_wp2_with fail
    refine hK.out _ _ (by (try dsimp only); exact ⟨by infer_instance, by infer_instance, by infer_instance⟩) (fun hHeld => ?_)
    clear hK K
    (try simp only [Act.put, List.setIfInBounds_toArray, List.set_cons_zero, List.set_cons_succ])
    refine wpAnyH_ready (rs := [31]) (by kernel_rfl) (by simp) ?_
    refine AllReadyH.cons (o := _) (by simp only [List.getElem?_toArray, List.getElem?_cons_succ, List.getElem?_cons_zero]; rfl) (fun K hK => ?_) AllReadyH.nil
    go_simp
    (refine (sameI (Has.of_line X11.out) (Has.of_line X12.out) rfl (by omega)).mono ?_; rintro e y13 ⟨rfl, hb13⟩; have hay13 : After _ y13 := ⟨hb13⟩; have B13 : RowKit.Below w.heap.size w y13 := B12.trans (hb13.mono B12.size); have HL := Lib.hid (HL.out.keep hb13); clear X11 X12)
    try go_wp2_with fail
    refine hK.out _ _ (by (try dsimp only); exact ⟨by infer_instance, by infer_instance, by infer_instance⟩) (fun hHeld => ?_)
    clear hK K
    (try simp only [Act.put, List.setIfInBounds_toArray, List.set_cons_zero, List.set_cons_succ])
    refine wpAnyH_take (i := 32) (oi := _) (v := ?_) (by simp only [List.getElem?_toArray, List.getElem?_cons_succ, List.getElem?_cons_zero]; rfl) (by kernel_rfl) (by kernel_rfl) (by kernel_rfl) (fun _ _ _ h => h) (Or.inl ⟨by rfl, ?_⟩) (by assumption) ?_
    rotate_left
    focus (intro w hSw; (try dsimp only at hSw); (try have hS1 := hSw.1); (try have hS2 := hSw.2); (try have hS3 := hSw.2.1); (try have hS4 := hSw.2.2); go_simp; try with_reducible rfl)
    (try simp only [Act.put, List.setIfInBounds_toArray, List.set_cons_zero, List.set_cons_succ])
    refine wpAnyH_ready (rs := [33]) (by kernel_rfl) (by simp) ?_
    refine AllReadyH.cons (o := _) (by simp only [List.getElem?_toArray, List.getElem?_cons_succ, List.getElem?_cons_zero]; rfl) (fun K hK => ?_) AllReadyH.nil
    go_simp
    refine hK.out _ _ (by (try dsimp only); exact ⟨by infer_instance, by infer_instance, by infer_instance⟩) (fun hHeld => ?_)
    clear hK K
    (try simp only [Act.put, List.setIfInBounds_toArray, List.set_cons_zero, List.set_cons_succ])
    refine wpAnyH_done (by kernel_rfl) ?_ _
    refine NoPanic.normal ?_
    go_wp2_with fail
    refine ret_any ⟨_, by simp [results, Try.results13, go_sem, *]; rfl, ?_⟩ rfl
    exact gives_of rfl B13
end Go.Proofs.Ytjlclpdjblicjaa
