/-
  The law AuditBuilt as a walk. No condition but that the arguments fit their types.
-/
import Derived.Test.YtjlclpdjblicjaaAuditBuiltK
import Derived.Deep.CutBlock
import Derived.Deep.DeepCutAuto
namespace Go.Proofs.Ytjlclpdjblicjaa
open Go.RowKit Go.Sort Go.BigFrame
set_option linter.unusedVariables false
attribute [local go_sem ↓] Go.wp_at_zero Go.wp_at_succ
set_option maxRecDepth 100000 in
set_option maxHeartbeats 8000000 in
theorem auditBuilt_ok (v0 v1 v2 v3 : Value) (w : World) (h0 : Arg Try.prog w 80 v0) (h1 : Arg Try.prog w 75 v1) (h2 : Arg Try.prog w 3 v2) (h3 : Arg Try.prog w 30 v3) : Calls Try.prog 12 #[v0, v1, v2, v3] w (Gives (.bool true) w) := by
  obtain ⟨G, kG, hG⟩ := arg_u32s h0
  obtain ⟨D, kD, hD⟩ := arg_ints h1
  obtain ⟨x, rfl, hx, hx'⟩ := arg_i64 Try.underlying3 h2
  obtain ⟨ss, sg, rfl, _⟩ := arg_handle h3
  have kb := fun (w' : World) (k : Below w.heap.size w w') => builtS (hG.keep k) (hD.keep k) rfl rfl kG
  have KB := Lib.hid kb
  obtain ⟨ga, gc, rfl, _, _⟩ := hG.shape
  obtain ⟨da, dc, rfl, _, _⟩ := hD.shape
  clear h0 h1 h2 h3 hG hD kb kG kD
  obtain ⟨i1', hi, hz0, hz1, hz2⟩ := info_parts info30
  have HJ := And.intro (Lib.hid hi) (And.intro (Lib.hid hz0) (And.intro (Lib.hid hz1) (Lib.hid hz2)))
  clear hi hz0 hz1 hz2
  go_enter Try.func12, Try.ntmps12
  go_wp2_with (first | (go_at_call 36; refine (shown28 _).mono ?_; rintro e w1 ⟨rfl, hb1⟩; have ha1 : After _ w1 := ⟨hb1⟩; obtain ⟨hc1, hf1⟩ := after hb1; have hz1 := hb1.size; try simp at hz1))
  have B1 : RowKit.Below w.heap.size w w1 := (by repeat (first | with_reducible exact Below.refl _ _ | (with_reducible refine Below.alloc ?_ ?_ _; rotate_left; focus ((try simp) <;> omega)) | (with_reducible refine Below.setCell ?_ ?_ _; rotate_left; focus ((try simp) <;> omega)) | (with_reducible refine below_grow ?_ ?_; rotate_left; focus ((try simp) <;> omega)) | (with_reducible refine below_putB ?_ ?_; rotate_left; focus ((try simp) <;> omega)) | with_reducible refine Below.drew ?_ | with_reducible refine below_drewN ?_ | with_reducible assumption | (with_reducible refine below_step (by assumption) ?_ ?_; rotate_left; focus ((try simp) <;> omega))))
  refine (KB.out _ B1).mono ?_
  rintro e w2 ⟨sa, n, sc, ra, nr, rc, wa, nw, wq, ha, nh, hc, S, R, Wr, H, rfl, hm, hb2⟩
  have ha2 : After w1 w2 := ⟨hb2⟩
  have B2 : RowKit.Below w.heap.size w w2 := B1.trans (hb2.mono B1.size)
  have e7 : BlkIs w2 w.heap.size #[.int .i64 ss, .int .u32 sg] 30 := inferInstance
  have hb60 := hm.b2
  have hn30 := hm.b1
  have hB2s := B2.size
  have hB1s := B1.size
  have hz21 := hb2.size
  have HM := Lib.hid hm
  unfold snapV
  clear hm
  have kh := fun (w' : World) (k : Below w2.heap.size w2 w') => HM.out.hold k
  have kl := fun (w' : World) (k : Below w2.heap.size w2 w') => HM.out.leak k
  unfold snapV at kh kl
  have KH := Lib.hid kh
  have KL := Lib.hid kl
  clear kh kl
  go_wp2_with fail
  refine (KH.out _ (by repeat (first | with_reducible exact Below.refl _ _ | (with_reducible refine Below.alloc ?_ ?_ _; rotate_left; focus ((try simp) <;> omega)) | (with_reducible refine Below.setCell ?_ ?_ _; rotate_left; focus ((try simp) <;> omega)) | (with_reducible refine below_grow ?_ ?_; rotate_left; focus ((try simp) <;> omega)) | (with_reducible refine below_putB ?_ ?_; rotate_left; focus ((try simp) <;> omega)) | with_reducible refine Below.drew ?_ | with_reducible refine below_drewN ?_ | with_reducible assumption | (with_reducible refine below_step (by assumption) ?_ ?_; rotate_left; focus ((try simp) <;> omega))))).mono ?_
  rintro e w4 ⟨rfl, hb4⟩
  have ha4 : After _ w4 := ⟨hb4⟩
  have C4 : RowKit.Below w2.heap.size w2 w4 := (by repeat (first | with_reducible exact Below.refl _ _ | (with_reducible refine Below.alloc ?_ ?_ _; rotate_left; focus ((try simp) <;> omega)) | (with_reducible refine Below.setCell ?_ ?_ _; rotate_left; focus ((try simp) <;> omega)) | (with_reducible refine below_grow ?_ ?_; rotate_left; focus ((try simp) <;> omega)) | (with_reducible refine below_putB ?_ ?_; rotate_left; focus ((try simp) <;> omega)) | with_reducible refine Below.drew ?_ | with_reducible refine below_drewN ?_ | with_reducible assumption | (with_reducible refine below_step (by assumption) ?_ ?_; rotate_left; focus ((try simp) <;> omega))))
  go_wp2_with fail
  refine (KL.out _ C4).mono ?_
  rintro e w5 ⟨a5, c5, rfl, _, hb5⟩
  have ha5 : After _ w5 := ⟨hb5⟩
  have C5 : RowKit.Below w2.heap.size w2 w5 := C4.trans (hb5.mono C4.size)
  have hC5 := C5.size
  have hz54 := hb5.size
  have hb4s := hb4.size
  simp at hb4s
  clear KH KL
  go_upto_region 7 with fail
  obtain ⟨W, hW⟩ : ∃ W, W = w5.alloc (.cells #[.slice sa n sc, .slice ra nr rc, .slice wa nw wq, .slice ha nh hc] 71) := ⟨_, rfl⟩
  have f7 : BlkIs W w.heap.size #[.int .i64 ss, .int .u32 sg] 30 := by rw [hW]; infer_instance
  have f9 : BlkIs W w2.heap.size #[.slice sa n sc, .slice ra nr rc, .slice wa nw wq, .slice ha nh hc] 71 := by rw [hW]; infer_instance
  have f10 : BlkIs W w5.heap.size #[.slice sa n sc, .slice ra nr rc, .slice wa nw wq, .slice ha nh hc] 71 := by rw [hW]; infer_instance
  have CW : RowKit.Below w2.heap.size w2 W := by rw [hW]; exact (by repeat (first | with_reducible exact Below.refl _ _ | (with_reducible refine Below.alloc ?_ ?_ _; rotate_left; focus ((try simp) <;> omega)) | (with_reducible refine Below.setCell ?_ ?_ _; rotate_left; focus ((try simp) <;> omega)) | (with_reducible refine below_grow ?_ ?_; rotate_left; focus ((try simp) <;> omega)) | (with_reducible refine below_putB ?_ ?_; rotate_left; focus ((try simp) <;> omega)) | with_reducible refine Below.drew ?_ | with_reducible refine below_drewN ?_ | with_reducible assumption | (with_reducible refine below_step (by assumption) ?_ ?_; rotate_left; focus ((try simp) <;> omega))))
  have hCW := CW.size
  have hWs : W.heap.size = w5.heap.size + 1 := by rw [hW]; simp
  rw [← hW]
  clear hW
  go_cut [] (fun wx => ∃ a c, BlkIs wx w.heap.size #[.int .i64 ss, .int .u32 sg] 30 ∧ BlkIs wx w2.heap.size #[.slice sa n sc, .slice ra nr rc, .slice wa nw wq, .slice ha nh hc] 71 ∧ BlkIs wx w5.heap.size #[.slice sa n sc, .slice ra nr rc, .slice a (nw + 1) c, .slice ha nh hc] 71 ∧
    Line wx (w5.heap.size + 1) 2 (.slice a (nw + 1) c) (nw + 1) (hds (Wr ++ [(ss, sg)])) ∧ Below w2.heap.size w2 wx)
  case first =>
    have HWr := Lib.hid (Has.of_line (HM.out.four.keep CW).p)
    have HWS := Lib.hid hWs
    clear hWs
    refine wp_region_noPanic ?_
    refine wp_region_held_drew (S := (fun w' => BlkIs w' w.heap.size #[.int .i64 ss, .int .u32 sg] 30 ∧ BlkIs w' w2.heap.size #[.slice sa n sc, .slice ra nr rc, .slice wa nw wq, .slice ha nh hc] 71)) (by kernel_rfl) (by (try dsimp only); exact ⟨by infer_instance, by infer_instance⟩) (fun hHeld => ?_)
    refine wpAnyH_take (i := 0) (oi := _) (v := ?_) (by simp only [List.getElem?_toArray, List.getElem?_cons_zero]; rfl) (by kernel_rfl) (by kernel_rfl) (by kernel_rfl) (fun _ _ _ h => h) (Or.inl ⟨by rfl, ?_⟩) (by assumption) ?_
    rotate_left
    focus (intro w hSw; (try dsimp only at hSw); (try have hS1 := hSw.1); (try have hS2 := hSw.2); (try have hS3 := hSw.2.1); (try have hS4 := hSw.2.2); go_simp; try with_reducible rfl)
    (try simp only [Act.put, List.setIfInBounds_toArray, List.set_cons_zero, List.set_cons_succ])
    refine wpAnyH_take (i := 1) (oi := _) (v := ?_) (by simp only [List.getElem?_toArray, List.getElem?_cons_succ, List.getElem?_cons_zero]; rfl) (by kernel_rfl) (by kernel_rfl) (by kernel_rfl) (fun _ _ _ h => h) (Or.inl ⟨by rfl, ?_⟩) (by assumption) ?_
    rotate_left
    focus (intro w hSw; (try dsimp only at hSw); (try have hS1 := hSw.1); (try have hS2 := hSw.2); (try have hS3 := hSw.2.1); (try have hS4 := hSw.2.2); go_simp; try with_reducible rfl)
    (try simp only [Act.put, List.setIfInBounds_toArray, List.set_cons_zero, List.set_cons_succ])
    refine wpAnyH_take (i := 3) (oi := _) (v := ?_) (by simp only [List.getElem?_toArray, List.getElem?_cons_succ, List.getElem?_cons_zero]; rfl) (by kernel_rfl) (by kernel_rfl) (by kernel_rfl) (fun _ _ _ h => h) (Or.inl ⟨by rfl, ?_⟩) (by assumption) ?_
    rotate_left
    focus (intro w hSw; (try dsimp only at hSw); (try have hS1 := hSw.1); (try have hS2 := hSw.2); (try have hS3 := hSw.2.1); (try have hS4 := hSw.2.2); go_simp; try with_reducible rfl)
    (try simp only [Act.put, List.setIfInBounds_toArray, List.set_cons_zero, List.set_cons_succ])
    have J0 := Lib.hid (PlI.nil (W := W) (wx := W.drew) (by repeat (first | with_reducible exact Below.refl _ _ | (with_reducible refine Below.alloc ?_ ?_ _; rotate_left; focus ((try simp) <;> omega)) | (with_reducible refine Below.setCell ?_ ?_ _; rotate_left; focus ((try simp) <;> omega)) | (with_reducible refine below_grow ?_ ?_; rotate_left; focus ((try simp) <;> omega)) | (with_reducible refine below_putB ?_ ?_; rotate_left; focus ((try simp) <;> omega)) | with_reducible refine Below.drew ?_ | with_reducible refine below_drewN ?_ | with_reducible assumption | (with_reducible refine below_step (by assumption) ?_ ?_; rotate_left; focus ((try simp) <;> omega)))))
    refine wpAnyH_ready (rs := [2, 4]) (by kernel_rfl) (by simp) ?_
    refine AllReadyH.cons (o := _) (by simp only [List.getElem?_toArray, List.getElem?_cons_succ, List.getElem?_cons_zero]; rfl) (fun K hK => ?_) (AllReadyH.cons (o := _) (by simp only [List.getElem?_toArray, List.getElem?_cons_succ, List.getElem?_cons_zero]; rfl) (fun K hK => ?_) AllReadyH.nil)
    · (refine step_append_line _ (by rfl) _ _ 69 (by rfl) W.heap.size 30 i1' _ 2 16 Try.underlying69 HJ.1.out HJ.2.1.out HJ.2.2.1.out HJ.2.2.2.out rfl (by decide) _ _ (0) (nw) ([]) (hds Wr) (by rfl) (by rfl) J0.out.line ((HWr.out.keep J0.out.below).src' (hds_one _)) (by unfold maxLen; omega) (by omega) J0.out.below.size _ rfl ?_; intro v1 x1 hown1 hgrow1 hat1; have J1 := Lib.hid (J0.out.append (n' := nw) (xs' := hds Wr) hown1 hgrow1 hat1 rfl (by omega) (by simp [hds, hdC])); have ha1 : After W x1 := ⟨J1.out.below⟩; obtain ⟨p1, q1, rfl, _, _⟩ := J1.out.line.shape; clear hown1 hgrow1 hat1)
      refine hK.out _ _ (by (try dsimp only); exact ⟨by infer_instance, by infer_instance⟩) (fun hHeld => ?_)
      clear hK K
      (try simp only [Act.put, List.setIfInBounds_toArray, List.set_cons_zero, List.set_cons_succ])
      refine wpAnyH_ready (rs := [4]) (by kernel_rfl) (by simp) ?_
      refine AllReadyH.cons (o := _) (by simp only [List.getElem?_toArray, List.getElem?_cons_succ, List.getElem?_cons_zero]; rfl) (fun K hK => ?_) AllReadyH.nil
      go_simp
      refine hK.out _ _ (by (try dsimp only); exact ⟨by infer_instance, by infer_instance⟩) (fun hHeld => ?_)
      clear hK K
      (try simp only [Act.put, List.setIfInBounds_toArray, List.set_cons_zero, List.set_cons_succ])
      have J1a := Lib.hid (J1.out.more (o := .cells #[.int .i64 ss, .int .u32 sg] 30))
      refine wpAnyH_ready (rs := [5]) (by kernel_rfl) (by simp) ?_
      refine AllReadyH.cons (o := _) (by simp only [List.getElem?_toArray, List.getElem?_cons_succ, List.getElem?_cons_zero]; rfl) (fun K hK => ?_) AllReadyH.nil
      (refine step_append_line _ (by rfl) _ _ 69 (by rfl) W.heap.size 30 i1' _ 2 16 Try.underlying69 HJ.1.out HJ.2.1.out HJ.2.2.1.out HJ.2.2.2.out rfl (by decide) _ _ (nw) (1) (hds Wr) (hds [(ss, sg)]) (by rfl) (by rfl) J1a.out.line (Src.one rfl (hds_one2 _ _) (two_src (by simp [go_sem]) (by simp [go_sem]))) (by unfold maxLen; omega) (by omega) J1a.out.below.size _ rfl ?_; intro v2 x2 hown2 hgrow2 hat2; have J2 := Lib.hid (J1a.out.append (n' := nw + 1) (xs' := hds (Wr ++ [(ss, sg)])) hown2 hgrow2 hat2 rfl (by omega) (by simp [hds, hdC])); have ha2 : After W x2 := ⟨J2.out.below⟩; obtain ⟨p2, q2, rfl, _, _⟩ := J2.out.line.shape; clear hown2 hgrow2 hat2)
      refine hK.out _ _ (by (try dsimp only); exact ⟨by infer_instance, by infer_instance⟩) (fun hHeld => ?_)
      clear hK K
      (try simp only [Act.put, List.setIfInBounds_toArray, List.set_cons_zero, List.set_cons_succ])
      refine wpAnyH_take (i := 6) (oi := _) (v := ?_) (by simp only [List.getElem?_toArray, List.getElem?_cons_succ, List.getElem?_cons_zero]; rfl) (by kernel_rfl) (by kernel_rfl) (by kernel_rfl) (fun _ _ _ h => h) (Or.inl ⟨by rfl, ?_⟩) (by assumption) ?_
      rotate_left
      focus (intro w hSw; (try dsimp only at hSw); (try have hS1 := hSw.1); (try have hS2 := hSw.2); (try have hS3 := hSw.2.1); (try have hS4 := hSw.2.2); go_simp; try with_reducible rfl)
      (try simp only [Act.put, List.setIfInBounds_toArray, List.set_cons_zero, List.set_cons_succ])
      refine wpAnyH_ready (rs := [7]) (by kernel_rfl) (by simp) ?_
      refine AllReadyH.cons (o := _) (by simp only [List.getElem?_toArray, List.getElem?_cons_succ, List.getElem?_cons_zero]; rfl) (fun K hK => ?_) AllReadyH.nil
      go_simp
      refine hK.out _ _ (by (try dsimp only); exact ⟨by infer_instance, by infer_instance⟩) (fun hHeld => ?_)
      clear hK K
      (try simp only [Act.put, List.setIfInBounds_toArray, List.set_cons_zero, List.set_cons_succ])
      refine wpAnyH_done (by kernel_rfl) ?_ _
      refine NoPanic.normal ?_
      go_wp2_with fail
      go_meet
      exact ⟨p2, q2, by infer_instance, by infer_instance, by infer_instance, (HWS.out ▸ J2.out.put_line (by rw [HWS.out]; omega)), CW.trans (J2.out.put_below2 (B := w2.heap.size) ⟨by omega, by omega⟩)⟩
    · go_simp
      refine hK.out _ _ (by (try dsimp only); exact ⟨by infer_instance, by infer_instance⟩) (fun hHeld => ?_)
      clear hK K
      (try simp only [Act.put, List.setIfInBounds_toArray, List.set_cons_zero, List.set_cons_succ])
      have J0a := Lib.hid (J0.out.more (o := .cells #[.int .i64 ss, .int .u32 sg] 30))
      refine wpAnyH_ready (rs := [2]) (by kernel_rfl) (by simp) ?_
      refine AllReadyH.cons (o := _) (by simp only [List.getElem?_toArray, List.getElem?_cons_succ, List.getElem?_cons_zero]; rfl) (fun K hK => ?_) AllReadyH.nil
      (refine step_append_line _ (by rfl) _ _ 69 (by rfl) W.heap.size 30 i1' _ 2 16 Try.underlying69 HJ.1.out HJ.2.1.out HJ.2.2.1.out HJ.2.2.2.out rfl (by decide) _ _ (0) (nw) ([]) (hds Wr) (by rfl) (by rfl) J0a.out.line ((HWr.out.keep J0a.out.below).src' (hds_one _)) (by unfold maxLen; omega) (by omega) J0a.out.below.size _ rfl ?_; intro v1 x1 hown1 hgrow1 hat1; have J1 := Lib.hid (J0a.out.append (n' := nw) (xs' := hds Wr) hown1 hgrow1 hat1 rfl (by omega) (by simp [hds, hdC])); have ha1 : After W x1 := ⟨J1.out.below⟩; obtain ⟨p1, q1, rfl, _, _⟩ := J1.out.line.shape; have hbx : BlkIs x1 W.heap.size #[.int .i64 ss, .int .u32 sg] 30 := ⟨by rw [hgrow1.block _ (by simp) (by simp [Value.ownBlock])]; exact heap_alloc_new W.drew _⟩; clear hown1 hgrow1 hat1)
      refine hK.out _ _ (by (try dsimp only); exact ⟨by infer_instance, by infer_instance⟩) (fun hHeld => ?_)
      clear hK K
      (try simp only [Act.put, List.setIfInBounds_toArray, List.set_cons_zero, List.set_cons_succ])
      refine wpAnyH_ready (rs := [5]) (by kernel_rfl) (by simp) ?_
      refine AllReadyH.cons (o := _) (by simp only [List.getElem?_toArray, List.getElem?_cons_succ, List.getElem?_cons_zero]; rfl) (fun K hK => ?_) AllReadyH.nil
      (refine step_append_line _ (by rfl) _ _ 69 (by rfl) W.heap.size 30 i1' _ 2 16 Try.underlying69 HJ.1.out HJ.2.1.out HJ.2.2.1.out HJ.2.2.2.out rfl (by decide) _ _ (nw) (1) (hds Wr) (hds [(ss, sg)]) (by rfl) (by rfl) J1.out.line (Src.one rfl (hds_one2 _ _) (two_src (by simp [go_sem]) (by simp [go_sem]))) (by unfold maxLen; omega) (by omega) J1.out.below.size _ rfl ?_; intro v2 x2 hown2 hgrow2 hat2; have J2 := Lib.hid (J1.out.append (n' := nw + 1) (xs' := hds (Wr ++ [(ss, sg)])) hown2 hgrow2 hat2 rfl (by omega) (by simp [hds, hdC])); have ha2 : After W x2 := ⟨J2.out.below⟩; obtain ⟨p2, q2, rfl, _, _⟩ := J2.out.line.shape; clear hown2 hgrow2 hat2)
      refine hK.out _ _ (by (try dsimp only); exact ⟨by infer_instance, by infer_instance⟩) (fun hHeld => ?_)
      clear hK K
      (try simp only [Act.put, List.setIfInBounds_toArray, List.set_cons_zero, List.set_cons_succ])
      refine wpAnyH_take (i := 6) (oi := _) (v := ?_) (by simp only [List.getElem?_toArray, List.getElem?_cons_succ, List.getElem?_cons_zero]; rfl) (by kernel_rfl) (by kernel_rfl) (by kernel_rfl) (fun _ _ _ h => h) (Or.inl ⟨by rfl, ?_⟩) (by assumption) ?_
      rotate_left
      focus (intro w hSw; (try dsimp only at hSw); (try have hS1 := hSw.1); (try have hS2 := hSw.2); (try have hS3 := hSw.2.1); (try have hS4 := hSw.2.2); go_simp; try with_reducible rfl)
      (try simp only [Act.put, List.setIfInBounds_toArray, List.set_cons_zero, List.set_cons_succ])
      refine wpAnyH_ready (rs := [7]) (by kernel_rfl) (by simp) ?_
      refine AllReadyH.cons (o := _) (by simp only [List.getElem?_toArray, List.getElem?_cons_succ, List.getElem?_cons_zero]; rfl) (fun K hK => ?_) AllReadyH.nil
      go_simp
      refine hK.out _ _ (by (try dsimp only); exact ⟨by infer_instance, by infer_instance⟩) (fun hHeld => ?_)
      clear hK K
      (try simp only [Act.put, List.setIfInBounds_toArray, List.set_cons_zero, List.set_cons_succ])
      refine wpAnyH_done (by kernel_rfl) ?_ _
      refine NoPanic.normal ?_
      go_wp2_with fail
      go_meet
      exact ⟨p2, q2, by infer_instance, by infer_instance, by infer_instance, (HWS.out ▸ J2.out.put_line (by rw [HWS.out]; omega)), CW.trans (J2.out.put_below2 (B := w2.heap.size) ⟨by omega, by omega⟩)⟩
  case rest =>
    obtain ⟨a6, c6, f7', f9', f10', hL6, hbx⟩ := hcut
    have hbs := hbx.size
    have hl10 := f10'.lt
    have km := fun (w' : World) (k : Below w2.heap.size w2 w') (l : Has w' 2 (.slice a6 (nw + 1) c6) (nw + 1) (hds (Wr ++ [(ss, sg)]))) => HM.out.more k (ss, sg) l
    unfold snapV at km
    have KM := Lib.hid km
    have HL6 := Lib.hid hL6
    clear km hL6 f7 f9 f10 CW hCW hWs ha5 hb5 ha4 hb4 C4 C5
    go_wp2_with fail
    refine (KM.out _ hbx (Has.of_line HL6.out)).mono ?_
    rintro e w6 ⟨rfl, hb6⟩
    have ha6 : After _ w6 := ⟨hb6⟩
    have C6 : RowKit.Below w2.heap.size w2 w6 := hbx.trans (hb6.mono hbs)
    have hC6 := C6.size
    have g9 : BlkIs w6 w2.heap.size #[.slice sa n sc, .slice ra nr rc, .slice wa nw wq, .slice ha nh hc] 71 := inferInstance
    have g10 : BlkIs w6 w5.heap.size #[.slice sa n sc, .slice ra nr rc, .slice a6 (nw + 1) c6, .slice ha nh hc] 71 := inferInstance
    have hl10 := g10.lt
    have nb : NeB w2.heap.size w5.heap.size := ⟨by omega⟩
    clear KM HL6 f7' f9' f10' ha6 hb6 hbx hbs
    by_cases hr : nr = 0
    · subst hr
      go_wp2_with fail
      refine ret_any ⟨_, by simp [results, Try.results12, go_sem, *]; rfl, ?_⟩ rfl
      exact gives_of rfl (B2.trans (C6.mono B2.size))
    · have hr0 : 0 < nr := by omega
      obtain ⟨g, off, c, ev, hbg, hgl, hrc, _⟩ := HM.out.four.r.form hr0
      simp only [Value.slice.injEq, true_and] at ev
      obtain ⟨rfl, rfl⟩ := ev
      obtain ⟨y, hy⟩ : ∃ y : Nat, x % 65536 = (y : Int) := ⟨(x % 65536).toNat, by omega⟩
      have hlow := low16 x
      rw [hy] at hlow
      obtain ⟨k, hk⟩ : ∃ k : Nat, k = y % nr := ⟨_, rfl⟩
      have hkn : k < nr := by rw [hk]; exact Nat.mod_lt _ hr0
      have hmod : (y : Int).tmod (nr : Int) = (k : Int) := by rw [hk]; rfl
      have HR := Lib.hid (Has.of_line (HM.out.four.keep C6).r)
      have j1 : (0 : Int) ≤ (k : Int) := by omega
      have j2 : (k : Int) ≤ (nr : Int) := by omega
      have j3 : (k : Int) + 1 ≤ (nr : Int) := by omega
      have j4 : k ≤ rc := by omega
      have j5 : k + 1 ≤ nr := by omega
      have j7 : (0 : Int) ≤ (k : Int) + 1 := by omega
      have j6 : IntKind.i64.wrap ((k : Int) + 1) = ((k + 1 : Nat) : Int) := by rw [IntKind.wrap_i64]; omega
      clear hy hk
      go_upto_region 14 with fail
      obtain ⟨Y, hY⟩ : ∃ Y, Y = putB w6 w5.heap.size #[.slice sa n sc, .slice (some ⟨g, off, none⟩) nr rc, .slice wa nw wq, .slice ha nh hc] 71 := ⟨_, rfl⟩
      have y9 : BlkIs Y w2.heap.size #[.slice sa n sc, .slice (some ⟨g, off, none⟩) nr rc, .slice wa nw wq, .slice ha nh hc] 71 := by rw [hY]; infer_instance
      have y10 : BlkIs Y w5.heap.size #[.slice sa n sc, .slice (some ⟨g, off, none⟩) nr rc, .slice wa nw wq, .slice ha nh hc] 71 := by rw [hY]; infer_instance
      have CY : RowKit.Below w2.heap.size w2 Y := by rw [hY]; exact (by repeat (first | with_reducible exact Below.refl _ _ | (with_reducible refine Below.alloc ?_ ?_ _; rotate_left; focus ((try simp) <;> omega)) | (with_reducible refine Below.setCell ?_ ?_ _; rotate_left; focus ((try simp) <;> omega)) | (with_reducible refine below_grow ?_ ?_; rotate_left; focus ((try simp) <;> omega)) | (with_reducible refine below_putB ?_ ?_; rotate_left; focus ((try simp) <;> omega)) | with_reducible refine Below.drew ?_ | with_reducible refine below_drewN ?_ | with_reducible assumption | (with_reducible refine below_step (by assumption) ?_ ?_; rotate_left; focus ((try simp) <;> omega))))
      have hYs : Y.heap.size = w6.heap.size := by rw [hY]; simp
      have hCY := CY.size
      rw [← hY]
      clear hY g9 g10 HR
      obtain ⟨p, hp⟩ : ∃ p, p + 1 = nr := ⟨nr - 1, by omega⟩
      have hl2 := HM.out.l2
      go_cut [] (fun wx => ∃ a p c, p + 1 = nr ∧ BlkIs wx w2.heap.size #[.slice sa n sc, .slice (some ⟨g, off, none⟩) nr rc, .slice wa nw wq, .slice ha nh hc] 71 ∧ BlkIs wx w5.heap.size #[.slice sa n sc, .slice a p c, .slice wa nw wq, .slice ha nh hc] 71 ∧
        Line wx Y.heap.size 2 (.slice a p c) p (hds (R.take k ++ R.drop (k + 1))) ∧ Below w2.heap.size w2 wx)
      case first =>
        have HR := Has.of_line (HM.out.four.keep CY).r
        have HR1 := Lib.hid (hds_take R k ▸ HR.first (k := k) (by omega))
        by_cases hkr : rc = k + 1
        · have hd : R.drop (k + 1) = [] := List.drop_eq_nil_of_le (by omega)
          have HD := Lib.hid hd
          clear hd HR hl2
          have hrk : nr = k + 1 := by omega
          have HP := Lib.hid hp
          clear hp
          subst hkr
          subst hrk
          have j8 : (k : Int) ≤ (k : Int) + 1 := by omega
          refine wp_region_noPanic ?_
          refine wp_region_held_drew (S := (fun w' => BlkIs w' w2.heap.size #[.slice sa n sc, .slice (some ⟨g, off, none⟩) (k + 1) (k + 1), .slice wa nw wq, .slice ha nh hc] 71)) (by kernel_rfl) (by (try dsimp only); infer_instance) (fun hHeld => ?_)
          refine wpAnyH_take (i := 0) (oi := _) (v := ?_) (by simp only [List.getElem?_toArray, List.getElem?_cons_zero]; rfl) (by kernel_rfl) (by kernel_rfl) (by kernel_rfl) (fun _ _ _ h => h) (Or.inl ⟨by rfl, ?_⟩) (by assumption) ?_
          rotate_left
          focus (intro w hSw; (try dsimp only at hSw); (try have hS1 := hSw.1); (try have hS2 := hSw.2); (try have hS3 := hSw.2.1); (try have hS4 := hSw.2.2); go_simp; try with_reducible rfl)
          (try simp only [Act.put, List.setIfInBounds_toArray, List.set_cons_zero, List.set_cons_succ])
          refine wpAnyH_take (i := 1) (oi := _) (v := ?_) (by simp only [List.getElem?_toArray, List.getElem?_cons_succ, List.getElem?_cons_zero]; rfl) (by kernel_rfl) (by kernel_rfl) (by kernel_rfl) (fun _ _ _ h => h) (Or.inl ⟨by rfl, ?_⟩) (by assumption) ?_
          rotate_left
          focus (intro w hSw; (try dsimp only at hSw); (try have hS1 := hSw.1); (try have hS2 := hSw.2); (try have hS3 := hSw.2.1); (try have hS4 := hSw.2.2); go_simp; try with_reducible rfl)
          (try simp only [Act.put, List.setIfInBounds_toArray, List.set_cons_zero, List.set_cons_succ])
          refine wpAnyH_take (i := 2) (oi := _) (v := ?_) (by simp only [List.getElem?_toArray, List.getElem?_cons_succ, List.getElem?_cons_zero]; rfl) (by kernel_rfl) (by kernel_rfl) (by kernel_rfl) (fun _ _ _ h => h) (Or.inl ⟨by rfl, ?_⟩) (by assumption) ?_
          rotate_left
          focus (intro w hSw; (try dsimp only at hSw); (try have hS1 := hSw.1); (try have hS2 := hSw.2); (try have hS3 := hSw.2.1); (try have hS4 := hSw.2.2); go_simp; try with_reducible rfl)
          (try simp only [Act.put, List.setIfInBounds_toArray, List.set_cons_zero, List.set_cons_succ])
          refine wpAnyH_take (i := 3) (oi := _) (v := ?_) (by simp only [List.getElem?_toArray, List.getElem?_cons_succ, List.getElem?_cons_zero]; rfl) (by kernel_rfl) (by kernel_rfl) (by kernel_rfl) (fun _ _ _ h => h) (Or.inl ⟨by rfl, ?_⟩) (by assumption) ?_
          rotate_left
          focus (intro w hSw; (try dsimp only at hSw); (try have hS1 := hSw.1); (try have hS2 := hSw.2); (try have hS3 := hSw.2.1); (try have hS4 := hSw.2.2); go_simp; try with_reducible rfl)
          (try simp only [Act.put, List.setIfInBounds_toArray, List.set_cons_zero, List.set_cons_succ])
          refine wpAnyH_take (i := 5) (oi := _) (v := ?_) (by simp only [List.getElem?_toArray, List.getElem?_cons_succ, List.getElem?_cons_zero]; rfl) (by kernel_rfl) (by kernel_rfl) (by kernel_rfl) (fun _ _ _ h => h) (Or.inl ⟨by rfl, ?_⟩) (by assumption) ?_
          rotate_left
          focus (intro w hSw; (try dsimp only at hSw); (try have hS1 := hSw.1); (try have hS2 := hSw.2); (try have hS3 := hSw.2.1); (try have hS4 := hSw.2.2); go_simp; try with_reducible rfl)
          (try simp only [Act.put, List.setIfInBounds_toArray, List.set_cons_zero, List.set_cons_succ])
          refine wpAnyH_take (i := 6) (oi := _) (v := ?_) (by simp only [List.getElem?_toArray, List.getElem?_cons_succ, List.getElem?_cons_zero]; rfl) (by kernel_rfl) (by kernel_rfl) (by kernel_rfl) (fun _ _ _ h => h) (Or.inl ⟨by rfl, ?_⟩) (by assumption) ?_
          rotate_left
          focus (intro w hSw; (try dsimp only at hSw); (try have hS1 := hSw.1); (try have hS2 := hSw.2); (try have hS3 := hSw.2.1); (try have hS4 := hSw.2.2); go_simp; try with_reducible rfl)
          (try simp only [Act.put, List.setIfInBounds_toArray, List.set_cons_zero, List.set_cons_succ])
          refine wpAnyH_take (i := 7) (oi := _) (v := ?_) (by simp only [List.getElem?_toArray, List.getElem?_cons_succ, List.getElem?_cons_zero]; rfl) (by kernel_rfl) (by kernel_rfl) (by kernel_rfl) (fun _ _ _ h => h) (Or.inl ⟨by rfl, ?_⟩) (by assumption) ?_
          rotate_left
          focus (intro w hSw; (try dsimp only at hSw); (try have hS1 := hSw.1); (try have hS2 := hSw.2); (try have hS3 := hSw.2.1); (try have hS4 := hSw.2.2); go_simp; try with_reducible rfl)
          (try simp only [Act.put, List.setIfInBounds_toArray, List.set_cons_zero, List.set_cons_succ])
          refine wpAnyH_take (i := 8) (oi := _) (v := ?_) (by simp only [List.getElem?_toArray, List.getElem?_cons_succ, List.getElem?_cons_zero]; rfl) (by kernel_rfl) (by kernel_rfl) (by kernel_rfl) (fun _ _ _ h => h) (Or.inl ⟨by rfl, ?_⟩) (by assumption) ?_
          rotate_left
          focus (intro w hSw; (try dsimp only at hSw); (try have hS1 := hSw.1); (try have hS2 := hSw.2); (try have hS3 := hSw.2.1); (try have hS4 := hSw.2.2); go_simp; try with_reducible rfl)
          (try simp only [Act.put, List.setIfInBounds_toArray, List.set_cons_zero, List.set_cons_succ])
          refine wpAnyH_take (i := 9) (oi := _) (v := ?_) (by simp only [List.getElem?_toArray, List.getElem?_cons_succ, List.getElem?_cons_zero]; rfl) (by kernel_rfl) (by kernel_rfl) (by kernel_rfl) (fun _ _ _ h => h) (Or.inl ⟨by rfl, ?_⟩) (by assumption) ?_
          rotate_left
          focus (intro w hSw; (try dsimp only at hSw); (try have hS1 := hSw.1); (try have hS2 := hSw.2); (try have hS3 := hSw.2.1); (try have hS4 := hSw.2.2); go_simp; try with_reducible rfl)
          (try simp only [Act.put, List.setIfInBounds_toArray, List.set_cons_zero, List.set_cons_succ])
          have J0 := Lib.hid (PlI.nil (W := Y) (wx := Y.drew) (by repeat (first | with_reducible exact Below.refl _ _ | (with_reducible refine Below.alloc ?_ ?_ _; rotate_left; focus ((try simp) <;> omega)) | (with_reducible refine Below.setCell ?_ ?_ _; rotate_left; focus ((try simp) <;> omega)) | (with_reducible refine below_grow ?_ ?_; rotate_left; focus ((try simp) <;> omega)) | (with_reducible refine below_putB ?_ ?_; rotate_left; focus ((try simp) <;> omega)) | with_reducible refine Below.drew ?_ | with_reducible refine below_drewN ?_ | with_reducible assumption | (with_reducible refine below_step (by assumption) ?_ ?_; rotate_left; focus ((try simp) <;> omega)))))
          refine wpAnyH_ready (rs := [4]) (by kernel_rfl) (by simp) ?_
          refine AllReadyH.cons (o := _) (by simp only [List.getElem?_toArray, List.getElem?_cons_succ, List.getElem?_cons_zero]; rfl) (fun K hK => ?_) AllReadyH.nil
          (refine step_append_line _ (by rfl) _ _ 69 (by rfl) Y.heap.size 30 i1' _ 2 16 Try.underlying69 HJ.1.out HJ.2.1.out HJ.2.2.1.out HJ.2.2.2.out rfl (by decide) _ _ (0) (k) ([]) (hds (R.take k)) (by rfl) (by rfl) J0.out.line ((HR1.out.keep J0.out.below).src' (hds_one _)) (by unfold maxLen; omega) (by omega) J0.out.below.size _ rfl ?_; intro v1 x1 hown1 hgrow1 hat1; have J1 := Lib.hid (J0.out.append (n' := k) (xs' := hds (R.take k)) hown1 hgrow1 hat1 rfl (by omega) (by simp [hds])); have ha1 : After Y x1 := ⟨J1.out.below⟩; obtain ⟨p1, q1, rfl, _, _⟩ := J1.out.line.shape; clear hown1 hgrow1 hat1)
          refine hK.out _ _ (by (try dsimp only); infer_instance) (fun hHeld => ?_)
          clear hK K
          (try simp only [Act.put, List.setIfInBounds_toArray, List.set_cons_zero, List.set_cons_succ])
          refine wpAnyH_ready (rs := [10]) (by kernel_rfl) (by simp) ?_
          refine AllReadyH.cons (o := _) (by simp only [List.getElem?_toArray, List.getElem?_cons_succ, List.getElem?_cons_zero]; rfl) (fun K hK => ?_) AllReadyH.nil
          (refine step_append_line _ (by rfl) _ _ 69 (by rfl) Y.heap.size 30 i1' _ 2 16 Try.underlying69 HJ.1.out HJ.2.1.out HJ.2.2.1.out HJ.2.2.2.out rfl (by decide) _ _ (k) (0) (hds (R.take k)) ([]) (by rfl) (by rfl) J1.out.line (⟨rfl, by simp, Or.inr ⟨_, _, rfl, by simp⟩⟩) (by unfold maxLen; omega) (by omega) J1.out.below.size _ rfl ?_; intro v2 x2 hown2 hgrow2 hat2; have J2 := Lib.hid (J1.out.append (n' := k) (xs' := hds (R.take k ++ R.drop (k + 1))) hown2 hgrow2 hat2 rfl (by omega) (by rw [HD.out]; simp [hds])); have ha2 : After Y x2 := ⟨J2.out.below⟩; obtain ⟨p2, q2, rfl, _, _⟩ := J2.out.line.shape; clear hown2 hgrow2 hat2)
          refine hK.out _ _ (by (try dsimp only); infer_instance) (fun hHeld => ?_)
          clear hK K
          (try simp only [Act.put, List.setIfInBounds_toArray, List.set_cons_zero, List.set_cons_succ])
          refine wpAnyH_take (i := 11) (oi := _) (v := ?_) (by simp only [List.getElem?_toArray, List.getElem?_cons_succ, List.getElem?_cons_zero]; rfl) (by kernel_rfl) (by kernel_rfl) (by kernel_rfl) (fun _ _ _ h => h) (Or.inl ⟨by rfl, ?_⟩) (by assumption) ?_
          rotate_left
          focus (intro w hSw; (try dsimp only at hSw); (try have hS1 := hSw.1); (try have hS2 := hSw.2); (try have hS3 := hSw.2.1); (try have hS4 := hSw.2.2); go_simp; try with_reducible rfl)
          (try simp only [Act.put, List.setIfInBounds_toArray, List.set_cons_zero, List.set_cons_succ])
          refine wpAnyH_ready (rs := [12]) (by kernel_rfl) (by simp) ?_
          refine AllReadyH.cons (o := _) (by simp only [List.getElem?_toArray, List.getElem?_cons_succ, List.getElem?_cons_zero]; rfl) (fun K hK => ?_) AllReadyH.nil
          go_simp
          refine hK.out _ _ (by (try dsimp only); infer_instance) (fun hHeld => ?_)
          clear hK K
          (try simp only [Act.put, List.setIfInBounds_toArray, List.set_cons_zero, List.set_cons_succ])
          refine wpAnyH_done (by kernel_rfl) ?_ _
          refine NoPanic.normal ?_
          go_wp2_with fail
          go_meet
          exact ⟨p2, k, q2, rfl, by infer_instance, by infer_instance, J2.out.put_line (by omega), CY.trans (J2.out.put_below2 (B := w2.heap.size) ⟨by omega, by omega⟩)⟩

        · have HR2 := Lib.hid (hds_drop R (k + 1) ▸ HR.rest (k := k + 1) (o := off + (k + 1) * 2) (by omega) (Or.inl rfl) (by omega))
          clear HR hl2
          refine wp_region_noPanic ?_
          refine wp_region_held_drew (S := (fun w' => BlkIs w' w2.heap.size #[.slice sa n sc, .slice (some ⟨g, off, none⟩) nr rc, .slice wa nw wq, .slice ha nh hc] 71)) (by kernel_rfl) (by (try dsimp only); infer_instance) (fun hHeld => ?_)
          refine wpAnyH_take (i := 0) (oi := _) (v := ?_) (by simp only [List.getElem?_toArray, List.getElem?_cons_zero]; rfl) (by kernel_rfl) (by kernel_rfl) (by kernel_rfl) (fun _ _ _ h => h) (Or.inl ⟨by rfl, ?_⟩) (by assumption) ?_
          rotate_left
          focus (intro w hSw; (try dsimp only at hSw); (try have hS1 := hSw.1); (try have hS2 := hSw.2); (try have hS3 := hSw.2.1); (try have hS4 := hSw.2.2); go_simp; try with_reducible rfl)
          (try simp only [Act.put, List.setIfInBounds_toArray, List.set_cons_zero, List.set_cons_succ])
          refine wpAnyH_take (i := 1) (oi := _) (v := ?_) (by simp only [List.getElem?_toArray, List.getElem?_cons_succ, List.getElem?_cons_zero]; rfl) (by kernel_rfl) (by kernel_rfl) (by kernel_rfl) (fun _ _ _ h => h) (Or.inl ⟨by rfl, ?_⟩) (by assumption) ?_
          rotate_left
          focus (intro w hSw; (try dsimp only at hSw); (try have hS1 := hSw.1); (try have hS2 := hSw.2); (try have hS3 := hSw.2.1); (try have hS4 := hSw.2.2); go_simp; try with_reducible rfl)
          (try simp only [Act.put, List.setIfInBounds_toArray, List.set_cons_zero, List.set_cons_succ])
          refine wpAnyH_take (i := 2) (oi := _) (v := ?_) (by simp only [List.getElem?_toArray, List.getElem?_cons_succ, List.getElem?_cons_zero]; rfl) (by kernel_rfl) (by kernel_rfl) (by kernel_rfl) (fun _ _ _ h => h) (Or.inl ⟨by rfl, ?_⟩) (by assumption) ?_
          rotate_left
          focus (intro w hSw; (try dsimp only at hSw); (try have hS1 := hSw.1); (try have hS2 := hSw.2); (try have hS3 := hSw.2.1); (try have hS4 := hSw.2.2); go_simp; try with_reducible rfl)
          (try simp only [Act.put, List.setIfInBounds_toArray, List.set_cons_zero, List.set_cons_succ])
          refine wpAnyH_take (i := 3) (oi := _) (v := ?_) (by simp only [List.getElem?_toArray, List.getElem?_cons_succ, List.getElem?_cons_zero]; rfl) (by kernel_rfl) (by kernel_rfl) (by kernel_rfl) (fun _ _ _ h => h) (Or.inl ⟨by rfl, ?_⟩) (by assumption) ?_
          rotate_left
          focus (intro w hSw; (try dsimp only at hSw); (try have hS1 := hSw.1); (try have hS2 := hSw.2); (try have hS3 := hSw.2.1); (try have hS4 := hSw.2.2); go_simp; try with_reducible rfl)
          (try simp only [Act.put, List.setIfInBounds_toArray, List.set_cons_zero, List.set_cons_succ])
          refine wpAnyH_take (i := 5) (oi := _) (v := ?_) (by simp only [List.getElem?_toArray, List.getElem?_cons_succ, List.getElem?_cons_zero]; rfl) (by kernel_rfl) (by kernel_rfl) (by kernel_rfl) (fun _ _ _ h => h) (Or.inl ⟨by rfl, ?_⟩) (by assumption) ?_
          rotate_left
          focus (intro w hSw; (try dsimp only at hSw); (try have hS1 := hSw.1); (try have hS2 := hSw.2); (try have hS3 := hSw.2.1); (try have hS4 := hSw.2.2); go_simp; try with_reducible rfl)
          (try simp only [Act.put, List.setIfInBounds_toArray, List.set_cons_zero, List.set_cons_succ])
          refine wpAnyH_take (i := 6) (oi := _) (v := ?_) (by simp only [List.getElem?_toArray, List.getElem?_cons_succ, List.getElem?_cons_zero]; rfl) (by kernel_rfl) (by kernel_rfl) (by kernel_rfl) (fun _ _ _ h => h) (Or.inl ⟨by rfl, ?_⟩) (by assumption) ?_
          rotate_left
          focus (intro w hSw; (try dsimp only at hSw); (try have hS1 := hSw.1); (try have hS2 := hSw.2); (try have hS3 := hSw.2.1); (try have hS4 := hSw.2.2); go_simp; try with_reducible rfl)
          (try simp only [Act.put, List.setIfInBounds_toArray, List.set_cons_zero, List.set_cons_succ])
          refine wpAnyH_take (i := 7) (oi := _) (v := ?_) (by simp only [List.getElem?_toArray, List.getElem?_cons_succ, List.getElem?_cons_zero]; rfl) (by kernel_rfl) (by kernel_rfl) (by kernel_rfl) (fun _ _ _ h => h) (Or.inl ⟨by rfl, ?_⟩) (by assumption) ?_
          rotate_left
          focus (intro w hSw; (try dsimp only at hSw); (try have hS1 := hSw.1); (try have hS2 := hSw.2); (try have hS3 := hSw.2.1); (try have hS4 := hSw.2.2); go_simp; try with_reducible rfl)
          (try simp only [Act.put, List.setIfInBounds_toArray, List.set_cons_zero, List.set_cons_succ])
          refine wpAnyH_take (i := 8) (oi := _) (v := ?_) (by simp only [List.getElem?_toArray, List.getElem?_cons_succ, List.getElem?_cons_zero]; rfl) (by kernel_rfl) (by kernel_rfl) (by kernel_rfl) (fun _ _ _ h => h) (Or.inl ⟨by rfl, ?_⟩) (by assumption) ?_
          rotate_left
          focus (intro w hSw; (try dsimp only at hSw); (try have hS1 := hSw.1); (try have hS2 := hSw.2); (try have hS3 := hSw.2.1); (try have hS4 := hSw.2.2); go_simp; try with_reducible rfl)
          (try simp only [Act.put, List.setIfInBounds_toArray, List.set_cons_zero, List.set_cons_succ])
          refine wpAnyH_take (i := 9) (oi := _) (v := ?_) (by simp only [List.getElem?_toArray, List.getElem?_cons_succ, List.getElem?_cons_zero]; rfl) (by kernel_rfl) (by kernel_rfl) (by kernel_rfl) (fun _ _ _ h => h) (Or.inl ⟨by rfl, ?_⟩) (by assumption) ?_
          rotate_left
          focus (intro w hSw; (try dsimp only at hSw); (try have hS1 := hSw.1); (try have hS2 := hSw.2); (try have hS3 := hSw.2.1); (try have hS4 := hSw.2.2); go_simp; try with_reducible rfl)
          (try simp only [Act.put, List.setIfInBounds_toArray, List.set_cons_zero, List.set_cons_succ])
          have J0 := Lib.hid (PlI.nil (W := Y) (wx := Y.drew) (by repeat (first | with_reducible exact Below.refl _ _ | (with_reducible refine Below.alloc ?_ ?_ _; rotate_left; focus ((try simp) <;> omega)) | (with_reducible refine Below.setCell ?_ ?_ _; rotate_left; focus ((try simp) <;> omega)) | (with_reducible refine below_grow ?_ ?_; rotate_left; focus ((try simp) <;> omega)) | (with_reducible refine below_putB ?_ ?_; rotate_left; focus ((try simp) <;> omega)) | with_reducible refine Below.drew ?_ | with_reducible refine below_drewN ?_ | with_reducible assumption | (with_reducible refine below_step (by assumption) ?_ ?_; rotate_left; focus ((try simp) <;> omega)))))
          refine wpAnyH_ready (rs := [4]) (by kernel_rfl) (by simp) ?_
          refine AllReadyH.cons (o := _) (by simp only [List.getElem?_toArray, List.getElem?_cons_succ, List.getElem?_cons_zero]; rfl) (fun K hK => ?_) AllReadyH.nil
          (refine step_append_line _ (by rfl) _ _ 69 (by rfl) Y.heap.size 30 i1' _ 2 16 Try.underlying69 HJ.1.out HJ.2.1.out HJ.2.2.1.out HJ.2.2.2.out rfl (by decide) _ _ (0) (k) ([]) (hds (R.take k)) (by rfl) (by rfl) J0.out.line ((HR1.out.keep J0.out.below).src' (hds_one _)) (by unfold maxLen; omega) (by omega) J0.out.below.size _ rfl ?_; intro v1 x1 hown1 hgrow1 hat1; have J1 := Lib.hid (J0.out.append (n' := k) (xs' := hds (R.take k)) hown1 hgrow1 hat1 rfl (by omega) (by simp [hds])); have ha1 : After Y x1 := ⟨J1.out.below⟩; obtain ⟨p1, q1, rfl, _, _⟩ := J1.out.line.shape; clear hown1 hgrow1 hat1)
          refine hK.out _ _ (by (try dsimp only); infer_instance) (fun hHeld => ?_)
          clear hK K
          (try simp only [Act.put, List.setIfInBounds_toArray, List.set_cons_zero, List.set_cons_succ])
          refine wpAnyH_ready (rs := [10]) (by kernel_rfl) (by simp) ?_
          refine AllReadyH.cons (o := _) (by simp only [List.getElem?_toArray, List.getElem?_cons_succ, List.getElem?_cons_zero]; rfl) (fun K hK => ?_) AllReadyH.nil
          (refine step_append_line _ (by rfl) _ _ 69 (by rfl) Y.heap.size 30 i1' _ 2 16 Try.underlying69 HJ.1.out HJ.2.1.out HJ.2.2.1.out HJ.2.2.2.out rfl (by decide) _ _ (k) (nr - (k + 1)) (hds (R.take k)) (hds (R.drop (k + 1))) (by rfl) (by rfl) J1.out.line ((HR2.out.keep J1.out.below).src' (hds_one _)) (by unfold maxLen; omega) (by omega) J1.out.below.size _ rfl ?_; intro v2 x2 hown2 hgrow2 hat2; have J2 := Lib.hid (J1.out.append (n' := p) (xs' := hds (R.take k ++ R.drop (k + 1))) hown2 hgrow2 hat2 rfl (by omega) (by simp [hds])); have ha2 : After Y x2 := ⟨J2.out.below⟩; obtain ⟨p2, q2, rfl, _, _⟩ := J2.out.line.shape; clear hown2 hgrow2 hat2)
          refine hK.out _ _ (by (try dsimp only); infer_instance) (fun hHeld => ?_)
          clear hK K
          (try simp only [Act.put, List.setIfInBounds_toArray, List.set_cons_zero, List.set_cons_succ])
          refine wpAnyH_take (i := 11) (oi := _) (v := ?_) (by simp only [List.getElem?_toArray, List.getElem?_cons_succ, List.getElem?_cons_zero]; rfl) (by kernel_rfl) (by kernel_rfl) (by kernel_rfl) (fun _ _ _ h => h) (Or.inl ⟨by rfl, ?_⟩) (by assumption) ?_
          rotate_left
          focus (intro w hSw; (try dsimp only at hSw); (try have hS1 := hSw.1); (try have hS2 := hSw.2); (try have hS3 := hSw.2.1); (try have hS4 := hSw.2.2); go_simp; try with_reducible rfl)
          (try simp only [Act.put, List.setIfInBounds_toArray, List.set_cons_zero, List.set_cons_succ])
          refine wpAnyH_ready (rs := [12]) (by kernel_rfl) (by simp) ?_
          refine AllReadyH.cons (o := _) (by simp only [List.getElem?_toArray, List.getElem?_cons_succ, List.getElem?_cons_zero]; rfl) (fun K hK => ?_) AllReadyH.nil
          go_simp
          refine hK.out _ _ (by (try dsimp only); infer_instance) (fun hHeld => ?_)
          clear hK K
          (try simp only [Act.put, List.setIfInBounds_toArray, List.set_cons_zero, List.set_cons_succ])
          refine wpAnyH_done (by kernel_rfl) ?_ _
          refine NoPanic.normal ?_
          go_wp2_with fail
          go_meet
          exact ⟨p2, p, q2, hp, by infer_instance, by infer_instance, J2.out.put_line (by omega), CY.trans (J2.out.put_below2 (B := w2.heap.size) ⟨by omega, by omega⟩)⟩

      case rest =>
        clear p hp y9 y10 hl2
        obtain ⟨a7, p, c7, hp, z9, z10, hL7, hbz⟩ := hcut
        have hbzs := hbz.size
        have HL7 := Lib.hid hL7
        have HP := Lib.hid hp
        have kk := fun (w' : World) (q : Below w2.heap.size w2 w') (l : Has w' 2 (.slice a7 p c7) p (hds (R.take k ++ R.drop (k + 1)))) => HM.out.lack q hkn hp l
        have ko := fun (w' : World) (q : Below w2.heap.size w2 w') (a : Option Addr) (c : Nat) (y : Int) (hy : y ≠ (R.getD k (0, 0)).2) (l : Has w' 2 (.slice a nr c) nr (hds (R.set k ((R.getD k (0, 0)).1, y)))) => HM.out.other q hkn hy l
        unfold snapV at kk ko
        have hgen := HM.out.gen hkn
        obtain ⟨g', off', c', ev, hgg, _, r0, r1⟩ := hd_cells (Has.of_line HM.out.four.r) HM.out.l2 k hkn
        simp only [Value.slice.injEq, Option.some.injEq, Addr.mk.injEq, true_and, and_true] at ev
        obtain ⟨⟨rfl, rfl⟩, rfl⟩ := ev
        obtain ⟨s, hs⟩ : ∃ s, s = (R.getD k (0, 0)).1 := ⟨_, rfl⟩
        obtain ⟨gn, hgn⟩ : ∃ gn, gn = (R.getD k (0, 0)).2 := ⟨_, rfl⟩
        rw [← hs] at kk ko r0
        rw [← hgn] at ko hgen r1
        obtain ⟨hgn0, hgn1⟩ := hgen
        have KK := Lib.hid kk
        have KO := Lib.hid ko
        have HS := Lib.hid hs
        have HGN := Lib.hid hgn
        clear kk ko hL7 hp hs hgn
        go_wp2_with fail
        refine (KK.out _ hbz (Has.of_line HL7.out)).2.mono ?_
        rintro e w8 ⟨a8, c8, rfl, hL8, hb8⟩
        have ha8 : After _ w8 := ⟨hb8⟩
        have C8 : RowKit.Below w2.heap.size w2 w8 := hbz.trans (hb8.mono hbzs)
        have hL7 := HL7.out.keep hb8
        have HL8 := Lib.hid hL7
        rw [show ([s] : List Int).length = 1 from rfl] at hL8 ⊢
        obtain ⟨g8, off8, _, ev8, _, hg8, hc8, _⟩ := hL8.form (by decide)
        simp only [Value.slice.injEq, true_and] at ev8
        obtain ⟨rfl, rfl⟩ := ev8
        have hcell8 := hL8.cell (j := 0) (u := .int .i64 s) rfl
        rw [Nat.add_zero] at hcell8
        have HC8 := Lib.hid hcell8
        have HCG := Lib.hid (keep_cell C8 hgg r0)
        have hgg8 : g < w8.heap.size := Nat.lt_of_lt_of_le hgg C8.size
        have m9 : BlkIs w8 w2.heap.size #[.slice sa n sc, .slice (some ⟨g, off, none⟩) nr rc, .slice wa nw wq, .slice ha nh hc] 71 := inferInstance
        have m10 : BlkIs w8 w5.heap.size #[.slice sa n sc, .slice a7 p c7, .slice wa nw wq, .slice ha nh hc] 71 := inferInstance
        have hC8 := C8.size
        have hl108 := m10.lt
        clear hL8 hcell8 hL7 HL7 r0 r1 z9 z10 hbz hbzs ha8 hb8
        go_wp2_with fail
        refine wp_region_noPanic ?_
        refine wp_region_held_drew (S := (fun w' => BlkIs w' w5.heap.size #[.slice sa n sc, .slice a7 p c7, .slice wa nw wq, .slice ha nh hc] 71 ∧ BlkIs w' w2.heap.size #[.slice sa n sc, .slice (some ⟨g, off, none⟩) nr rc, .slice wa nw wq, .slice ha nh hc] 71 ∧ w'.cell? ⟨g8, off8, none⟩ = some (.int .i64 s) ∧ w'.cell? ⟨g, off + k * 2, none⟩ = some (.int .i64 s))) (by kernel_rfl) (by (try dsimp only); exact ⟨by infer_instance, by infer_instance, HC8.out, HCG.out⟩) (fun hHeld => ?_)
        refine wpAnyH_take (i := 0) (oi := _) (v := ?_) (by simp only [List.getElem?_toArray, List.getElem?_cons_zero]; rfl) (by kernel_rfl) (by kernel_rfl) (by kernel_rfl) (fun _ _ _ h => h) (Or.inl ⟨by rfl, ?_⟩) (by assumption) ?_
        rotate_left
        focus (intro w hSw; (try dsimp only at hSw); (try have hS1 := hSw.1); (try have hS2 := hSw.2); (try have hS3 := hSw.2.1); (try have hS4 := hSw.2.2); go_simp; try with_reducible rfl)
        (try simp only [Act.put, List.setIfInBounds_toArray, List.set_cons_zero, List.set_cons_succ])
        refine wpAnyH_ready (rs := [1]) (by kernel_rfl) (by simp) ?_
        refine AllReadyH.cons (o := _) (by simp only [List.getElem?_toArray, List.getElem?_cons_succ, List.getElem?_cons_zero]; rfl) (fun K hK => ?_) AllReadyH.nil
        go_simp
        (refine (KK.out _ (Below.drew C8) (Has.of_line (HL8.out.keep (Below.drew (Below.refl _ _))))).1.mono ?_; rintro e w9 ⟨rfl, hb9⟩; have ha9 : After _ w9 := ⟨hb9⟩; have C9 : RowKit.Below w2.heap.size w2 w9 := (Below.drew C8).trans (hb9.mono hC8))
        try go_wp2_with fail
        refine hK.out _ _ (by (try dsimp only); exact ⟨by infer_instance, by infer_instance, keep_cell hb9 hg8 HC8.out, keep_cell hb9 hgg8 HCG.out⟩) (fun hHeld => ?_)
        clear hK K
        (try simp only [Act.put, List.setIfInBounds_toArray, List.set_cons_zero, List.set_cons_succ])
        refine wpAnyH_take (i := 2) (oi := _) (v := ?_) (by simp only [List.getElem?_toArray, List.getElem?_cons_succ, List.getElem?_cons_zero]; rfl) (by kernel_rfl) (by kernel_rfl) (by kernel_rfl) (fun _ _ _ h => h) (Or.inl ⟨by rfl, ?_⟩) (by assumption) ?_
        rotate_left
        focus (intro w hSw; (try dsimp only at hSw); (try have hS1 := hSw.1); (try have hS2 := hSw.2); (try have hS3 := hSw.2.1); (try have hS4 := hSw.2.2); go_simp; try with_reducible rfl)
        (try simp only [Act.put, List.setIfInBounds_toArray, List.set_cons_zero, List.set_cons_succ])
        refine wpAnyH_take (i := 3) (oi := _) (v := ?_) (by simp only [List.getElem?_toArray, List.getElem?_cons_succ, List.getElem?_cons_zero]; rfl) (by kernel_rfl) (by kernel_rfl) (by kernel_rfl) (fun _ _ _ h => h) (Or.inl ⟨by rfl, ?_⟩) (by assumption) ?_
        rotate_left
        focus (intro w hSw; (try dsimp only at hSw); (try have hS1 := hSw.1); (try have hS2 := hSw.2); (try have hS3 := hSw.2.1); (try have hS4 := hSw.2.2); go_simp; try with_reducible rfl)
        (try simp only [Act.put, List.setIfInBounds_toArray, List.set_cons_zero, List.set_cons_succ])
        refine wpAnyH_take (i := 4) (oi := _) (v := ?_) (by simp only [List.getElem?_toArray, List.getElem?_cons_succ, List.getElem?_cons_zero]; rfl) (by kernel_rfl) (by kernel_rfl) (by kernel_rfl) (fun _ _ _ h => h) (Or.inl ⟨by rfl, ?_⟩) (by assumption) ?_
        rotate_left
        focus (intro w hSw; (try dsimp only at hSw); (try have hS1 := hSw.1); (try have hS2 := hSw.2); (try have hS3 := hSw.2.1); (try have hS4 := hSw.2.2); go_simp; try with_reducible rfl)
        (try simp only [Act.put, List.setIfInBounds_toArray, List.set_cons_zero, List.set_cons_succ])
        refine wpAnyH_take (i := 5) (oi := _) (v := ?_) (by simp only [List.getElem?_toArray, List.getElem?_cons_succ, List.getElem?_cons_zero]; rfl) (by kernel_rfl) (by kernel_rfl) (by kernel_rfl) (fun _ _ _ h => h) (Or.inl ⟨by rfl, ?_⟩) (by assumption) ?_
        rotate_left
        focus (intro w hSw; (try dsimp only at hSw); (try have hS1 := hSw.1); (try have hS2 := hSw.2); (try have hS3 := hSw.2.1); (try have hS4 := hSw.2.2); go_simp; try with_reducible rfl)
        (try simp only [Act.put, List.setIfInBounds_toArray, List.set_cons_zero, List.set_cons_succ])
        refine wpAnyH_take (i := 6) (oi := _) (v := ?_) (by simp only [List.getElem?_toArray, List.getElem?_cons_succ, List.getElem?_cons_zero]; rfl) (by kernel_rfl) (by kernel_rfl) (by kernel_rfl) (fun _ _ _ h => h) (Or.inl ⟨by rfl, ?_⟩) (by assumption) ?_
        rotate_left
        focus (intro w hSw; (try dsimp only at hSw); (try have hS1 := hSw.1); (try have hS2 := hSw.2); (try have hS3 := hSw.2.1); (try have hS4 := hSw.2.2); go_simp; try with_reducible rfl)
        (try simp only [Act.put, List.setIfInBounds_toArray, List.set_cons_zero, List.set_cons_succ])
        refine wpAnyH_take (i := 7) (oi := _) (v := ?_) (by simp only [List.getElem?_toArray, List.getElem?_cons_succ, List.getElem?_cons_zero]; rfl) (by kernel_rfl) (by kernel_rfl) (by kernel_rfl) (fun _ _ _ h => h) (Or.inl ⟨by rfl, ?_⟩) (by assumption) ?_
        rotate_left
        focus (intro w hSw; (try dsimp only at hSw); (try have hS1 := hSw.1); (try have hS2 := hSw.2); (try have hS3 := hSw.2.1); (try have hS4 := hSw.2.2); go_simp; try with_reducible rfl)
        (try simp only [Act.put, List.setIfInBounds_toArray, List.set_cons_zero, List.set_cons_succ])
        refine wpAnyH_take (i := 8) (oi := _) (v := ?_) (by simp only [List.getElem?_toArray, List.getElem?_cons_succ, List.getElem?_cons_zero]; rfl) (by kernel_rfl) (by kernel_rfl) (by kernel_rfl) (fun _ _ _ h => h) (Or.inl ⟨by rfl, ?_⟩) (by assumption) ?_
        rotate_left
        focus (intro w hSw; (try dsimp only at hSw); (try have hS1 := hSw.1); (try have hS2 := hSw.2); (try have hS3 := hSw.2.1); (try have hS4 := hSw.2.2); go_simp; try with_reducible rfl)
        (try simp only [Act.put, List.setIfInBounds_toArray, List.set_cons_zero, List.set_cons_succ])
        refine wpAnyH_take (i := 9) (oi := _) (v := ?_) (by simp only [List.getElem?_toArray, List.getElem?_cons_succ, List.getElem?_cons_zero]; rfl) (by kernel_rfl) (by kernel_rfl) (by kernel_rfl) (fun _ _ _ h => h) (Or.inl ⟨by rfl, ?_⟩) (by assumption) ?_
        rotate_left
        focus (intro w hSw; (try dsimp only at hSw); (try have hS1 := hSw.1); (try have hS2 := hSw.2); (try have hS3 := hSw.2.1); (try have hS4 := hSw.2.2); go_simp; try with_reducible rfl)
        (try simp only [Act.put, List.setIfInBounds_toArray, List.set_cons_zero, List.set_cons_succ])
        refine wpAnyH_take (i := 10) (oi := _) (v := ?_) (by simp only [List.getElem?_toArray, List.getElem?_cons_succ, List.getElem?_cons_zero]; rfl) (by kernel_rfl) (by kernel_rfl) (by kernel_rfl) (fun _ _ _ h => h) (Or.inl ⟨by rfl, ?_⟩) (by assumption) ?_
        rotate_left
        focus (intro w hSw; (try dsimp only at hSw); (try have hS1 := hSw.1); (try have hS2 := hSw.2); (try have hS3 := hSw.2.1); (try have hS4 := hSw.2.2); go_simp; try with_reducible rfl)
        (try simp only [Act.put, List.setIfInBounds_toArray, List.set_cons_zero, List.set_cons_succ])
        refine wpAnyH_take (i := 11) (oi := _) (v := ?_) (by simp only [List.getElem?_toArray, List.getElem?_cons_succ, List.getElem?_cons_zero]; rfl) (by kernel_rfl) (by kernel_rfl) (by kernel_rfl) (fun _ _ _ h => h) (Or.inl ⟨by rfl, ?_⟩) (by assumption) ?_
        rotate_left
        focus (intro w hSw; (try dsimp only at hSw); (try have hS1 := hSw.1); (try have hS2 := hSw.2); (try have hS3 := hSw.2.1); (try have hS4 := hSw.2.2); go_simp; try with_reducible rfl)
        (try simp only [Act.put, List.setIfInBounds_toArray, List.set_cons_zero, List.set_cons_succ])
        refine wpAnyH_take (i := 12) (oi := _) (v := ?_) (by simp only [List.getElem?_toArray, List.getElem?_cons_succ, List.getElem?_cons_zero]; rfl) (by kernel_rfl) (by kernel_rfl) (by kernel_rfl) (fun _ _ _ h => h) (Or.inl ⟨by rfl, ?_⟩) (by assumption) ?_
        rotate_left
        focus (intro w hSw; (try dsimp only at hSw); (try have hS1 := hSw.1); (try have hS2 := hSw.2); (try have hS3 := hSw.2.1); (try have hS4 := hSw.2.2); go_simp; try with_reducible rfl)
        (try simp only [Act.put, List.setIfInBounds_toArray, List.set_cons_zero, List.set_cons_succ])
        refine wpAnyH_take (i := 13) (oi := _) (v := ?_) (by simp only [List.getElem?_toArray, List.getElem?_cons_succ, List.getElem?_cons_zero]; rfl) (by kernel_rfl) (by kernel_rfl) (by kernel_rfl) (fun _ _ _ h => h) (Or.inl ⟨by rfl, ?_⟩) (by assumption) ?_
        rotate_left
        focus (intro w hSw; (try dsimp only at hSw); (try have hS1 := hSw.1); (try have hS2 := hSw.2); (try have hS3 := hSw.2.1); (try have hS4 := hSw.2.2); go_simp; try with_reducible rfl)
        (try simp only [Act.put, List.setIfInBounds_toArray, List.set_cons_zero, List.set_cons_succ])
        refine wpAnyH_take (i := 14) (oi := _) (v := ?_) (by simp only [List.getElem?_toArray, List.getElem?_cons_succ, List.getElem?_cons_zero]; rfl) (by kernel_rfl) (by kernel_rfl) (by kernel_rfl) (fun _ _ _ h => h) (Or.inl ⟨by rfl, ?_⟩) (by assumption) ?_
        rotate_left
        focus (intro w hSw; (try dsimp only at hSw); (try have hS1 := hSw.1); (try have hS2 := hSw.2); (try have hS3 := hSw.2.1); (try have hS4 := hSw.2.2); go_simp; try with_reducible rfl)
        (try simp only [Act.put, List.setIfInBounds_toArray, List.set_cons_zero, List.set_cons_succ])
        refine wpAnyH_take (i := 15) (oi := _) (v := ?_) (by simp only [List.getElem?_toArray, List.getElem?_cons_succ, List.getElem?_cons_zero]; rfl) (by kernel_rfl) (by kernel_rfl) (by kernel_rfl) (fun _ _ _ h => h) (Or.inl ⟨by rfl, ?_⟩) (by assumption) ?_
        rotate_left
        focus (intro w hSw; (try dsimp only at hSw); (try have hS1 := hSw.1); (try have hS2 := hSw.2); (try have hS3 := hSw.2.1); (try have hS4 := hSw.2.2); go_simp; try with_reducible rfl)
        (try simp only [Act.put, List.setIfInBounds_toArray, List.set_cons_zero, List.set_cons_succ])
        refine wpAnyH_take (i := 16) (oi := _) (v := ?_) (by simp only [List.getElem?_toArray, List.getElem?_cons_succ, List.getElem?_cons_zero]; rfl) (by kernel_rfl) (by kernel_rfl) (by kernel_rfl) (fun _ _ _ h => h) (Or.inl ⟨by rfl, ?_⟩) (by assumption) ?_
        rotate_left
        focus (intro w hSw; (try dsimp only at hSw); (try have hS1 := hSw.1); (try have hS2 := hSw.2); (try have hS3 := hSw.2.1); (try have hS4 := hSw.2.2); go_simp; try with_reducible rfl)
        (try simp only [Act.put, List.setIfInBounds_toArray, List.set_cons_zero, List.set_cons_succ])
        refine wpAnyH_take (i := 17) (oi := _) (v := ?_) (by simp only [List.getElem?_toArray, List.getElem?_cons_succ, List.getElem?_cons_zero]; rfl) (by kernel_rfl) (by kernel_rfl) (by kernel_rfl) (fun _ _ _ h => h) (Or.inl ⟨by rfl, ?_⟩) (by assumption) ?_
        rotate_left
        focus (intro w hSw; (try dsimp only at hSw); (try have hS1 := hSw.1); (try have hS2 := hSw.2); (try have hS3 := hSw.2.1); (try have hS4 := hSw.2.2); go_simp; try with_reducible rfl)
        (try simp only [Act.put, List.setIfInBounds_toArray, List.set_cons_zero, List.set_cons_succ])
        refine wpAnyH_take (i := 18) (oi := _) (v := ?_) (by simp only [List.getElem?_toArray, List.getElem?_cons_succ, List.getElem?_cons_zero]; rfl) (by kernel_rfl) (by kernel_rfl) (by kernel_rfl) (fun _ _ _ h => h) (Or.inl ⟨by rfl, ?_⟩) (by assumption) ?_
        rotate_left
        focus (intro w hSw; (try dsimp only at hSw); (try have hS1 := hSw.1); (try have hS2 := hSw.2); (try have hS3 := hSw.2.1); (try have hS4 := hSw.2.2); go_simp; try with_reducible rfl)
        (try simp only [Act.put, List.setIfInBounds_toArray, List.set_cons_zero, List.set_cons_succ])
        refine wpAnyH_done (by kernel_rfl) ?_ _
        refine NoPanic.normal ?_
        have n9 : BlkIs w9 w2.heap.size #[.slice sa n sc, .slice (some ⟨g, off, none⟩) nr rc, .slice wa nw wq, .slice ha nh hc] 71 := inferInstance
        have n10 : BlkIs w9 w5.heap.size #[.slice sa n sc, .slice a7 p c7, .slice wa nw wq, .slice ha nh hc] 71 := inferInstance
        have hl109 := n10.lt
        have hC9 := C9.size
        have HR9 := Lib.hid (Has.of_line (HM.out.four.keep C9).r)
        clear m9 m10 HL8 HC8 HCG hb9 ha9 hgg8 KK hl108
        go_wp2_with (at_builtin; refine wpList_append_line _ (by rfl) _ _ 69 (by rfl) w9.heap.size 30 i1' _ 2 16 Try.underlying69 HJ.1.out HJ.2.1.out HJ.2.2.1.out HJ.2.2.2.out rfl (by decide) _ _ 0 nr [] (hds R) (by rfl) (by rfl) (Line.nil _ _ _) (HR9.out.src' (hds_one _)) (by unfold maxLen; omega) (by omega) (Nat.le_refl _) _ rfl ?_; intro v5 w10 hown5 hgrow5 hat5; have K10 : RowKit.Below w9.heap.size w9 w10 := RowKit.Below.grown (Below.refl _ _) hgrow5 (Nat.le_refl _) (fun q hq => by simp [Value.ownBlock] at hq); have ha10 : After w9 w10 := ⟨K10⟩; have C10 : RowKit.Below w2.heap.size w2 w10 := C9.trans (K10.mono hC9); simp only [Nat.zero_add, List.nil_append] at hown5; obtain ⟨g10, off10, c10, rfl, hg10, hg10', hn10, _⟩ := hown5.form hr0; obtain ⟨_, _, _, ev10, _, _, s0, s1⟩ := hd_cells (Has.of_line hown5) HM.out.l2 k hkn; simp only [Value.slice.injEq, Option.some.injEq, Addr.mk.injEq, true_and, and_true] at ev10; obtain ⟨⟨rfl, rfl⟩, rfl⟩ := ev10; have hf10 := (hown5.free (j := k * 2 + 1) (by omega)).2; rw [← Nat.add_assoc] at hf10; rw [← HGN.out] at s1; have og10 : Old g10 w10 := ⟨hg10'⟩; have nb10 : NeB w5.heap.size g10 := ⟨by omega⟩; have nb11 : NeB g10 w5.heap.size := ⟨by omega⟩; have HO10 := Lib.hid hown5; have hz10 := K10.size; clear s0 hown5 hgrow5 hat5)
        have HX := gen_put (x := (gn + 1) % 4294967296) (HO10.out.block (w' := putB w10 w5.heap.size #[.slice sa n sc, .slice (some ⟨g10, off10, none⟩) nr c10, .slice wa nw wq, .slice ha nh hc] 71) (by simp) (fun q hq => putB_other (by have := (HO10.out.lt hq).1; omega))) HM.out.l2 hkn
        rw [← HS.out] at HX
        obtain ⟨X, hX⟩ : ∃ X, X = (putB w10 w5.heap.size #[.slice sa n sc, .slice (some ⟨g10, off10, none⟩) nr c10, .slice wa nw wq, .slice ha nh hc] 71).setCell ⟨g10, off10 + k * 2 + 1, none⟩ (.int .u32 ((gn + 1) % 4294967296)) := ⟨_, rfl⟩
        have CX : RowKit.Below w2.heap.size w2 X := by rw [hX]; exact (by repeat (first | with_reducible exact Below.refl _ _ | (with_reducible refine Below.alloc ?_ ?_ _; rotate_left; focus ((try simp) <;> omega)) | (with_reducible refine Below.setCell ?_ ?_ _; rotate_left; focus ((try simp) <;> omega)) | (with_reducible refine below_grow ?_ ?_; rotate_left; focus ((try simp) <;> omega)) | (with_reducible refine below_putB ?_ ?_; rotate_left; focus ((try simp) <;> omega)) | with_reducible refine Below.drew ?_ | with_reducible refine below_drewN ?_ | with_reducible assumption | (with_reducible refine below_step (by assumption) ?_ ?_; rotate_left; focus ((try simp) <;> omega))))
        have x10 : BlkIs X w5.heap.size #[.slice sa n sc, .slice (some ⟨g10, off10, none⟩) nr c10, .slice wa nw wq, .slice ha nh hc] 71 := by rw [hX]; infer_instance
        rw [← hX] at HX ⊢
        have hyn : (gn + 1) % 4294967296 ≠ gn := by omega
        refine (KO.out _ CX _ _ _ hyn (Has.of_line HX)).1.mono ?_
        rintro e w11 ⟨rfl, hb11⟩
        have ha11 : After _ w11 := ⟨hb11⟩
        have C11 : RowKit.Below w2.heap.size w2 w11 := CX.trans (hb11.mono CX.size)
        have HX11 := Lib.hid (HX.keep hb11)
        clear HX hX
        go_wp2_with fail
        refine (KO.out _ C11 _ _ _ hyn (Has.of_line HX11.out)).2.mono ?_
        rintro e w12 ⟨a12, c12, rfl, hL12, hb12⟩
        have C12 : RowKit.Below w2.heap.size w2 w12 := C11.trans (hb12.mono C11.size)
        rw [show ([s] : List Int).length = 1 from rfl]
        go_wp2_with fail
        refine ret_any ⟨_, by simp [results, Try.results12, go_sem, *]; rfl, ?_⟩ rfl
        exact gives_of rfl (B2.trans (C12.mono B2.size))
end Go.Proofs.Ytjlclpdjblicjaa
