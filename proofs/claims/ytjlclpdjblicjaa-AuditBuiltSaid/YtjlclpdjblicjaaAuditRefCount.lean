/-
  The reference's Counted, by its contract: what Counted tells. No condition but that slots and handles are not too many.
-/
import Derived.Test.YtjlclpdjblicjaaAuditCount
namespace Go.Proofs.Ytjlclpdjblicjaa
open Go.RowKit Go.Sort Go.BigFrame
set_option linter.unusedVariables false
attribute [local go_sem ↓] Go.wp_at_zero Go.wp_at_succ
theorem getD_cat0 (R W H : List (Int × Int)) (i : Nat) (h : i < R.length) : (R ++ W ++ H).getD (0 + i) (0, 0) = R.getD i (0, 0) := by
  rw [List.append_assoc, List.getD_eq_getElem?_getD, List.getD_eq_getElem?_getD, Nat.zero_add, List.getElem?_append_left h]
theorem getD_cat1 (R W H : List (Int × Int)) (i : Nat) (h : i < W.length) : (R ++ W ++ H).getD (R.length + i) (0, 0) = W.getD i (0, 0) := by
  rw [List.append_assoc, List.getD_eq_getElem?_getD, List.getD_eq_getElem?_getD, List.getElem?_append_right (by omega), Nat.add_sub_cancel_left, List.getElem?_append_left h]
theorem getD_cat2 (R W H : List (Int × Int)) (i : Nat) (h : i < H.length) : (R ++ W ++ H).getD (R.length + W.length + i) (0, 0) = H.getD i (0, 0) := by
  rw [List.getD_eq_getElem?_getD, List.getD_eq_getElem?_getD, List.getElem?_append_right (by simp), List.length_append, Nat.add_sub_cancel_left]
set_option maxRecDepth 100000 in
set_option maxHeartbeats 8000000 in
theorem refCountedS {sv rv wv hv : Value} {n nr nw nh : Nat} {S R Wr H : List (Int × Int)} {w : World} (h : SnapW w sv rv wv hv n nr nw nh S R Wr H) :
    Calls Try.prog 39 #[snapV sv rv wv hv] w fun e w' => ∃ v, e = .returned v ∧ Line w' w.heap.size 1 v n (ints (cntL S (R ++ Wr ++ H) n (nr + nw + nh))) ∧ Below w.heap.size w w' := by
  have hsn := h
  have hbs := h.bs
  have hbr := h.br
  have hbw := h.bw
  have hbh := h.bh
  have hL : (R ++ Wr ++ H).length = nr + nw + nh := by rw [List.length_append, List.length_append, h.lr, h.lw, h.lh]
  have g0 := fun i hi => getD_cat0 R Wr H i hi
  have g1 := fun i hi => getD_cat1 R Wr H i hi
  have g2 := fun i hi => getD_cat2 R Wr H i hi
  rw [h.lr] at g0 g1 g2
  rw [h.lw] at g1 g2
  rw [h.lh] at g2
  obtain ⟨L, hLL⟩ : ∃ L, L = R ++ Wr ++ H := ⟨_, rfl⟩
  rw [← hLL] at hL g0 g1 g2 ⊢
  have HSN := Lib.hid hsn
  have HL := Lib.hid hL
  have G0 := Lib.hid g0
  have G1 := Lib.hid g1
  have G2 := Lib.hid g2
  obtain ⟨sa, sc, rfl, hsc, hsc'⟩ := h.s.shape
  obtain ⟨ra, rc, rfl, _, hrc⟩ := h.r.shape
  obtain ⟨wa, wc, rfl, _, hwc⟩ := h.p.shape
  obtain ⟨ha, hc, rfl, _, hhc⟩ := h.h.shape
  unfold maxLen at hsc' hrc hwc hhc
  obtain ⟨i0, hi, hz0, hz1, hz2⟩ := info_parts info3
  obtain ⟨W2, hrun, hown, hgrow⟩ := run_make_full (P := Try.prog) (w.alloc (.cells #[.slice sa n sc, .slice ra nr rc, .slice wa nw wc, .slice ha nh hc] 71)) w.heap.size 75 3 i0 _ 1 Try.underlying75 hi hz0 hz1 .i64 .i64 n (by rw [hz2]; omega) (by unfold maxLen; omega) (by simp)
  rw [made_ints, ← cntL_zero S L n] at hown
  have hB2 : RowKit.Below (w.alloc (.cells #[.slice sa n sc, .slice ra nr rc, .slice wa nw wc, .slice ha nh hc] 71)).heap.size (w.alloc (.cells #[.slice sa n sc, .slice ra nr rc, .slice wa nw wc, .slice ha nh hc] 71)) W2 := RowKit.Below.grown (Below.refl _ _) hgrow (Nat.le_refl _) (fun q hq => by simp at hq)
  have hW2 : RowKit.Below w.heap.size w W2 := ((Below.refl w.heap.size w).alloc (Nat.le_refl _) _).trans (hB2.mono (by simp))
  have hl2 : Line W2 w.heap.size 1 _ n _ := Line.of_own hown
  have hz2' : w.heap.size + 1 < W2.heap.size := by have := (hl2.lt rfl).2; simpa using this
  have bx : BlkIs W2 w.heap.size #[.slice sa n sc, .slice ra nr rc, .slice wa nw wc, .slice ha nh hc] 71 := ⟨by rw [hB2.block w.heap.size (by simp)]; exact heap_alloc_new w _⟩
  have HLN := Lib.hid hl2
  clear h hsn hLL hL g0 g1 g2 hi hz0 hz1 hz2 hown hgrow hB2 hl2
  have ny : NeB w.heap.size (w.heap.size + 1) := ⟨by omega⟩
  simp only [snapV]
  go_enter Try.func39, Try.ntmps39
  go_wp2_with fail
  simp only [World.size_alloc] at HLN ⊢
  go_loopw [20] (fun s20 wr => ∃ (j K : Nat), j ≤ 3 ∧ s20 = .int .i64 j ∧ ((j = 0 ∧ K = 0) ∨ (j = 1 ∧ K = nr) ∨ (j = 2 ∧ K = nr + nw) ∨ (j = 3 ∧ K = nr + nw + nh)) ∧ BlkIs wr w.heap.size #[.slice sa n sc, .slice ra nr rc, .slice wa nw wc, .slice ha nh hc] 71 ∧ BlkIs wr W2.heap.size #[.slice ra nr rc, .slice wa nw wc, .slice ha nh hc] 69 ∧ Line wr w.heap.size 1 (.slice (some ⟨w.heap.size + 1, 0, none⟩) n n) n (ints (cntL S L n K)) ∧ Below w.heap.size w wr) (fun i _ => 3 - (intOf i).toNat)
  case atStart => exact ⟨0, 0, by omega, rfl, .inl ⟨rfl, rfl⟩, by infer_instance, by infer_instance, HLN.out.keep (by repeat (first | with_reducible exact Below.refl _ _ | (with_reducible refine Below.alloc ?_ ?_ _; rotate_left; focus ((try simp) <;> omega)) | (with_reducible refine Below.setCell ?_ ?_ _; rotate_left; focus ((try simp) <;> omega)) | (with_reducible refine below_grow ?_ ?_; rotate_left; focus ((try simp) <;> omega)) | (with_reducible refine below_putB ?_ ?_; rotate_left; focus ((try simp) <;> omega)) | with_reducible refine Below.drew ?_ | with_reducible refine below_drewN ?_ | with_reducible assumption | (with_reducible refine below_step (by assumption) ?_ ?_; rotate_left; focus ((try simp) <;> omega)))), (by repeat (first | with_reducible exact Below.refl _ _ | (with_reducible refine Below.alloc ?_ ?_ _; rotate_left; focus ((try simp) <;> omega)) | (with_reducible refine Below.setCell ?_ ?_ _; rotate_left; focus ((try simp) <;> omega)) | (with_reducible refine below_grow ?_ ?_; rotate_left; focus ((try simp) <;> omega)) | (with_reducible refine below_putB ?_ ?_; rotate_left; focus ((try simp) <;> omega)) | with_reducible refine Below.drew ?_ | with_reducible refine below_drewN ?_ | with_reducible assumption | (with_reducible refine below_step (by assumption) ?_ ?_; rotate_left; focus ((try simp) <;> omega))))⟩
  case round =>
    obtain ⟨j, K, hj, rfl, hjK, bx, by', hO, hbel⟩ := hrel
    have hbls := hbel.size
    have HO := Lib.hid hO
    have hlt2 := by'.lt
    clear hO
    obtain ⟨wo, hwo⟩ : ∃ wo : World, wo = wr := ⟨_, rfl⟩
    subst hwo
    rcases hjK with ⟨rfl, hK⟩ | ⟨rfl, hK⟩ | ⟨rfl, hK⟩ | ⟨rfl, hK⟩
    · have HK := Lib.hid hK
      clear hK
      go_wp2_with fail
      go_loopw [26] (fun s26 wr => ∃ (i : Nat), i ≤ nr ∧ s26 = .int .i64 i ∧ BlkIs wr w.heap.size #[.slice sa n sc, .slice ra nr rc, .slice wa nw wc, .slice ha nh hc] 71 ∧ BlkIs wr W2.heap.size #[.slice ra nr rc, .slice wa nw wc, .slice ha nh hc] 69 ∧ Line wr w.heap.size 1 (.slice (some ⟨w.heap.size + 1, 0, none⟩) n n) n (ints (cntL S L n (K + i))) ∧ Below w.heap.size w wr) (fun i _ => nr - (intOf i).toNat)
      case atStart => exact ⟨0, by omega, rfl, bx, by', HO.out, hbel⟩
      case round =>
        clear bx by'
        obtain ⟨i, hi, rfl, bx, by', hO, hb⟩ := hrel
        have hbs' := hb.size
        have HO := Lib.hid hO
        clear hO
        by_cases hlt : i < nr
        · obtain ⟨g, off, c, ev, hg, _, p0, p1⟩ := hd_cells HSN.out.r HSN.out.lr i hlt
          simp only [Value.slice.injEq, true_and] at ev
          obtain ⟨rfl, rfl⟩ := ev
          rw [← hb.cell (by simpa using hg)] at p0 p1
          have og : Old g wr := ⟨by omega⟩
          have hge := G0.out i hlt
          have hkL : K + i < L.length := by rw [HL.out, HK.out]; omega
          have hKi : 0 = K := HK.out.symm
          rw [hKi] at hge
          have hno := cntL_no S L n (K + i) hkL
          have hyes := fun s hs hn hb => cntL_yes S L n (K + i) s hkL hb hs hn
          have hcb := fun s => cntL_bd S L n (K + i) s
          rw [hge] at hno hyes
          obtain ⟨⟨s, gn⟩, hx⟩ : ∃ x, x = R.getD i (0, 0) := ⟨_, rfl⟩
          rw [← hx] at p0 p1 hno hyes
          dsimp only at p0 p1 hyes
          have HNO := Lib.hid hno
          have HYES := Lib.hid hyes
          have HCB := Lib.hid hcb
          have i3 : (i : Int) < (nr : Int) := by omega
          have i4 : (0 : Int) ≤ (i : Int) := by omega
          clear hkL hno hyes hcb hx hge hKi
          by_cases h0 : s < 0
          · have hof : ofB S (s, gn) = false := by unfold ofB; simp; omega
            have HOF := Lib.hid hof
            have h0' : decide (0 ≤ s) = false := by simp; omega
            clear hof
            go_wp2_with fail
            refine wp_region_quiet_below (by kernel_rfl) (by kernel_rfl) ?_
            repeat (first | go_big_quiet_step (((fail))) | quiet_step (((fail))))
            refine wpQuiet_nil ?_
            intro _ hw'
            obtain ⟨⟨dq, osq⟩, hw''⟩ := hw'
            subst hw''
            go_wp2_with fail
            go_roundw
            case rel => exact ⟨i + 1, by omega, by go_num, by infer_instance, by infer_instance, by rw [← Nat.add_assoc, HNO.out HOF.out]; exact HO.out.keep (by repeat (first | with_reducible exact Below.refl _ _ | (with_reducible refine Below.alloc ?_ ?_ _; rotate_left; focus ((try simp) <;> omega)) | (with_reducible refine Below.setCell ?_ ?_ _; rotate_left; focus ((try simp) <;> omega)) | (with_reducible refine below_grow ?_ ?_; rotate_left; focus ((try simp) <;> omega)) | (with_reducible refine below_putB ?_ ?_; rotate_left; focus ((try simp) <;> omega)) | with_reducible refine Below.drew ?_ | with_reducible refine below_drewN ?_ | with_reducible assumption | (with_reducible refine below_step (by assumption) ?_ ?_; rotate_left; focus ((try simp) <;> omega)))), (by repeat (first | with_reducible exact Below.refl _ _ | (with_reducible refine Below.alloc ?_ ?_ _; rotate_left; focus ((try simp) <;> omega)) | (with_reducible refine Below.setCell ?_ ?_ _; rotate_left; focus ((try simp) <;> omega)) | (with_reducible refine below_grow ?_ ?_; rotate_left; focus ((try simp) <;> omega)) | (with_reducible refine below_putB ?_ ?_; rotate_left; focus ((try simp) <;> omega)) | with_reducible refine Below.drew ?_ | with_reducible refine below_drewN ?_ | with_reducible assumption | (with_reducible refine below_step (by assumption) ?_ ?_; rotate_left; focus ((try simp) <;> omega))))⟩
            case measure => simp [intOf]; omega
          · by_cases h1 : (n : Int) ≤ s
            · have hof : ofB S (s, gn) = false := by
                unfold ofB
                have : ¬ (s < S.length) := by rw [HSN.out.ls]; omega
                simp [this]
              have HOF := Lib.hid hof
              have h0' : (0 : Int) ≤ s := by omega
              have h1' : decide (s < (n : Int)) = false := by rw [decide_eq_false_iff_not]; omega
              clear hof h0 h1
              go_wp2_with fail
              refine wp_region_quiet_below (by kernel_rfl) (by kernel_rfl) ?_
              repeat (first | go_big_quiet_step (((fail))) | quiet_step (((fail))))
              refine wpQuiet_nil ?_
              intro _ hw'
              obtain ⟨⟨dq, osq⟩, hw''⟩ := hw'
              subst hw''
              go_wp2_with fail
              go_roundw
              case rel => exact ⟨i + 1, by omega, by go_num, by infer_instance, by infer_instance, by rw [← Nat.add_assoc, HNO.out HOF.out]; exact HO.out.keep (by repeat (first | with_reducible exact Below.refl _ _ | (with_reducible refine Below.alloc ?_ ?_ _; rotate_left; focus ((try simp) <;> omega)) | (with_reducible refine Below.setCell ?_ ?_ _; rotate_left; focus ((try simp) <;> omega)) | (with_reducible refine below_grow ?_ ?_; rotate_left; focus ((try simp) <;> omega)) | (with_reducible refine below_putB ?_ ?_; rotate_left; focus ((try simp) <;> omega)) | with_reducible refine Below.drew ?_ | with_reducible refine below_drewN ?_ | with_reducible assumption | (with_reducible refine below_step (by assumption) ?_ ?_; rotate_left; focus ((try simp) <;> omega)))), (by repeat (first | with_reducible exact Below.refl _ _ | (with_reducible refine Below.alloc ?_ ?_ _; rotate_left; focus ((try simp) <;> omega)) | (with_reducible refine Below.setCell ?_ ?_ _; rotate_left; focus ((try simp) <;> omega)) | (with_reducible refine below_grow ?_ ?_; rotate_left; focus ((try simp) <;> omega)) | (with_reducible refine below_putB ?_ ?_; rotate_left; focus ((try simp) <;> omega)) | with_reducible refine Below.drew ?_ | with_reducible refine below_drewN ?_ | with_reducible assumption | (with_reducible refine below_step (by assumption) ?_ ?_; rotate_left; focus ((try simp) <;> omega))))⟩
              case measure => simp [intOf]; omega
            · obtain ⟨s', rfl⟩ : ∃ s' : Nat, s = s' := ⟨s.toNat, by omega⟩
              have hsn : s' < n := by omega
              obtain ⟨g', off', c', ev, hg', _, q0, q1⟩ := sl_cells HSN.out.s HSN.out.ls s' hsn
              simp only [Value.slice.injEq, true_and] at ev
              obtain ⟨rfl, rfl⟩ := ev
              rw [← hb.cell (by simpa using hg')] at q0
              have hofe : ofB S ((s' : Int), gn) = ((S.getD s' (0, 0)).1 == gn) := by
                unfold ofB
                have : ((s' : Int) < S.length) := by rw [HSN.out.ls]; omega
                simp [this]
              generalize (S.getD s' (0, 0)).1 = x at q0 hofe
              have og' : Old g' wr := ⟨by omega⟩
              have i5 : (s' : Int) < (n : Int) := by omega
              have i6 : (0 : Int) ≤ (s' : Int) := by omega
              have HE := Lib.hid hofe
              clear q1 hofe h0 h1
              by_cases hxg : x = gn
              · have hof : ofB S ((s' : Int), gn) = true := by rw [HE.out, beq_iff_eq]; exact hxg
                have hcell := HO.out.cell (j := s') (ints_get _ s' (by rw [cntL_len]; exact hsn))
                rw [Nat.zero_add] at hcell
                have hfree := (HO.out.free (j := s') (by omega)).2
                rw [Nat.zero_add] at hfree
                have hy := HYES.out s' rfl hsn hof
                have hcb := HCB.out s'
                obtain ⟨q, hq⟩ : ∃ q, q = (cntL S L n (K + i)).getD s' 0 := ⟨_, rfl⟩
                rw [← hq] at hcell hy hcb
                have HY := Lib.hid hy
                rw [HL.out] at hcb
                obtain ⟨hq0, hq1⟩ := hcb
                have i7 : q ≤ 30000000 := by omega
                have ow : Old (w.heap.size + 1) wr := ⟨by have := HO.out.lt (q := w.heap.size + 1) rfl; omega⟩
                have nz : NeB W2.heap.size (w.heap.size + 1) := ⟨by omega⟩
                clear hy hq hof
                subst hxg
                go_wp2_with fail
                refine wp_region_quiet_below (by kernel_rfl) (by kernel_rfl) ?_
                repeat (first | go_big_quiet_step (((fail))) | quiet_step (((fail))))
                refine wpQuiet_nil ?_
                intro _ hw'
                obtain ⟨⟨dq, osq⟩, hw''⟩ := hw'
                subst hw''
                go_wp2_with fail
                have hO4 := HO.out.keep (w' := grow (redrawn (wr.alloc (.cells #[.int .i64 s', .int .u32 x] 30)) dq) osq) (by repeat (first | with_reducible exact Below.refl _ _ | (with_reducible refine Below.alloc ?_ ?_ _; rotate_left; focus ((try simp) <;> omega)) | (with_reducible refine Below.setCell ?_ ?_ _; rotate_left; focus ((try simp) <;> omega)) | (with_reducible refine below_grow ?_ ?_; rotate_left; focus ((try simp) <;> omega)) | (with_reducible refine below_putB ?_ ?_; rotate_left; focus ((try simp) <;> omega)) | with_reducible refine Below.drew ?_ | with_reducible refine below_drewN ?_ | with_reducible assumption | (with_reducible refine below_step (by assumption) ?_ ?_; rotate_left; focus ((try simp) <;> omega))))
                have hp := hO4.put (i := s') (news := [.int .i64 (q + 1)]) (by simp; omega)
                rw [List.length_singleton, ints_set _ _ _ (by rw [cntL_len]; exact hsn), ← HY.out, Nat.zero_add] at hp
                have HP := Lib.hid hp
                clear hp hO4
                go_roundw
                case rel => exact ⟨i + 1, by omega, by go_num, by infer_instance, by infer_instance, by rw [← Nat.add_assoc]; exact HP.out, (by repeat (first | with_reducible exact Below.refl _ _ | (with_reducible refine Below.alloc ?_ ?_ _; rotate_left; focus ((try simp) <;> omega)) | (with_reducible refine Below.setCell ?_ ?_ _; rotate_left; focus ((try simp) <;> omega)) | (with_reducible refine below_grow ?_ ?_; rotate_left; focus ((try simp) <;> omega)) | (with_reducible refine below_putB ?_ ?_; rotate_left; focus ((try simp) <;> omega)) | with_reducible refine Below.drew ?_ | with_reducible refine below_drewN ?_ | with_reducible assumption | (with_reducible refine below_step (by assumption) ?_ ?_; rotate_left; focus ((try simp) <;> omega))))⟩
                case measure => simp [intOf]; omega
              · have hof : ofB S ((s' : Int), gn) = false := by rw [HE.out, beq_eq_false_iff_ne]; exact hxg
                have HOF := Lib.hid hof
                have h1' : (x == gn) = false := by rw [beq_eq_false_iff_ne]; exact hxg
                clear hof hxg
                go_wp2_with fail
                refine wp_region_quiet_below (by kernel_rfl) (by kernel_rfl) ?_
                repeat (first | go_big_quiet_step (((fail))) | quiet_step (((fail))))
                refine wpQuiet_nil ?_
                intro _ hw'
                obtain ⟨⟨dq, osq⟩, hw''⟩ := hw'
                subst hw''
                go_wp2_with fail
                go_roundw
                case rel => exact ⟨i + 1, by omega, by go_num, by infer_instance, by infer_instance, by rw [← Nat.add_assoc, HNO.out HOF.out]; exact HO.out.keep (by repeat (first | with_reducible exact Below.refl _ _ | (with_reducible refine Below.alloc ?_ ?_ _; rotate_left; focus ((try simp) <;> omega)) | (with_reducible refine Below.setCell ?_ ?_ _; rotate_left; focus ((try simp) <;> omega)) | (with_reducible refine below_grow ?_ ?_; rotate_left; focus ((try simp) <;> omega)) | (with_reducible refine below_putB ?_ ?_; rotate_left; focus ((try simp) <;> omega)) | with_reducible refine Below.drew ?_ | with_reducible refine below_drewN ?_ | with_reducible assumption | (with_reducible refine below_step (by assumption) ?_ ?_; rotate_left; focus ((try simp) <;> omega)))), (by repeat (first | with_reducible exact Below.refl _ _ | (with_reducible refine Below.alloc ?_ ?_ _; rotate_left; focus ((try simp) <;> omega)) | (with_reducible refine Below.setCell ?_ ?_ _; rotate_left; focus ((try simp) <;> omega)) | (with_reducible refine below_grow ?_ ?_; rotate_left; focus ((try simp) <;> omega)) | (with_reducible refine below_putB ?_ ?_; rotate_left; focus ((try simp) <;> omega)) | with_reducible refine Below.drew ?_ | with_reducible refine below_drewN ?_ | with_reducible assumption | (with_reducible refine below_step (by assumption) ?_ ?_; rotate_left; focus ((try simp) <;> omega))))⟩
                case measure => simp [intOf]; omega
        · have hend : K + i = nr := by have := HK.out; omega
          have HEND := Lib.hid hend
          clear hend
          go_wp2_with fail
          go_roundw
          case rel => exact ⟨1, nr, by omega, by first | rfl | go_num, by omega, bx, by', by rw [← HEND.out]; exact HO.out, hb⟩
          case measure => simp [intOf]
    · have HK := Lib.hid hK
      clear hK
      go_wp2_with fail
      go_loopw [26] (fun s26 wr => ∃ (i : Nat), i ≤ nw ∧ s26 = .int .i64 i ∧ BlkIs wr w.heap.size #[.slice sa n sc, .slice ra nr rc, .slice wa nw wc, .slice ha nh hc] 71 ∧ BlkIs wr W2.heap.size #[.slice ra nr rc, .slice wa nw wc, .slice ha nh hc] 69 ∧ Line wr w.heap.size 1 (.slice (some ⟨w.heap.size + 1, 0, none⟩) n n) n (ints (cntL S L n (K + i))) ∧ Below w.heap.size w wr) (fun i _ => nw - (intOf i).toNat)
      case atStart => exact ⟨0, by omega, rfl, bx, by', HO.out, hbel⟩
      case round =>
        clear bx by'
        obtain ⟨i, hi, rfl, bx, by', hO, hb⟩ := hrel
        have hbs' := hb.size
        have HO := Lib.hid hO
        clear hO
        by_cases hlt : i < nw
        · obtain ⟨g, off, c, ev, hg, _, p0, p1⟩ := hd_cells HSN.out.p HSN.out.lw i hlt
          simp only [Value.slice.injEq, true_and] at ev
          obtain ⟨rfl, rfl⟩ := ev
          rw [← hb.cell (by simpa using hg)] at p0 p1
          have og : Old g wr := ⟨by omega⟩
          have hge := G1.out i hlt
          have hkL : K + i < L.length := by rw [HL.out, HK.out]; omega
          have hKi : nr = K := HK.out.symm
          rw [hKi] at hge
          have hno := cntL_no S L n (K + i) hkL
          have hyes := fun s hs hn hb => cntL_yes S L n (K + i) s hkL hb hs hn
          have hcb := fun s => cntL_bd S L n (K + i) s
          rw [hge] at hno hyes
          obtain ⟨⟨s, gn⟩, hx⟩ : ∃ x, x = Wr.getD i (0, 0) := ⟨_, rfl⟩
          rw [← hx] at p0 p1 hno hyes
          dsimp only at p0 p1 hyes
          have HNO := Lib.hid hno
          have HYES := Lib.hid hyes
          have HCB := Lib.hid hcb
          have i3 : (i : Int) < (nw : Int) := by omega
          have i4 : (0 : Int) ≤ (i : Int) := by omega
          clear hkL hno hyes hcb hx hge hKi
          by_cases h0 : s < 0
          · have hof : ofB S (s, gn) = false := by unfold ofB; simp; omega
            have HOF := Lib.hid hof
            have h0' : decide (0 ≤ s) = false := by simp; omega
            clear hof
            go_wp2_with fail
            refine wp_region_quiet_below (by kernel_rfl) (by kernel_rfl) ?_
            repeat (first | go_big_quiet_step (((fail))) | quiet_step (((fail))))
            refine wpQuiet_nil ?_
            intro _ hw'
            obtain ⟨⟨dq, osq⟩, hw''⟩ := hw'
            subst hw''
            go_wp2_with fail
            go_roundw
            case rel => exact ⟨i + 1, by omega, by go_num, by infer_instance, by infer_instance, by rw [← Nat.add_assoc, HNO.out HOF.out]; exact HO.out.keep (by repeat (first | with_reducible exact Below.refl _ _ | (with_reducible refine Below.alloc ?_ ?_ _; rotate_left; focus ((try simp) <;> omega)) | (with_reducible refine Below.setCell ?_ ?_ _; rotate_left; focus ((try simp) <;> omega)) | (with_reducible refine below_grow ?_ ?_; rotate_left; focus ((try simp) <;> omega)) | (with_reducible refine below_putB ?_ ?_; rotate_left; focus ((try simp) <;> omega)) | with_reducible refine Below.drew ?_ | with_reducible refine below_drewN ?_ | with_reducible assumption | (with_reducible refine below_step (by assumption) ?_ ?_; rotate_left; focus ((try simp) <;> omega)))), (by repeat (first | with_reducible exact Below.refl _ _ | (with_reducible refine Below.alloc ?_ ?_ _; rotate_left; focus ((try simp) <;> omega)) | (with_reducible refine Below.setCell ?_ ?_ _; rotate_left; focus ((try simp) <;> omega)) | (with_reducible refine below_grow ?_ ?_; rotate_left; focus ((try simp) <;> omega)) | (with_reducible refine below_putB ?_ ?_; rotate_left; focus ((try simp) <;> omega)) | with_reducible refine Below.drew ?_ | with_reducible refine below_drewN ?_ | with_reducible assumption | (with_reducible refine below_step (by assumption) ?_ ?_; rotate_left; focus ((try simp) <;> omega))))⟩
            case measure => simp [intOf]; omega
          · by_cases h1 : (n : Int) ≤ s
            · have hof : ofB S (s, gn) = false := by
                unfold ofB
                have : ¬ (s < S.length) := by rw [HSN.out.ls]; omega
                simp [this]
              have HOF := Lib.hid hof
              have h0' : (0 : Int) ≤ s := by omega
              have h1' : decide (s < (n : Int)) = false := by rw [decide_eq_false_iff_not]; omega
              clear hof h0 h1
              go_wp2_with fail
              refine wp_region_quiet_below (by kernel_rfl) (by kernel_rfl) ?_
              repeat (first | go_big_quiet_step (((fail))) | quiet_step (((fail))))
              refine wpQuiet_nil ?_
              intro _ hw'
              obtain ⟨⟨dq, osq⟩, hw''⟩ := hw'
              subst hw''
              go_wp2_with fail
              go_roundw
              case rel => exact ⟨i + 1, by omega, by go_num, by infer_instance, by infer_instance, by rw [← Nat.add_assoc, HNO.out HOF.out]; exact HO.out.keep (by repeat (first | with_reducible exact Below.refl _ _ | (with_reducible refine Below.alloc ?_ ?_ _; rotate_left; focus ((try simp) <;> omega)) | (with_reducible refine Below.setCell ?_ ?_ _; rotate_left; focus ((try simp) <;> omega)) | (with_reducible refine below_grow ?_ ?_; rotate_left; focus ((try simp) <;> omega)) | (with_reducible refine below_putB ?_ ?_; rotate_left; focus ((try simp) <;> omega)) | with_reducible refine Below.drew ?_ | with_reducible refine below_drewN ?_ | with_reducible assumption | (with_reducible refine below_step (by assumption) ?_ ?_; rotate_left; focus ((try simp) <;> omega)))), (by repeat (first | with_reducible exact Below.refl _ _ | (with_reducible refine Below.alloc ?_ ?_ _; rotate_left; focus ((try simp) <;> omega)) | (with_reducible refine Below.setCell ?_ ?_ _; rotate_left; focus ((try simp) <;> omega)) | (with_reducible refine below_grow ?_ ?_; rotate_left; focus ((try simp) <;> omega)) | (with_reducible refine below_putB ?_ ?_; rotate_left; focus ((try simp) <;> omega)) | with_reducible refine Below.drew ?_ | with_reducible refine below_drewN ?_ | with_reducible assumption | (with_reducible refine below_step (by assumption) ?_ ?_; rotate_left; focus ((try simp) <;> omega))))⟩
              case measure => simp [intOf]; omega
            · obtain ⟨s', rfl⟩ : ∃ s' : Nat, s = s' := ⟨s.toNat, by omega⟩
              have hsn : s' < n := by omega
              obtain ⟨g', off', c', ev, hg', _, q0, q1⟩ := sl_cells HSN.out.s HSN.out.ls s' hsn
              simp only [Value.slice.injEq, true_and] at ev
              obtain ⟨rfl, rfl⟩ := ev
              rw [← hb.cell (by simpa using hg')] at q0
              have hofe : ofB S ((s' : Int), gn) = ((S.getD s' (0, 0)).1 == gn) := by
                unfold ofB
                have : ((s' : Int) < S.length) := by rw [HSN.out.ls]; omega
                simp [this]
              generalize (S.getD s' (0, 0)).1 = x at q0 hofe
              have og' : Old g' wr := ⟨by omega⟩
              have i5 : (s' : Int) < (n : Int) := by omega
              have i6 : (0 : Int) ≤ (s' : Int) := by omega
              have HE := Lib.hid hofe
              clear q1 hofe h0 h1
              by_cases hxg : x = gn
              · have hof : ofB S ((s' : Int), gn) = true := by rw [HE.out, beq_iff_eq]; exact hxg
                have hcell := HO.out.cell (j := s') (ints_get _ s' (by rw [cntL_len]; exact hsn))
                rw [Nat.zero_add] at hcell
                have hfree := (HO.out.free (j := s') (by omega)).2
                rw [Nat.zero_add] at hfree
                have hy := HYES.out s' rfl hsn hof
                have hcb := HCB.out s'
                obtain ⟨q, hq⟩ : ∃ q, q = (cntL S L n (K + i)).getD s' 0 := ⟨_, rfl⟩
                rw [← hq] at hcell hy hcb
                have HY := Lib.hid hy
                rw [HL.out] at hcb
                obtain ⟨hq0, hq1⟩ := hcb
                have i7 : q ≤ 30000000 := by omega
                have ow : Old (w.heap.size + 1) wr := ⟨by have := HO.out.lt (q := w.heap.size + 1) rfl; omega⟩
                have nz : NeB W2.heap.size (w.heap.size + 1) := ⟨by omega⟩
                clear hy hq hof
                subst hxg
                go_wp2_with fail
                refine wp_region_quiet_below (by kernel_rfl) (by kernel_rfl) ?_
                repeat (first | go_big_quiet_step (((fail))) | quiet_step (((fail))))
                refine wpQuiet_nil ?_
                intro _ hw'
                obtain ⟨⟨dq, osq⟩, hw''⟩ := hw'
                subst hw''
                go_wp2_with fail
                have hO4 := HO.out.keep (w' := grow (redrawn (wr.alloc (.cells #[.int .i64 s', .int .u32 x] 30)) dq) osq) (by repeat (first | with_reducible exact Below.refl _ _ | (with_reducible refine Below.alloc ?_ ?_ _; rotate_left; focus ((try simp) <;> omega)) | (with_reducible refine Below.setCell ?_ ?_ _; rotate_left; focus ((try simp) <;> omega)) | (with_reducible refine below_grow ?_ ?_; rotate_left; focus ((try simp) <;> omega)) | (with_reducible refine below_putB ?_ ?_; rotate_left; focus ((try simp) <;> omega)) | with_reducible refine Below.drew ?_ | with_reducible refine below_drewN ?_ | with_reducible assumption | (with_reducible refine below_step (by assumption) ?_ ?_; rotate_left; focus ((try simp) <;> omega))))
                have hp := hO4.put (i := s') (news := [.int .i64 (q + 1)]) (by simp; omega)
                rw [List.length_singleton, ints_set _ _ _ (by rw [cntL_len]; exact hsn), ← HY.out, Nat.zero_add] at hp
                have HP := Lib.hid hp
                clear hp hO4
                go_roundw
                case rel => exact ⟨i + 1, by omega, by go_num, by infer_instance, by infer_instance, by rw [← Nat.add_assoc]; exact HP.out, (by repeat (first | with_reducible exact Below.refl _ _ | (with_reducible refine Below.alloc ?_ ?_ _; rotate_left; focus ((try simp) <;> omega)) | (with_reducible refine Below.setCell ?_ ?_ _; rotate_left; focus ((try simp) <;> omega)) | (with_reducible refine below_grow ?_ ?_; rotate_left; focus ((try simp) <;> omega)) | (with_reducible refine below_putB ?_ ?_; rotate_left; focus ((try simp) <;> omega)) | with_reducible refine Below.drew ?_ | with_reducible refine below_drewN ?_ | with_reducible assumption | (with_reducible refine below_step (by assumption) ?_ ?_; rotate_left; focus ((try simp) <;> omega))))⟩
                case measure => simp [intOf]; omega
              · have hof : ofB S ((s' : Int), gn) = false := by rw [HE.out, beq_eq_false_iff_ne]; exact hxg
                have HOF := Lib.hid hof
                have h1' : (x == gn) = false := by rw [beq_eq_false_iff_ne]; exact hxg
                clear hof hxg
                go_wp2_with fail
                refine wp_region_quiet_below (by kernel_rfl) (by kernel_rfl) ?_
                repeat (first | go_big_quiet_step (((fail))) | quiet_step (((fail))))
                refine wpQuiet_nil ?_
                intro _ hw'
                obtain ⟨⟨dq, osq⟩, hw''⟩ := hw'
                subst hw''
                go_wp2_with fail
                go_roundw
                case rel => exact ⟨i + 1, by omega, by go_num, by infer_instance, by infer_instance, by rw [← Nat.add_assoc, HNO.out HOF.out]; exact HO.out.keep (by repeat (first | with_reducible exact Below.refl _ _ | (with_reducible refine Below.alloc ?_ ?_ _; rotate_left; focus ((try simp) <;> omega)) | (with_reducible refine Below.setCell ?_ ?_ _; rotate_left; focus ((try simp) <;> omega)) | (with_reducible refine below_grow ?_ ?_; rotate_left; focus ((try simp) <;> omega)) | (with_reducible refine below_putB ?_ ?_; rotate_left; focus ((try simp) <;> omega)) | with_reducible refine Below.drew ?_ | with_reducible refine below_drewN ?_ | with_reducible assumption | (with_reducible refine below_step (by assumption) ?_ ?_; rotate_left; focus ((try simp) <;> omega)))), (by repeat (first | with_reducible exact Below.refl _ _ | (with_reducible refine Below.alloc ?_ ?_ _; rotate_left; focus ((try simp) <;> omega)) | (with_reducible refine Below.setCell ?_ ?_ _; rotate_left; focus ((try simp) <;> omega)) | (with_reducible refine below_grow ?_ ?_; rotate_left; focus ((try simp) <;> omega)) | (with_reducible refine below_putB ?_ ?_; rotate_left; focus ((try simp) <;> omega)) | with_reducible refine Below.drew ?_ | with_reducible refine below_drewN ?_ | with_reducible assumption | (with_reducible refine below_step (by assumption) ?_ ?_; rotate_left; focus ((try simp) <;> omega))))⟩
                case measure => simp [intOf]; omega
        · have hend : K + i = (nr + nw) := by have := HK.out; omega
          have HEND := Lib.hid hend
          clear hend
          go_wp2_with fail
          go_roundw
          case rel => exact ⟨2, (nr + nw), by omega, by first | rfl | go_num, by omega, bx, by', by rw [← HEND.out]; exact HO.out, hb⟩
          case measure => simp [intOf]
    · have HK := Lib.hid hK
      clear hK
      go_wp2_with fail
      go_loopw [26] (fun s26 wr => ∃ (i : Nat), i ≤ nh ∧ s26 = .int .i64 i ∧ BlkIs wr w.heap.size #[.slice sa n sc, .slice ra nr rc, .slice wa nw wc, .slice ha nh hc] 71 ∧ BlkIs wr W2.heap.size #[.slice ra nr rc, .slice wa nw wc, .slice ha nh hc] 69 ∧ Line wr w.heap.size 1 (.slice (some ⟨w.heap.size + 1, 0, none⟩) n n) n (ints (cntL S L n (K + i))) ∧ Below w.heap.size w wr) (fun i _ => nh - (intOf i).toNat)
      case atStart => exact ⟨0, by omega, rfl, bx, by', HO.out, hbel⟩
      case round =>
        clear bx by'
        obtain ⟨i, hi, rfl, bx, by', hO, hb⟩ := hrel
        have hbs' := hb.size
        have HO := Lib.hid hO
        clear hO
        by_cases hlt : i < nh
        · obtain ⟨g, off, c, ev, hg, _, p0, p1⟩ := hd_cells HSN.out.h HSN.out.lh i hlt
          simp only [Value.slice.injEq, true_and] at ev
          obtain ⟨rfl, rfl⟩ := ev
          rw [← hb.cell (by simpa using hg)] at p0 p1
          have og : Old g wr := ⟨by omega⟩
          have hge := G2.out i hlt
          have hkL : K + i < L.length := by rw [HL.out, HK.out]; omega
          have hKi : nr + nw = K := HK.out.symm
          rw [hKi] at hge
          have hno := cntL_no S L n (K + i) hkL
          have hyes := fun s hs hn hb => cntL_yes S L n (K + i) s hkL hb hs hn
          have hcb := fun s => cntL_bd S L n (K + i) s
          rw [hge] at hno hyes
          obtain ⟨⟨s, gn⟩, hx⟩ : ∃ x, x = H.getD i (0, 0) := ⟨_, rfl⟩
          rw [← hx] at p0 p1 hno hyes
          dsimp only at p0 p1 hyes
          have HNO := Lib.hid hno
          have HYES := Lib.hid hyes
          have HCB := Lib.hid hcb
          have i3 : (i : Int) < (nh : Int) := by omega
          have i4 : (0 : Int) ≤ (i : Int) := by omega
          clear hkL hno hyes hcb hx hge hKi
          by_cases h0 : s < 0
          · have hof : ofB S (s, gn) = false := by unfold ofB; simp; omega
            have HOF := Lib.hid hof
            have h0' : decide (0 ≤ s) = false := by simp; omega
            clear hof
            go_wp2_with fail
            refine wp_region_quiet_below (by kernel_rfl) (by kernel_rfl) ?_
            repeat (first | go_big_quiet_step (((fail))) | quiet_step (((fail))))
            refine wpQuiet_nil ?_
            intro _ hw'
            obtain ⟨⟨dq, osq⟩, hw''⟩ := hw'
            subst hw''
            go_wp2_with fail
            go_roundw
            case rel => exact ⟨i + 1, by omega, by go_num, by infer_instance, by infer_instance, by rw [← Nat.add_assoc, HNO.out HOF.out]; exact HO.out.keep (by repeat (first | with_reducible exact Below.refl _ _ | (with_reducible refine Below.alloc ?_ ?_ _; rotate_left; focus ((try simp) <;> omega)) | (with_reducible refine Below.setCell ?_ ?_ _; rotate_left; focus ((try simp) <;> omega)) | (with_reducible refine below_grow ?_ ?_; rotate_left; focus ((try simp) <;> omega)) | (with_reducible refine below_putB ?_ ?_; rotate_left; focus ((try simp) <;> omega)) | with_reducible refine Below.drew ?_ | with_reducible refine below_drewN ?_ | with_reducible assumption | (with_reducible refine below_step (by assumption) ?_ ?_; rotate_left; focus ((try simp) <;> omega)))), (by repeat (first | with_reducible exact Below.refl _ _ | (with_reducible refine Below.alloc ?_ ?_ _; rotate_left; focus ((try simp) <;> omega)) | (with_reducible refine Below.setCell ?_ ?_ _; rotate_left; focus ((try simp) <;> omega)) | (with_reducible refine below_grow ?_ ?_; rotate_left; focus ((try simp) <;> omega)) | (with_reducible refine below_putB ?_ ?_; rotate_left; focus ((try simp) <;> omega)) | with_reducible refine Below.drew ?_ | with_reducible refine below_drewN ?_ | with_reducible assumption | (with_reducible refine below_step (by assumption) ?_ ?_; rotate_left; focus ((try simp) <;> omega))))⟩
            case measure => simp [intOf]; omega
          · by_cases h1 : (n : Int) ≤ s
            · have hof : ofB S (s, gn) = false := by
                unfold ofB
                have : ¬ (s < S.length) := by rw [HSN.out.ls]; omega
                simp [this]
              have HOF := Lib.hid hof
              have h0' : (0 : Int) ≤ s := by omega
              have h1' : decide (s < (n : Int)) = false := by rw [decide_eq_false_iff_not]; omega
              clear hof h0 h1
              go_wp2_with fail
              refine wp_region_quiet_below (by kernel_rfl) (by kernel_rfl) ?_
              repeat (first | go_big_quiet_step (((fail))) | quiet_step (((fail))))
              refine wpQuiet_nil ?_
              intro _ hw'
              obtain ⟨⟨dq, osq⟩, hw''⟩ := hw'
              subst hw''
              go_wp2_with fail
              go_roundw
              case rel => exact ⟨i + 1, by omega, by go_num, by infer_instance, by infer_instance, by rw [← Nat.add_assoc, HNO.out HOF.out]; exact HO.out.keep (by repeat (first | with_reducible exact Below.refl _ _ | (with_reducible refine Below.alloc ?_ ?_ _; rotate_left; focus ((try simp) <;> omega)) | (with_reducible refine Below.setCell ?_ ?_ _; rotate_left; focus ((try simp) <;> omega)) | (with_reducible refine below_grow ?_ ?_; rotate_left; focus ((try simp) <;> omega)) | (with_reducible refine below_putB ?_ ?_; rotate_left; focus ((try simp) <;> omega)) | with_reducible refine Below.drew ?_ | with_reducible refine below_drewN ?_ | with_reducible assumption | (with_reducible refine below_step (by assumption) ?_ ?_; rotate_left; focus ((try simp) <;> omega)))), (by repeat (first | with_reducible exact Below.refl _ _ | (with_reducible refine Below.alloc ?_ ?_ _; rotate_left; focus ((try simp) <;> omega)) | (with_reducible refine Below.setCell ?_ ?_ _; rotate_left; focus ((try simp) <;> omega)) | (with_reducible refine below_grow ?_ ?_; rotate_left; focus ((try simp) <;> omega)) | (with_reducible refine below_putB ?_ ?_; rotate_left; focus ((try simp) <;> omega)) | with_reducible refine Below.drew ?_ | with_reducible refine below_drewN ?_ | with_reducible assumption | (with_reducible refine below_step (by assumption) ?_ ?_; rotate_left; focus ((try simp) <;> omega))))⟩
              case measure => simp [intOf]; omega
            · obtain ⟨s', rfl⟩ : ∃ s' : Nat, s = s' := ⟨s.toNat, by omega⟩
              have hsn : s' < n := by omega
              obtain ⟨g', off', c', ev, hg', _, q0, q1⟩ := sl_cells HSN.out.s HSN.out.ls s' hsn
              simp only [Value.slice.injEq, true_and] at ev
              obtain ⟨rfl, rfl⟩ := ev
              rw [← hb.cell (by simpa using hg')] at q0
              have hofe : ofB S ((s' : Int), gn) = ((S.getD s' (0, 0)).1 == gn) := by
                unfold ofB
                have : ((s' : Int) < S.length) := by rw [HSN.out.ls]; omega
                simp [this]
              generalize (S.getD s' (0, 0)).1 = x at q0 hofe
              have og' : Old g' wr := ⟨by omega⟩
              have i5 : (s' : Int) < (n : Int) := by omega
              have i6 : (0 : Int) ≤ (s' : Int) := by omega
              have HE := Lib.hid hofe
              clear q1 hofe h0 h1
              by_cases hxg : x = gn
              · have hof : ofB S ((s' : Int), gn) = true := by rw [HE.out, beq_iff_eq]; exact hxg
                have hcell := HO.out.cell (j := s') (ints_get _ s' (by rw [cntL_len]; exact hsn))
                rw [Nat.zero_add] at hcell
                have hfree := (HO.out.free (j := s') (by omega)).2
                rw [Nat.zero_add] at hfree
                have hy := HYES.out s' rfl hsn hof
                have hcb := HCB.out s'
                obtain ⟨q, hq⟩ : ∃ q, q = (cntL S L n (K + i)).getD s' 0 := ⟨_, rfl⟩
                rw [← hq] at hcell hy hcb
                have HY := Lib.hid hy
                rw [HL.out] at hcb
                obtain ⟨hq0, hq1⟩ := hcb
                have i7 : q ≤ 30000000 := by omega
                have ow : Old (w.heap.size + 1) wr := ⟨by have := HO.out.lt (q := w.heap.size + 1) rfl; omega⟩
                have nz : NeB W2.heap.size (w.heap.size + 1) := ⟨by omega⟩
                clear hy hq hof
                subst hxg
                go_wp2_with fail
                refine wp_region_quiet_below (by kernel_rfl) (by kernel_rfl) ?_
                repeat (first | go_big_quiet_step (((fail))) | quiet_step (((fail))))
                refine wpQuiet_nil ?_
                intro _ hw'
                obtain ⟨⟨dq, osq⟩, hw''⟩ := hw'
                subst hw''
                go_wp2_with fail
                have hO4 := HO.out.keep (w' := grow (redrawn (wr.alloc (.cells #[.int .i64 s', .int .u32 x] 30)) dq) osq) (by repeat (first | with_reducible exact Below.refl _ _ | (with_reducible refine Below.alloc ?_ ?_ _; rotate_left; focus ((try simp) <;> omega)) | (with_reducible refine Below.setCell ?_ ?_ _; rotate_left; focus ((try simp) <;> omega)) | (with_reducible refine below_grow ?_ ?_; rotate_left; focus ((try simp) <;> omega)) | (with_reducible refine below_putB ?_ ?_; rotate_left; focus ((try simp) <;> omega)) | with_reducible refine Below.drew ?_ | with_reducible refine below_drewN ?_ | with_reducible assumption | (with_reducible refine below_step (by assumption) ?_ ?_; rotate_left; focus ((try simp) <;> omega))))
                have hp := hO4.put (i := s') (news := [.int .i64 (q + 1)]) (by simp; omega)
                rw [List.length_singleton, ints_set _ _ _ (by rw [cntL_len]; exact hsn), ← HY.out, Nat.zero_add] at hp
                have HP := Lib.hid hp
                clear hp hO4
                go_roundw
                case rel => exact ⟨i + 1, by omega, by go_num, by infer_instance, by infer_instance, by rw [← Nat.add_assoc]; exact HP.out, (by repeat (first | with_reducible exact Below.refl _ _ | (with_reducible refine Below.alloc ?_ ?_ _; rotate_left; focus ((try simp) <;> omega)) | (with_reducible refine Below.setCell ?_ ?_ _; rotate_left; focus ((try simp) <;> omega)) | (with_reducible refine below_grow ?_ ?_; rotate_left; focus ((try simp) <;> omega)) | (with_reducible refine below_putB ?_ ?_; rotate_left; focus ((try simp) <;> omega)) | with_reducible refine Below.drew ?_ | with_reducible refine below_drewN ?_ | with_reducible assumption | (with_reducible refine below_step (by assumption) ?_ ?_; rotate_left; focus ((try simp) <;> omega))))⟩
                case measure => simp [intOf]; omega
              · have hof : ofB S ((s' : Int), gn) = false := by rw [HE.out, beq_eq_false_iff_ne]; exact hxg
                have HOF := Lib.hid hof
                have h1' : (x == gn) = false := by rw [beq_eq_false_iff_ne]; exact hxg
                clear hof hxg
                go_wp2_with fail
                refine wp_region_quiet_below (by kernel_rfl) (by kernel_rfl) ?_
                repeat (first | go_big_quiet_step (((fail))) | quiet_step (((fail))))
                refine wpQuiet_nil ?_
                intro _ hw'
                obtain ⟨⟨dq, osq⟩, hw''⟩ := hw'
                subst hw''
                go_wp2_with fail
                go_roundw
                case rel => exact ⟨i + 1, by omega, by go_num, by infer_instance, by infer_instance, by rw [← Nat.add_assoc, HNO.out HOF.out]; exact HO.out.keep (by repeat (first | with_reducible exact Below.refl _ _ | (with_reducible refine Below.alloc ?_ ?_ _; rotate_left; focus ((try simp) <;> omega)) | (with_reducible refine Below.setCell ?_ ?_ _; rotate_left; focus ((try simp) <;> omega)) | (with_reducible refine below_grow ?_ ?_; rotate_left; focus ((try simp) <;> omega)) | (with_reducible refine below_putB ?_ ?_; rotate_left; focus ((try simp) <;> omega)) | with_reducible refine Below.drew ?_ | with_reducible refine below_drewN ?_ | with_reducible assumption | (with_reducible refine below_step (by assumption) ?_ ?_; rotate_left; focus ((try simp) <;> omega)))), (by repeat (first | with_reducible exact Below.refl _ _ | (with_reducible refine Below.alloc ?_ ?_ _; rotate_left; focus ((try simp) <;> omega)) | (with_reducible refine Below.setCell ?_ ?_ _; rotate_left; focus ((try simp) <;> omega)) | (with_reducible refine below_grow ?_ ?_; rotate_left; focus ((try simp) <;> omega)) | (with_reducible refine below_putB ?_ ?_; rotate_left; focus ((try simp) <;> omega)) | with_reducible refine Below.drew ?_ | with_reducible refine below_drewN ?_ | with_reducible assumption | (with_reducible refine below_step (by assumption) ?_ ?_; rotate_left; focus ((try simp) <;> omega))))⟩
                case measure => simp [intOf]; omega
        · have hend : K + i = (nr + nw + nh) := by have := HK.out; omega
          have HEND := Lib.hid hend
          clear hend
          go_wp2_with fail
          go_roundw
          case rel => exact ⟨3, (nr + nw + nh), by omega, by first | rfl | go_num, by omega, bx, by', by rw [← HEND.out]; exact HO.out, hb⟩
          case measure => simp [intOf]
    · have HK := Lib.hid hK
      clear hK
      go_wp2_with fail
      refine ret_any ⟨_, by simp [results, Try.results39, go_sem, *]; rfl, ?_⟩ rfl
      have h := HO.out
      rw [HK.out] at h
      exact ⟨_, rfl, h, hbel⟩
end Go.Proofs.Ytjlclpdjblicjaa
