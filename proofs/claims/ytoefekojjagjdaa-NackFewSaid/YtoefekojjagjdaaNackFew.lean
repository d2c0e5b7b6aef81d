/-
  The law NackFew as a walk: no pair could have taken the number that the next one begins with. No condition but that the argument fits its type.
-/
import Derived.Test.YtoefekojjagjdaaNackArgs
import Derived.Test.YtoefekojjagjdaaFewLaw
namespace Go.Proofs.Ytoefekojjagjdaa
open Go.RowKit Go.Sort Go.BigFrame
set_option linter.unusedVariables false
attribute [local go_sem ↓] Go.wp_at_zero Go.wp_at_succ
theorem Has.take {w : World} {size n k cap : Nat} {ao : Option Addr} {xs : List Value} (h : Has w size (.slice ao n cap) n xs) (hk : k ≤ n) : Has w size (.slice ao k cap) k (xs.take (k * size)) := by
  obtain ⟨h0, ao', cap', e, h2, h3, h4, h5⟩ := h
  simp only [Value.slice.injEq, true_and] at e
  obtain ⟨rfl, rfl⟩ := e
  have hm : k * size ≤ n * size := Nat.mul_le_mul_right _ hk
  refine ⟨by rw [List.length_take, h0]; omega, ao, cap, rfl, by omega, h3, h4, fun hp => ?_⟩
  obtain ⟨g, off, e, hg, hc⟩ := h5 (by omega)
  refine ⟨g, off, e, hg, fun j u hu => hc j u ?_⟩
  rw [List.getElem?_take] at hu
  split at hu
  · exact hu
  · simp at hu
theorem nums_take (m : List Int) (k : Nat) : (nums m).take k = nums (m.take k) := by unfold nums; rw [List.map_take]
theorem expand_single (p b : Int) : expand [(p, b)] = part p b 16 := by simp [expand]
theorem line_pair {w : World} {B n : Nat} {v : Value} {l : List (Int × Int)} (h : Line w B 2 v n (prs l)) (hl : l.length = n) (k : Nat) (hk : k < n) :
    ∃ g off cap, v = .slice (some ⟨g, off, none⟩) n cap ∧ g < w.heap.size ∧ cap ≤ maxLen ∧ w.cell? ⟨g, off + k * 2, none⟩ = some (.int .u16 (l.getD k (0, 0)).1) ∧ w.cell? ⟨g, off + k * 2 + 1, none⟩ = some (.int .u16 (l.getD k (0, 0)).2) := by
  obtain ⟨g, off, cap, rfl, _, hg, _, hc⟩ := h.form (by omega)
  have hkl : k < l.length := by omega
  have e : l.getD k (0, 0) = l[k] := by rw [List.getD_eq_getElem?_getD, List.getElem?_eq_getElem hkl]; rfl
  have := prs_get l k hkl
  rw [e]
  refine ⟨g, off, cap, rfl, hg, hc, h.cell this.1, ?_⟩
  have h2 := h.cell this.2
  rwa [← Nat.add_assoc] at h2
theorem few_facts {m : List Int} (hm : fits16 m) (i : Nat) (hi : i < (pack m).length) : ∃ p b, (pack m).getD i (0, 0) = (p, b) ∧ 0 ≤ p ∧ p ≤ 65535 ∧ 0 ≤ b ∧ b ≤ 65535 ∧ at_ (pack m) i + (part p b 16).length ≤ m.length ∧ m.getD (at_ (pack m) i) 0 = p ∧ at_ (pack m) (i + 1) = at_ (pack m) i + (part p b 16).length := by
  have e : (pack m).getD i (0, 0) = (pack m)[i] := by rw [List.getD_eq_getElem?_getD, List.getElem?_eq_getElem hi]; rfl
  obtain ⟨h1, h2⟩ := at_head hm i hi
  obtain ⟨f1, f2, f3, f4⟩ := packTo_fits hm m.length _ (List.getElem_mem hi)
  exact ⟨_, _, e, f1, f2, f3, f4, h1, h2, at_succ _ _ hi⟩
theorem at_pos (l : List (Int × Int)) (i : Nat) (h0 : 0 < i) (hi : i ≤ l.length) : 0 < at_ l i := by
  have h1 := at_le l 1 i h0
  have h2 := at_succ l 0 (by omega)
  have h3 := part_pos l[0].1 l[0].2 16
  rw [at_zero, Nat.zero_add, Nat.zero_add] at h2
  omega
set_option maxRecDepth 100000 in
set_option maxHeartbeats 8000000 in
theorem few_mid {ao : Option Addr} {len cap n : Nat} {m : List Int} {w : World} (hm : fits16 m) (hh : Has w 1 (.slice ao n cap) n (nums m)) (hl : m.length = n) (hn : n ≤ 300) (hlen : (len ≤ 300 ∧ n = len) ∨ (300 < len ∧ n = 300)) (hlc : len ≤ cap) (hcap : cap ≤ maxLen) :
    Calls Try.prog 10 #[.slice ao len cap] w (Gives (.bool true) w) := by
  have HH := Lib.hid hh
  have HM := Lib.hid hm
  have HL := Lib.hid hl
  unfold maxLen at hcap
  have kp := fun (w' : World) (k : Below w.heap.size w w') => packR (hh.keep k) hl hm (by omega)
  have hpl : (pack m).length ≤ n := by rw [← hl]; exact packTo_len m m.length
  obtain ⟨ps, hps⟩ : ∃ ps, ps = pack m := ⟨_, rfl⟩
  rw [← hps] at kp hpl
  have KP := Lib.hid kp
  have HPS := Lib.hid hps
  obtain ⟨L, hL⟩ : ∃ L, L = ps.length := ⟨_, rfl⟩
  have HLL := Lib.hid hL
  rw [← hL] at hpl
  clear kp hps hh hl hm hL
  rcases hlen with ⟨hle, rfl⟩ | ⟨hle, rfl⟩
  all_goals
    go_enter Try.func10, Try.ntmps10
    go_wp2_with (first | (go_at_call 27; refine (shown8 _).mono ?_; rintro e w1 ⟨rfl, hb1⟩; have ha1 : After _ w1 := ⟨hb1⟩; obtain ⟨hc1, hf1⟩ := after hb1; have hz1 := hb1.size; try simp at hz1))
    refine (KP.out _ (by repeat (first | with_reducible exact Below.refl _ _ | (with_reducible refine Below.alloc ?_ ?_ _; rotate_left; focus ((try simp) <;> omega)) | (with_reducible refine Below.setCell ?_ ?_ _; rotate_left; focus ((try simp) <;> omega)) | (with_reducible refine below_grow ?_ ?_; rotate_left; focus ((try simp) <;> omega)) | (with_reducible refine below_putB ?_ ?_; rotate_left; focus ((try simp) <;> omega)) | with_reducible refine Below.drew ?_ | with_reducible refine below_drewN ?_ | with_reducible assumption | (with_reducible refine below_step (by assumption) ?_ ?_; rotate_left; focus ((try simp) <;> omega))))).mono ?_; rintro e w2 ⟨v2, rfl, hL2, hb2⟩
    have B2 : RowKit.Below w.heap.size w w2 := (by repeat (first | with_reducible exact Below.refl _ _ | (with_reducible refine Below.alloc ?_ ?_ _; rotate_left; focus ((try simp) <;> omega)) | (with_reducible refine Below.setCell ?_ ?_ _; rotate_left; focus ((try simp) <;> omega)) | (with_reducible refine below_grow ?_ ?_; rotate_left; focus ((try simp) <;> omega)) | (with_reducible refine below_putB ?_ ?_; rotate_left; focus ((try simp) <;> omega)) | with_reducible refine Below.drew ?_ | with_reducible refine below_drewN ?_ | with_reducible assumption | (with_reducible refine below_step (by assumption) ?_ ?_; rotate_left; focus ((try simp) <;> omega))))
    have B2s := B2.size
    obtain ⟨av, cv, rfl, hcv, hcv'⟩ := hL2.shape
    unfold maxLen at hcv'
    rw [← HLL.out] at hL2 hcv
    rw [← HLL.out]
    have L2 := Lib.hid hL2
    clear hL2 hb2 hc1 hf1 ha1 hb1 hz1
    go_wp2_with fail
    go_loopw [3, 22] (fun s3 s22 wr => ∃ i : Nat, i ≤ L ∧ s22 = .int .i64 i ∧ s3 = .int .i64 (at_ ps i) ∧ Below w2.heap.size w2 wr) (fun _ i _ => L - (intOf i).toNat)
    case atStart => exact ⟨0, by omega, rfl, by rw [at_zero]; rfl, Below.refl _ _⟩
    case round =>
      obtain ⟨i, hi, rfl, rfl, hbel⟩ := hrel
      have hbs := hbel.size
      by_cases hlt : i < L
      · obtain ⟨g2, o2, c2, ev, hg2, _, e0, e1⟩ := line_pair L2.out HLL.out.symm i hlt
        simp only [Value.slice.injEq, true_and] at ev
        obtain ⟨rfl, rfl⟩ := ev
        rw [← hbel.cell (by simpa using hg2)] at e0 e1
        obtain ⟨p, b, hpb, p0, p1, b0, b1, hA1, hA2, hA3⟩ := few_facts HM.out i (by rw [← HPS.out, ← HLL.out]; exact hlt)
        rw [← HPS.out] at hpb hA1 hA2 hA3
        rw [HL.out] at hA1
        rw [hpb] at e0 e1
        dsimp only at e0 e1
        have hNp := part_pos p b 16
        have hNl := part_len p b 16
        have kx := fun (w' : World) (v : Value) (h : Has w' 2 v 1 (prs [(p, b)])) => expandR h rfl (fun x hx => by simp only [List.mem_singleton] at hx; subst hx; exact ⟨p0, p1, b0, b1⟩) (by omega)
        rw [expand_single] at kx
        have KX := Lib.hid kx
        have H3 := Lib.hid hA3
        have HPB := Lib.hid hpb
        obtain ⟨N, hN⟩ : ∃ N, N = (part p b 16).length := ⟨_, rfl⟩
        rw [← hN] at hA1 hNp hNl
        have HNN := Lib.hid hN
        obtain ⟨A, hA⟩ : ∃ A, A = at_ ps i := ⟨_, rfl⟩
        rw [← hA] at hA1 hA2 ⊢
        have HA := Lib.hid hA
        obtain ⟨g, off, rfl, hg, hcell⟩ := HH.out.cell (by omega)
        have c0 : wr.cell? ⟨g, off + A, none⟩ = some (.int .u16 p) := by rw [hbel.cell (by simp; omega), B2.cell (by simpa using hg), ← hA2]; exact hcell _ _ (nums_get m A (by rw [HL.out]; omega))
        have og2 : Old g2 wr := ⟨by omega⟩
        have og : Old g wr := ⟨by omega⟩
        have i3 : (i : Int) < (L : Int) := by omega
        have i4 : (0 : Int) ≤ (i : Int) := by omega
        have i5 : (0 : Int) ≤ (A : Int) := by omega
        have HA2 := Lib.hid hA2
        have HC := Lib.hid hcell
        clear hA3 hpb hN hA kx hA2 hcell
        rcases Nat.eq_zero_or_pos i with hi0 | hi0
        · have hA0 : A = 0 := by rw [HA.out, hi0, at_zero]
          subst hi0 hA0
          simp only [Nat.zero_mul, Nat.add_zero] at e0 e1 c0
          clear i3 i4 i5
          have i3 : (0 : Int) < (L : Int) := by omega
          have t2 : decide ((N : Int) < 1) = false := by simp; omega
          try have t1 : decide (n = 0) = false := by simp; omega
          try have t3 : decide (n < N) = false := by simp; omega
          try have t4 : decide (300 < (N : Int)) = false := by simp; omega
          go_wp2_with fail
          refine (KX.out _ _ (has_blk (by infer_instance) (by rfl) (by unfold maxLen; decide) _ (by rfl))).mono ?_; rintro e w4 ⟨v4, rfl, hL4, hb4⟩; have ha4 : After _ w4 := ⟨hb4⟩; obtain ⟨hc4, hf4⟩ := after hb4; have hz4 := hb4.size; try simp at hz4
          obtain ⟨a4, c4, rfl, _, hm4⟩ := hL4.shape
          rw [← HNN.out]
          clear hL4 hm4
          go_wp2_with fail
          refine wp_region_quiet_below (by kernel_rfl) (by kernel_rfl) ?_
          repeat (first | go_big_quiet_step (((fail))) | quiet_step (((fail))))
          refine wpQuiet_nil ?_
          intro _ hw'
          obtain ⟨⟨dq, osq⟩, hw''⟩ := hw'
          subst hw''
          go_wp2_with fail
          go_roundw
          case rel =>
            refine ⟨0 + 1, by omega, by go_num, ?_, (by repeat (first | with_reducible exact Below.refl _ _ | (with_reducible refine Below.alloc ?_ ?_ _; rotate_left; focus ((try simp) <;> omega)) | (with_reducible refine Below.setCell ?_ ?_ _; rotate_left; focus ((try simp) <;> omega)) | (with_reducible refine below_grow ?_ ?_; rotate_left; focus ((try simp) <;> omega)) | (with_reducible refine below_putB ?_ ?_; rotate_left; focus ((try simp) <;> omega)) | with_reducible refine Below.drew ?_ | with_reducible refine below_drewN ?_ | with_reducible assumption | (with_reducible refine below_step (by assumption) ?_ ?_; rotate_left; focus ((try simp) <;> omega))))⟩
            rw [H3.out, ← HA.out, ← HNN.out]
            first | rfl | (simp; done) | (congr 1; omega) | (congr 1; simp; omega)
          case measure => simp [intOf]; omega
        · have hA0 : 0 < A := by rw [HA.out]; exact at_pos ps i hi0 (by rw [← HLL.out]; exact hi)
          have hap := pack_apart HM.out i hi0 (by rw [← HPS.out, ← HLL.out]; exact hlt)
          rw [← HPS.out, ← HA.out, HA2.out] at hap
          obtain ⟨_, _, _, ev, _, _, d0, _⟩ := line_pair L2.out HLL.out.symm (i - 1) (by omega)
          simp only [Value.slice.injEq, Option.some.injEq, Addr.mk.injEq, and_true, true_and] at ev
          obtain ⟨⟨rfl, rfl⟩, rfl⟩ := ev
          rw [← hbel.cell (by simpa using hg2)] at d0
          have dp := packTo_fits HM.out m.length ((pack m).getD (i - 1) (0, 0)) (by
            rw [List.getD_eq_getElem?_getD, List.getElem?_eq_getElem (by rw [← HPS.out, ← HLL.out]; omega)]
            exact List.getElem_mem _)
          rw [← HPS.out] at dp
          generalize (ps.getD (i - 1) (0, 0)).1 = p' at d0 dp hap
          obtain ⟨dp0, dp1, -, -⟩ := dp
          have hq := fits_getD HM.out (A - 1)
          have c1 : wr.cell? ⟨g, off + (A - 1), none⟩ = some (.int .u16 (m.getD (A - 1) 0)) := by rw [hbel.cell (by simp; omega), B2.cell (by simpa using hg)]; exact HC.out _ _ (nums_get m (A - 1) (by rw [HL.out]; omega))
          generalize m.getD (A - 1) 0 = q at c1 hap hq
          have i6 : (0 : Int) < (A : Int) := by omega
          have t2 : decide ((N : Int) < 1) = false := by simp; omega
          try have t1 : decide (n ≤ A) = false := by simp; omega
          try have t1 : decide (300 ≤ (A : Int)) = false := by simp; omega
          try have t3 : decide ((n : Int) - (A : Int) < (N : Int)) = false := by simp; omega
          try have t3 : decide (300 - (A : Int) < (N : Int)) = false := by simp; omega
          have i7 : (0 : Int) < (i : Int) := by omega
          have hap' : (p - p') % 65536 < 1 ∨ (1 ≤ (p - p') % 65536 ∧ 16 < (p - p') % 65536) ∨ (1 ≤ (p - p') % 65536 ∧ (p - p') % 65536 ≤ 16 ∧ ¬ 0 < d16 p q) := by
            simp only [joins, Bool.and_eq_false_iff, decide_eq_false_iff_not] at hap
            omega
          clear hap
          rcases hap' with k1 | ⟨k1, k2⟩ | ⟨k1, k2, k3⟩
          all_goals go_wp2_with fail
          all_goals
              refine (KX.out _ _ (has_blk (by infer_instance) (by rfl) (by unfold maxLen; decide) _ (by rfl))).mono ?_; rintro e w4 ⟨v4, rfl, hL4, hb4⟩; have ha4 : After _ w4 := ⟨hb4⟩; obtain ⟨hc4, hf4⟩ := after hb4; have hz4 := hb4.size; try simp at hz4
              obtain ⟨a4, c4, rfl, _, hm4⟩ := hL4.shape
              rw [← HNN.out]
              clear hL4 hm4
              go_wp2_with fail
              refine wp_region_quiet_below (by kernel_rfl) (by kernel_rfl) ?_
              repeat (first | go_big_quiet_step (((fail))) | quiet_step (((fail))))
              refine wpQuiet_nil ?_
              intro _ hw'
              obtain ⟨⟨dq, osq⟩, hw''⟩ := hw'
              subst hw''
              go_wp2_with (go_at_call 22; refine (ahead16 _ _ _).mono ?_; rintro e w' ⟨rfl, rfl⟩)
              go_roundw
              case rel =>
                refine ⟨i + 1, by omega, by go_num, ?_, (by repeat (first | with_reducible exact Below.refl _ _ | (with_reducible refine Below.alloc ?_ ?_ _; rotate_left; focus ((try simp) <;> omega)) | (with_reducible refine Below.setCell ?_ ?_ _; rotate_left; focus ((try simp) <;> omega)) | (with_reducible refine below_grow ?_ ?_; rotate_left; focus ((try simp) <;> omega)) | (with_reducible refine below_putB ?_ ?_; rotate_left; focus ((try simp) <;> omega)) | with_reducible refine Below.drew ?_ | with_reducible refine below_drewN ?_ | with_reducible assumption | (with_reducible refine below_step (by assumption) ?_ ?_; rotate_left; focus ((try simp) <;> omega))))⟩
                rw [H3.out, ← HA.out, ← HNN.out]
                first | rfl | (simp; done) | (congr 1; omega) | (congr 1; simp; omega)
              case measure => simp [intOf]; omega
      · obtain rfl : i = L := by omega
        have hend : at_ ps i = m.length := by
          have := at_all ps
          rw [← HLL.out] at this
          rw [this, HPS.out, expand_pack_all HM.out]
        rw [hend, HL.out]
        clear hend
        go_wp2_with fail
        refine ret_any ⟨_, by simp [results, Try.results10, go_sem, *]; rfl, ?_⟩ rfl
        exact gives_of rfl (by repeat (first | with_reducible exact Below.refl _ _ | (with_reducible refine Below.alloc ?_ ?_ _; rotate_left; focus ((try simp) <;> omega)) | (with_reducible refine Below.setCell ?_ ?_ _; rotate_left; focus ((try simp) <;> omega)) | (with_reducible refine below_grow ?_ ?_; rotate_left; focus ((try simp) <;> omega)) | (with_reducible refine below_putB ?_ ?_; rotate_left; focus ((try simp) <;> omega)) | with_reducible refine Below.drew ?_ | with_reducible refine below_drewN ?_ | with_reducible assumption | (with_reducible refine below_step (by assumption) ?_ ?_; rotate_left; focus ((try simp) <;> omega))))
theorem nackFew_ok (v0 : Value) (w : World) (h0 : Arg Try.prog w 36 v0) : Calls Try.prog 10 #[v0] w (Gives (.bool true) w) := by
  obtain ⟨m, hm, hh⟩ := arg_nums h0
  obtain ⟨ao, cap, rfl, hc, hc'⟩ := hh.shape
  have ht := hh.take (k := min m.length 300) (by omega)
  rw [Nat.mul_one, nums_take] at ht
  exact few_mid (m := m.take (min m.length 300)) (fun x hx => hm x (List.mem_of_mem_take hx)) ht (by rw [List.length_take]; omega) (by omega) (by omega) hc hc'
end Go.Proofs.Ytoefekojjagjdaa
