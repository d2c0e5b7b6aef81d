/-
  The law CourseShift as a walk: numbers that all come in moved by as much are told alike. No condition but that the arguments fit their types.
-/
import Derived.Test.YtplhgpeeekjfcaaCourse
namespace Go.Proofs.Ytplhgpeeekjfcaa
open Go.RowKit Go.Sort Go.BigFrame
set_option linter.unusedVariables false
attribute [local go_sem ↓] Go.wp_at_zero Go.wp_at_succ
set_option maxRecDepth 100000 in
set_option maxHeartbeats 6400000 in
theorem courseShift_ok (v0 v1 v2 : Value) (w : World) (h0 : Arg Try.prog w 36 v0) (h1 : Arg Try.prog w 42 v1) (h2 : Arg Try.prog w 34 v2) : Calls Try.prog 10 #[v0, v1, v2] w (Gives (.bool true) w) := by
  obtain ⟨y, i, o, n, rfl, hi, hi', ho, ho', hn, hn'⟩ := arg_course h0
  obtain ⟨q, rfl, hq, hq'⟩ := arg_u16 Try.underlying34 h2
  obtain ⟨a, len, cap, he, hlen, hcell⟩ := fit_row16 rfl (arg_slice Try.underlying42 h1)
  simp only [List.cons.injEq, and_true] at he
  subst he
  clear h0 h1 h2
  unfold maxLen at hlen
  go_enter Try.func10, Try.ntmps10
  go_wp2_with (first | (go_at_call 26; refine (shown14 _).mono ?_; rintro e w1 ⟨rfl, hb1⟩; have ha1 : After _ w1 := ⟨hb1⟩; obtain ⟨hc1, hf1⟩ := after hb1; have hz1 := hb1.size; try simp at hz1))
  go_loopw [8] (fun s8 wr => ∃ (k : Nat) (y : Bool) (i o o2 n : Int), k ≤ len ∧ s8 = .int .i64 k ∧ 0 ≤ o ∧ o ≤ 65535 ∧ o2 = (o - q) % 65536 ∧ (wr.cell? ⟨w.heap.size, 0, none⟩ = some (.bool y) ∧ wr.cell? ⟨w.heap.size, 1, none⟩ = some (.int .u16 i) ∧ wr.cell? ⟨w.heap.size, 2, none⟩ = some (.int .u16 o) ∧ wr.cell? ⟨w.heap.size, 3, none⟩ = some (.int .u16 n)) ∧ (wr.cell? ⟨w1.heap.size, 0, none⟩ = some (.bool y) ∧ wr.cell? ⟨w1.heap.size, 1, none⟩ = some (.int .u16 ((i + q) % 65536)) ∧ wr.cell? ⟨w1.heap.size, 2, none⟩ = some (.int .u16 o2) ∧ wr.cell? ⟨w1.heap.size, 3, none⟩ = some (.int .u16 n)) ∧ (wr.frozen? ⟨w.heap.size, 0, none⟩ = false ∧ wr.frozen? ⟨w.heap.size, 1, none⟩ = false ∧ wr.frozen? ⟨w.heap.size, 2, none⟩ = false ∧ wr.frozen? ⟨w.heap.size, 3, none⟩ = false) ∧ (wr.frozen? ⟨w1.heap.size, 0, none⟩ = false ∧ wr.frozen? ⟨w1.heap.size, 1, none⟩ = false ∧ wr.frozen? ⟨w1.heap.size, 2, none⟩ = false ∧ wr.frozen? ⟨w1.heap.size, 3, none⟩ = false) ∧ Below w.heap.size w wr ∧ w1.heap.size < wr.heap.size) (fun i _ => len - (intOf i).toNat)
  case atStart =>
    refine ⟨0, y, i, o, (o - q) % 65536, n, by omega, rfl, ho, ho', rfl, ?_, ?_, ?_, ?_, ?_, ?_⟩
    all_goals first | (show RowKit.Below _ _ _; (repeat (first | with_reducible exact Below.refl _ _ | (with_reducible refine Below.alloc ?_ ?_ _; rotate_left; focus ((try simp) <;> omega)) | (with_reducible refine Below.setCell ?_ ?_ _; rotate_left; focus ((try simp) <;> omega)) | (with_reducible refine below_grow ?_ ?_; rotate_left; focus ((try simp) <;> omega)) | with_reducible refine Below.drew ?_ | with_reducible refine below_drewN ?_ | with_reducible assumption | (with_reducible refine below_step (by assumption) ?_ ?_; rotate_left; focus ((try simp) <;> omega)))); done) | (simp [*, go_sem]; done) | omega | (simp; omega) | (simp [*, go_sem, World.cell?_setCell_far]; done)
  case round =>
    have hne : w.heap.size < w1.heap.size := by omega
    obtain ⟨B, hB⟩ : ∃ B, B = w1.heap.size := ⟨_, rfl⟩
    rw [← hB] at hrel hne
    obtain ⟨k, y, i, o, o2, n, hk, rfl, ho, ho', hoeq, ⟨c0, c1, c2, c3⟩, ⟨d0, d1, d2, d3⟩, ⟨f0, f1, f2, f3⟩, ⟨g0, g1, g2, g3⟩, hbel, hsz⟩ := hrel
    have hold : Old w.heap.size wr := ⟨by omega⟩
    have hold2 : Old B wr := ⟨hsz⟩
    have hne1 : w.heap.size ≠ B := by omega
    have hne2 : B ≠ w.heap.size := by omega
    rw [← hB]
    clear hB
    have HO := Lib.hid hoeq
    clear hoeq hz1
    by_cases hlt : k < len ∧ k < 100
    · obtain ⟨k1, k2⟩ := hlt
      obtain ⟨b, off, x, rfl, hb, hx, hx0, hx1⟩ := hcell k k1
      have hxr : wr.cell? ⟨b, off + k, none⟩ = some (.int .u16 x) := by rw [hbel.cell (p := ⟨b, _, none⟩) hb]; exact hx
      have hbo : Old b wr := ⟨Nat.lt_of_lt_of_le hb hbel.size⟩
      have hkk : ((k : Int)) < 100 := by omega
      clear hlen hcell
      by_cases hA : y = true ∧ ahead x i = false
      · obtain ⟨rfl, hA⟩ := hA
        go_upto_region 9 with fail
        go_cut [9, 10, 11] (fun s9 s10 s11 wx => ∃ p, s9 = .pointer (some ⟨p, 0, none⟩) ∧ s10 = .int .u16 0 ∧ s11 = .bool false ∧ (wx.cell? ⟨p, 0, none⟩ = some (.bool true) ∧ wx.cell? ⟨p, 1, none⟩ = some (.int .u16 i) ∧ wx.cell? ⟨p, 2, none⟩ = some (.int .u16 o) ∧ wx.cell? ⟨p, 3, none⟩ = some (.int .u16 n)) ∧ (wx.cell? ⟨B, 0, none⟩ = some (.bool true) ∧ wx.cell? ⟨B, 1, none⟩ = some (.int .u16 ((i + q) % 65536)) ∧ wx.cell? ⟨B, 2, none⟩ = some (.int .u16 o2) ∧ wx.cell? ⟨B, 3, none⟩ = some (.int .u16 n)) ∧ (wx.frozen? ⟨w.heap.size, 0, none⟩ = false ∧ wx.frozen? ⟨w.heap.size, 1, none⟩ = false ∧ wx.frozen? ⟨w.heap.size, 2, none⟩ = false ∧ wx.frozen? ⟨w.heap.size, 3, none⟩ = false) ∧ (wx.frozen? ⟨B, 0, none⟩ = false ∧ wx.frozen? ⟨B, 1, none⟩ = false ∧ wx.frozen? ⟨B, 2, none⟩ = false ∧ wx.frozen? ⟨B, 3, none⟩ = false) ∧ w.heap.size < wx.heap.size ∧ B < wx.heap.size ∧ p < wx.heap.size ∧ p ≠ w.heap.size ∧ p ≠ B ∧ (∃ a0 a1 a2 a3, (wx.cell? ⟨w.heap.size, 0, none⟩ = some (a0) ∧ wx.cell? ⟨w.heap.size, 1, none⟩ = some (a1) ∧ wx.cell? ⟨w.heap.size, 2, none⟩ = some (a2) ∧ wx.cell? ⟨w.heap.size, 3, none⟩ = some (a3))) ∧ Below w.heap.size w wx)
        case first =>
          go_region_held3 (fun w' => w'.cell? ⟨w.heap.size, 0, none⟩ = some (.bool true) ∧ w'.cell? ⟨w.heap.size, 1, none⟩ = some (.int .u16 i) ∧ w'.cell? ⟨w.heap.size, 2, none⟩ = some (.int .u16 o) ∧ w'.cell? ⟨w.heap.size, 3, none⟩ = some (.int .u16 n) ∧ w'.cell? ⟨b, off + k, none⟩ = some (.int .u16 x)) (first | (simp [*, go_sem]; done) | simp [*, go_sem, World.cell?_setCell_far])
            (first | (go_at_call 27; refine (stepNo _ _ _ _ _ hA).mono ?_; rintro e w1 ⟨rfl, hb1⟩; have ha1 : After _ w1 := ⟨hb1⟩; obtain ⟨hc1, hf1⟩ := after hb1; have hz1 := hb1.size; try simp at hz1))
          all_goals (go_wp2_with fail; go_meet)
          all_goals refine ⟨_, rfl, rfl, rfl, ?_, ?_, ?_, ?_, ?_, ?_, ?_, ?_, ?_, ⟨.bool true, .int .u16 i, .int .u16 o, .int .u16 n, ?_⟩, ?_⟩
          all_goals first | (show RowKit.Below _ _ _; (repeat (first | with_reducible exact Below.refl _ _ | (with_reducible refine Below.alloc ?_ ?_ _; rotate_left; focus ((try simp) <;> omega)) | (with_reducible refine Below.setCell ?_ ?_ _; rotate_left; focus ((try simp) <;> omega)) | (with_reducible refine below_grow ?_ ?_; rotate_left; focus ((try simp) <;> omega)) | with_reducible refine Below.drew ?_ | with_reducible refine below_drewN ?_ | with_reducible assumption | (with_reducible refine below_step (by assumption) ?_ ?_; rotate_left; focus ((try simp) <;> omega)))); done) | (simp [*, go_sem]; done) | omega | (simp; omega) | (simp [*, go_sem, World.cell?_setCell_far]; done)
        case rest =>
          obtain ⟨p, rfl, rfl, rfl, ⟨p0, p1, p2, p3⟩, ⟨e0, e1, e2, e3⟩, ⟨m0, m1, m2, m3⟩, ⟨n0, n1, n2, n3⟩, hz0, hzB, hzp, hpw, hpB, ⟨a0, a1, a2, a3, r0, r1, r2, r3⟩, hbel2⟩ := hcut
          clear c0 c1 c2 c3 d0 d1 d2 d3 f0 f1 f2 f3 g0 g1 g2 g3 hxr hold hold2 hbo
          have hxc : wc.cell? ⟨b, off + k, none⟩ = some (.int .u16 x) := by rw [hbel2.cell (p := ⟨b, _, none⟩) hb]; exact hx
          have oldw : Old w.heap.size wc := ⟨hz0⟩
          have oldB : Old B wc := ⟨hzB⟩
          have oldp : Old p wc := ⟨hzp⟩
          have oldb : Old b wc := ⟨Nat.lt_of_lt_of_le hb hbel2.size⟩
          have hwr : IntKind.u16.wrap (x + q) = (x + q) % 65536 := wrap_u16 _
          have hA2 : ahead ((x + q) % 65536) ((i + q) % 65536) = false := by rw [ahead_shift]; exact hA
          go_upto_region 10 with fail
          obtain ⟨wo, hwo⟩ : ∃ wo : World, wo = wc := ⟨_, rfl⟩
          subst hwo
          go_cut [12, 13, 14] (fun s12 s13 s14 wx => ∃ t, s12 = .pointer (some ⟨t, 0, none⟩) ∧ s13 = .int .u16 0 ∧ s14 = .bool false ∧ (wx.cell? ⟨p, 0, none⟩ = some (.bool true) ∧ wx.cell? ⟨p, 1, none⟩ = some (.int .u16 i) ∧ wx.cell? ⟨p, 2, none⟩ = some (.int .u16 o) ∧ wx.cell? ⟨p, 3, none⟩ = some (.int .u16 n)) ∧ (wx.cell? ⟨t, 0, none⟩ = some (.bool true) ∧ wx.cell? ⟨t, 1, none⟩ = some (.int .u16 ((i + q) % 65536)) ∧ wx.cell? ⟨t, 2, none⟩ = some (.int .u16 o2) ∧ wx.cell? ⟨t, 3, none⟩ = some (.int .u16 n)) ∧ (wx.frozen? ⟨w.heap.size, 0, none⟩ = false ∧ wx.frozen? ⟨w.heap.size, 1, none⟩ = false ∧ wx.frozen? ⟨w.heap.size, 2, none⟩ = false ∧ wx.frozen? ⟨w.heap.size, 3, none⟩ = false) ∧ (wx.frozen? ⟨B, 0, none⟩ = false ∧ wx.frozen? ⟨B, 1, none⟩ = false ∧ wx.frozen? ⟨B, 2, none⟩ = false ∧ wx.frozen? ⟨B, 3, none⟩ = false) ∧ w.heap.size < wx.heap.size ∧ B < wx.heap.size ∧ (∃ a0 a1 a2 a3, (wx.cell? ⟨w.heap.size, 0, none⟩ = some (a0) ∧ wx.cell? ⟨w.heap.size, 1, none⟩ = some (a1) ∧ wx.cell? ⟨w.heap.size, 2, none⟩ = some (a2) ∧ wx.cell? ⟨w.heap.size, 3, none⟩ = some (a3))) ∧ (∃ a0 a1 a2 a3, (wx.cell? ⟨B, 0, none⟩ = some (a0) ∧ wx.cell? ⟨B, 1, none⟩ = some (a1) ∧ wx.cell? ⟨B, 2, none⟩ = some (a2) ∧ wx.cell? ⟨B, 3, none⟩ = some (a3))) ∧ t ≠ w.heap.size ∧ t ≠ B ∧ Below w.heap.size w wx)
          case first =>
            go_region_held3 (fun w' => w'.cell? ⟨B, 0, none⟩ = some (.bool true) ∧ w'.cell? ⟨B, 1, none⟩ = some (.int .u16 ((i + q) % 65536)) ∧ w'.cell? ⟨B, 2, none⟩ = some (.int .u16 o2) ∧ w'.cell? ⟨B, 3, none⟩ = some (.int .u16 n) ∧ w'.cell? ⟨b, off + k, none⟩ = some (.int .u16 x)) (first | (simp [*, go_sem]; done) | simp [*, go_sem, World.cell?_setCell_far])
              (first | (go_at_call 27; refine (stepNo _ _ _ _ _ hA2).mono ?_; rintro e w1 ⟨rfl, hb1⟩; have ha1 : After _ w1 := ⟨hb1⟩; obtain ⟨hc1, hf1⟩ := after hb1; have hz1 := hb1.size; try simp at hz1))
            all_goals (go_wp2_with fail; go_meet)
            all_goals refine ⟨_, rfl, rfl, rfl, ?_, ?_, ?_, ?_, ?_, ?_, ⟨a0, a1, a2, a3, ?_⟩, ⟨.bool true, .int .u16 ((i + q) % 65536), .int .u16 o2, .int .u16 n, ?_⟩, ?_, ?_, ?_⟩
            all_goals first | (show RowKit.Below _ _ _; (repeat (first | with_reducible exact Below.refl _ _ | (with_reducible refine Below.alloc ?_ ?_ _; rotate_left; focus ((try simp) <;> omega)) | (with_reducible refine Below.setCell ?_ ?_ _; rotate_left; focus ((try simp) <;> omega)) | (with_reducible refine below_grow ?_ ?_; rotate_left; focus ((try simp) <;> omega)) | with_reducible refine Below.drew ?_ | with_reducible refine below_drewN ?_ | with_reducible assumption | (with_reducible refine below_step (by assumption) ?_ ?_; rotate_left; focus ((try simp) <;> omega)))); done) | (simp [*, go_sem]; done) | omega | (simp; omega) | (simp [*, go_sem, World.cell?_setCell_far]; done)
          case rest =>
            clear e0 e1 e2 e3 p0 p1 p2 p3 m0 m1 m2 m3 n0 n1 n2 n3 r0 r1 r2 r3 hz0 hzB hzp hxc hwr oldw oldB oldp oldb
            obtain ⟨t, rfl, rfl, rfl, ⟨p0, p1, p2, p3⟩, ⟨t0, t1, t2, t3⟩, ⟨m0, m1, m2, m3⟩, ⟨n0, n1, n2, n3⟩, hz0, hzB, ⟨a0, a1, a2, a3, r0, r1, r2, r3⟩, ⟨b0, b1, b2, b3, q0, q1, q2, q3⟩, htw, htB, hbel3⟩ := hcut
            have oldw : Old w.heap.size wc := ⟨hz0⟩
            have oldB : Old B wc := ⟨hzB⟩
            have ht : (o != (o2 + q) % 65536) = false := by rw [bne_eq_false_iff_eq]; have := HO.out; omega
            go_wp2
            go_region
            all_goals go_wp2
            all_goals go_roundw
            all_goals try (case measure => simp [intOf]; omega)
            all_goals refine ⟨k + 1, true, i, o, o2, n, by omega, by go_num, ho, ho', HO.out, ?_, ?_, ?_, ?_, ?_, ?_⟩
            all_goals first | (show RowKit.Below _ _ _; (repeat (first | with_reducible exact Below.refl _ _ | (with_reducible refine Below.alloc ?_ ?_ _; rotate_left; focus ((try simp) <;> omega)) | (with_reducible refine Below.setCell ?_ ?_ _; rotate_left; focus ((try simp) <;> omega)) | (with_reducible refine below_grow ?_ ?_; rotate_left; focus ((try simp) <;> omega)) | with_reducible refine Below.drew ?_ | with_reducible refine below_drewN ?_ | with_reducible assumption | (with_reducible refine below_step (by assumption) ?_ ?_; rotate_left; focus ((try simp) <;> omega)))); done) | (simp [*, go_sem]; done) | omega | (simp; omega) | (simp [*, go_sem, World.cell?_setCell_far]; done)
      · have hA' : y = true → ahead x i = true := by cases h : ahead x i <;> simp_all
        have HA := Lib.hid hA'
        clear hA hA'
        go_upto_region 9 with fail
        go_cut [9, 10, 11] (fun s9 s10 s11 wx => ∃ p v, s9 = .pointer (some ⟨p, 0, none⟩) ∧ s10 = .int .u16 n ∧ s11 = .bool true ∧ v = (n - x) % 65536 ∧ (wx.cell? ⟨p, 0, none⟩ = some (.bool true) ∧ wx.cell? ⟨p, 1, none⟩ = some (.int .u16 x) ∧ wx.cell? ⟨p, 2, none⟩ = some (.int .u16 v) ∧ wx.cell? ⟨p, 3, none⟩ = some (.int .u16 ((n + 1) % 65536))) ∧ (wx.cell? ⟨B, 0, none⟩ = some (.bool y) ∧ wx.cell? ⟨B, 1, none⟩ = some (.int .u16 ((i + q) % 65536)) ∧ wx.cell? ⟨B, 2, none⟩ = some (.int .u16 o2) ∧ wx.cell? ⟨B, 3, none⟩ = some (.int .u16 n)) ∧ (wx.frozen? ⟨w.heap.size, 0, none⟩ = false ∧ wx.frozen? ⟨w.heap.size, 1, none⟩ = false ∧ wx.frozen? ⟨w.heap.size, 2, none⟩ = false ∧ wx.frozen? ⟨w.heap.size, 3, none⟩ = false) ∧ (wx.frozen? ⟨B, 0, none⟩ = false ∧ wx.frozen? ⟨B, 1, none⟩ = false ∧ wx.frozen? ⟨B, 2, none⟩ = false ∧ wx.frozen? ⟨B, 3, none⟩ = false) ∧ w.heap.size < wx.heap.size ∧ B < wx.heap.size ∧ p < wx.heap.size ∧ p ≠ w.heap.size ∧ p ≠ B ∧ (∃ a0 a1 a2 a3, (wx.cell? ⟨w.heap.size, 0, none⟩ = some (a0) ∧ wx.cell? ⟨w.heap.size, 1, none⟩ = some (a1) ∧ wx.cell? ⟨w.heap.size, 2, none⟩ = some (a2) ∧ wx.cell? ⟨w.heap.size, 3, none⟩ = some (a3))) ∧ Below w.heap.size w wx)
        case first =>
          go_region_held3 (fun w' => w'.cell? ⟨w.heap.size, 0, none⟩ = some (.bool y) ∧ w'.cell? ⟨w.heap.size, 1, none⟩ = some (.int .u16 i) ∧ w'.cell? ⟨w.heap.size, 2, none⟩ = some (.int .u16 o) ∧ w'.cell? ⟨w.heap.size, 3, none⟩ = some (.int .u16 n) ∧ w'.cell? ⟨b, off + k, none⟩ = some (.int .u16 x)) (first | (simp [*, go_sem]; done) | simp [*, go_sem, World.cell?_setCell_far])
            (first | (go_at_call 27; refine (stepYes _ _ _ _ _ _ HA.out).mono ?_; rintro e w1 ⟨rfl, hb1⟩; have ha1 : After _ w1 := ⟨hb1⟩; obtain ⟨hc1, hf1⟩ := after hb1; have hz1 := hb1.size; try simp at hz1))
          all_goals (go_wp2_with fail; go_meet)
          all_goals refine ⟨_, (n - x) % 65536, rfl, rfl, rfl, rfl, ?_, ?_, ?_, ?_, ?_, ?_, ?_, ?_, ?_, ⟨.bool y, .int .u16 i, .int .u16 o, .int .u16 n, ?_⟩, ?_⟩
          all_goals first | (show RowKit.Below _ _ _; (repeat (first | with_reducible exact Below.refl _ _ | (with_reducible refine Below.alloc ?_ ?_ _; rotate_left; focus ((try simp) <;> omega)) | (with_reducible refine Below.setCell ?_ ?_ _; rotate_left; focus ((try simp) <;> omega)) | (with_reducible refine below_grow ?_ ?_; rotate_left; focus ((try simp) <;> omega)) | with_reducible refine Below.drew ?_ | with_reducible refine below_drewN ?_ | with_reducible assumption | (with_reducible refine below_step (by assumption) ?_ ?_; rotate_left; focus ((try simp) <;> omega)))); done) | (simp [*, go_sem]; done) | omega | (simp; omega) | (simp [*, go_sem, World.cell?_setCell_far]; done)
        case rest =>
          obtain ⟨p, v, rfl, rfl, rfl, hv, ⟨p0, p1, p2, p3⟩, ⟨e0, e1, e2, e3⟩, ⟨m0, m1, m2, m3⟩, ⟨n0, n1, n2, n3⟩, hz0, hzB, hzp, hpw, hpB, ⟨a0, a1, a2, a3, r0, r1, r2, r3⟩, hbel2⟩ := hcut
          have HV := Lib.hid hv
          clear hv
          clear c0 c1 c2 c3 d0 d1 d2 d3 f0 f1 f2 f3 g0 g1 g2 g3 hxr hold hold2 hbo
          have hxc : wc.cell? ⟨b, off + k, none⟩ = some (.int .u16 x) := by rw [hbel2.cell (p := ⟨b, _, none⟩) hb]; exact hx
          have oldw : Old w.heap.size wc := ⟨hz0⟩
          have oldB : Old B wc := ⟨hzB⟩
          have oldp : Old p wc := ⟨hzp⟩
          have oldb : Old b wc := ⟨Nat.lt_of_lt_of_le hb hbel2.size⟩
          have hwr : IntKind.u16.wrap (x + q) = (x + q) % 65536 := wrap_u16 _
          have hA2 : y = true → ahead ((x + q) % 65536) ((i + q) % 65536) = true := by rw [ahead_shift]; exact HA.out
          have HA2 := Lib.hid hA2
          clear hA2
          go_upto_region 10 with fail
          obtain ⟨wo, hwo⟩ : ∃ wo : World, wo = wc := ⟨_, rfl⟩
          subst hwo
          go_cut [12, 13, 14] (fun s12 s13 s14 wx => ∃ t v2, s12 = .pointer (some ⟨t, 0, none⟩) ∧ s13 = .int .u16 n ∧ s14 = .bool true ∧ v2 = (n - (x + q) % 65536) % 65536 ∧ (wx.cell? ⟨p, 0, none⟩ = some (.bool true) ∧ wx.cell? ⟨p, 1, none⟩ = some (.int .u16 x) ∧ wx.cell? ⟨p, 2, none⟩ = some (.int .u16 v) ∧ wx.cell? ⟨p, 3, none⟩ = some (.int .u16 ((n + 1) % 65536))) ∧ (wx.cell? ⟨t, 0, none⟩ = some (.bool true) ∧ wx.cell? ⟨t, 1, none⟩ = some (.int .u16 ((x + q) % 65536)) ∧ wx.cell? ⟨t, 2, none⟩ = some (.int .u16 v2) ∧ wx.cell? ⟨t, 3, none⟩ = some (.int .u16 ((n + 1) % 65536))) ∧ (wx.frozen? ⟨w.heap.size, 0, none⟩ = false ∧ wx.frozen? ⟨w.heap.size, 1, none⟩ = false ∧ wx.frozen? ⟨w.heap.size, 2, none⟩ = false ∧ wx.frozen? ⟨w.heap.size, 3, none⟩ = false) ∧ (wx.frozen? ⟨B, 0, none⟩ = false ∧ wx.frozen? ⟨B, 1, none⟩ = false ∧ wx.frozen? ⟨B, 2, none⟩ = false ∧ wx.frozen? ⟨B, 3, none⟩ = false) ∧ w.heap.size < wx.heap.size ∧ B < wx.heap.size ∧ (∃ a0 a1 a2 a3, (wx.cell? ⟨w.heap.size, 0, none⟩ = some (a0) ∧ wx.cell? ⟨w.heap.size, 1, none⟩ = some (a1) ∧ wx.cell? ⟨w.heap.size, 2, none⟩ = some (a2) ∧ wx.cell? ⟨w.heap.size, 3, none⟩ = some (a3))) ∧ (∃ a0 a1 a2 a3, (wx.cell? ⟨B, 0, none⟩ = some (a0) ∧ wx.cell? ⟨B, 1, none⟩ = some (a1) ∧ wx.cell? ⟨B, 2, none⟩ = some (a2) ∧ wx.cell? ⟨B, 3, none⟩ = some (a3))) ∧ t ≠ w.heap.size ∧ t ≠ B ∧ Below w.heap.size w wx)
          case first =>
            go_region_held3 (fun w' => w'.cell? ⟨B, 0, none⟩ = some (.bool y) ∧ w'.cell? ⟨B, 1, none⟩ = some (.int .u16 ((i + q) % 65536)) ∧ w'.cell? ⟨B, 2, none⟩ = some (.int .u16 o2) ∧ w'.cell? ⟨B, 3, none⟩ = some (.int .u16 n) ∧ w'.cell? ⟨b, off + k, none⟩ = some (.int .u16 x)) (first | (simp [*, go_sem]; done) | simp [*, go_sem, World.cell?_setCell_far])
              (first | (go_at_call 27; refine (stepYes _ _ _ _ _ _ HA2.out).mono ?_; rintro e w1 ⟨rfl, hb1⟩; have ha1 : After _ w1 := ⟨hb1⟩; obtain ⟨hc1, hf1⟩ := after hb1; have hz1 := hb1.size; try simp at hz1))
            all_goals (go_wp2_with fail; go_meet)
            all_goals refine ⟨_, (n - (x + q) % 65536) % 65536, rfl, rfl, rfl, rfl, ?_, ?_, ?_, ?_, ?_, ?_, ⟨a0, a1, a2, a3, ?_⟩, ⟨.bool y, .int .u16 ((i + q) % 65536), .int .u16 o2, .int .u16 n, ?_⟩, ?_, ?_, ?_⟩
            all_goals first | (show RowKit.Below _ _ _; (repeat (first | with_reducible exact Below.refl _ _ | (with_reducible refine Below.alloc ?_ ?_ _; rotate_left; focus ((try simp) <;> omega)) | (with_reducible refine Below.setCell ?_ ?_ _; rotate_left; focus ((try simp) <;> omega)) | (with_reducible refine below_grow ?_ ?_; rotate_left; focus ((try simp) <;> omega)) | with_reducible refine Below.drew ?_ | with_reducible refine below_drewN ?_ | with_reducible assumption | (with_reducible refine below_step (by assumption) ?_ ?_; rotate_left; focus ((try simp) <;> omega)))); done) | (simp [*, go_sem]; done) | omega | (simp; omega) | (simp [*, go_sem, World.cell?_setCell_far]; done)
          case rest =>
            clear e0 e1 e2 e3 p0 p1 p2 p3 m0 m1 m2 m3 n0 n1 n2 n3 r0 r1 r2 r3 hz0 hzB hzp hxc hwr oldw oldB oldp oldb
            obtain ⟨t, v2, rfl, rfl, rfl, hv2, ⟨p0, p1, p2, p3⟩, ⟨t0, t1, t2, t3⟩, ⟨m0, m1, m2, m3⟩, ⟨n0, n1, n2, n3⟩, hz0, hzB, ⟨a0, a1, a2, a3, r0, r1, r2, r3⟩, ⟨b0, b1, b2, b3, q0, q1, q2, q3⟩, htw, htB, hbel3⟩ := hcut
            have oldw : Old w.heap.size wc := ⟨hz0⟩
            have oldB : Old B wc := ⟨hzB⟩
            have ht : (v != (v2 + q) % 65536) = false := by rw [bne_eq_false_iff_eq]; have := HV.out; omega
            have HV2 := Lib.hid hv2
            clear hv2
            go_wp2
            go_region
            all_goals go_wp2
            all_goals go_roundw
            all_goals try (case measure => simp [intOf]; omega)
            all_goals refine ⟨k + 1, true, x, v, v2, (n + 1) % 65536, by omega, by go_num, by have := HV.out; omega, by have := HV.out; omega, by have := HV.out; have := HV2.out; omega, ?_, ?_, ?_, ?_, ?_, ?_⟩
            all_goals first | (show RowKit.Below _ _ _; (repeat (first | with_reducible exact Below.refl _ _ | (with_reducible refine Below.alloc ?_ ?_ _; rotate_left; focus ((try simp) <;> omega)) | (with_reducible refine Below.setCell ?_ ?_ _; rotate_left; focus ((try simp) <;> omega)) | (with_reducible refine below_grow ?_ ?_; rotate_left; focus ((try simp) <;> omega)) | with_reducible refine Below.drew ?_ | with_reducible refine below_drewN ?_ | with_reducible assumption | (with_reducible refine below_step (by assumption) ?_ ?_; rotate_left; focus ((try simp) <;> omega)))); done) | (simp [*, go_sem]; done) | omega | (simp; omega) | (simp [*, go_sem, World.cell?_setCell_far]; done)
    · clear hcell
      by_cases hkl : k < len
      · have hk1 : (100 : Int) ≤ (k : Int) := by omega
        go_wp2
        refine ret_any ⟨_, by simp [results, Try.results10, go_sem, *]; rfl, ?_⟩ rfl
        exact gives_of rfl hbel
      · go_wp2
        refine ret_any ⟨_, by simp [results, Try.results10, go_sem, *]; rfl, ?_⟩ rfl
        exact gives_of rfl hbel
end Go.Proofs.Ytplhgpeeekjfcaa
