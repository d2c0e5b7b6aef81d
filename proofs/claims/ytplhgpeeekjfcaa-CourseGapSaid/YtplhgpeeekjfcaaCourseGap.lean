/-
  The law CourseGap as a walk: over any row of numbers, with breaks, those that are told rise by one. No condition but that the arguments fit their types.
-/
import Derived.Test.YtplhgpeeekjfcaaCourse
import Derived.Test.YtplhgpeeekjfcaaMore
namespace Go.Proofs.Ytplhgpeeekjfcaa
open Go.RowKit Go.Sort Go.BigFrame
set_option linter.unusedVariables false
attribute [local go_sem ↓] Go.wp_at_zero Go.wp_at_succ
set_option maxRecDepth 100000 in
set_option maxHeartbeats 6400000 in
theorem courseGap_ok (v0 v1 v2 : Value) (w : World) (h0 : Arg Try.prog w 36 v0) (h1 : Arg Try.prog w 42 v1) (h2 : Arg Try.prog w 43 v2) : Calls Try.prog 8 #[v0, v1, v2] w (Gives (.bool true) w) := by
  obtain ⟨y, i, o, n, rfl, hi, hi', ho, ho', hn, hn'⟩ := arg_course h0
  obtain ⟨a, len, cap, he, hlen, hcell⟩ := fit_row16 rfl (arg_slice Try.underlying42 h1)
  simp only [List.cons.injEq, and_true] at he
  subst he
  obtain ⟨a2, len2, cap2, he, hlen2, hcell2⟩ := fit_rowB rfl (arg_slice Try.underlying43 h2)
  simp only [List.cons.injEq, and_true] at he
  subst he
  clear h0 h1 h2
  unfold maxLen at hlen hlen2
  go_enter Try.func8, Try.ntmps8
  go_wp2_with (first | (go_at_call 26; refine (shown14 _).mono ?_; rintro e w1 ⟨rfl, hb1⟩; have ha1 : After _ w1 := ⟨hb1⟩; obtain ⟨hc1, hf1⟩ := after hb1; have hz1 := hb1.size; try simp at hz1))
  go_loopw [7, 8] (fun s7 s8 wr => ∃ (k : Nat) (y : Bool) (i o n : Int), k ≤ len ∧ s8 = .int .i64 k ∧ s7 = .int .u16 n ∧ 0 ≤ n ∧ n ≤ 65535 ∧ (wr.cell? ⟨w.heap.size, 0, none⟩ = some (.bool y) ∧ wr.cell? ⟨w.heap.size, 1, none⟩ = some (.int .u16 i) ∧ wr.cell? ⟨w.heap.size, 2, none⟩ = some (.int .u16 o) ∧ wr.cell? ⟨w.heap.size, 3, none⟩ = some (.int .u16 n)) ∧ (wr.frozen? ⟨w.heap.size, 0, none⟩ = false ∧ wr.frozen? ⟨w.heap.size, 1, none⟩ = false ∧ wr.frozen? ⟨w.heap.size, 2, none⟩ = false ∧ wr.frozen? ⟨w.heap.size, 3, none⟩ = false) ∧ Below w.heap.size w wr ∧ w.heap.size < wr.heap.size) (fun _ i _ => len - (intOf i).toNat)
  case atStart =>
    refine ⟨0, y, i, o, n, by omega, rfl, rfl, hn, hn', ?_, ?_, ?_, ?_⟩
    all_goals first | (show RowKit.Below _ _ _; (repeat (first | with_reducible exact Below.refl _ _ | (with_reducible refine Below.alloc ?_ ?_ _; rotate_left; focus ((try simp) <;> omega)) | (with_reducible refine Below.setCell ?_ ?_ _; rotate_left; focus ((try simp) <;> omega)) | (with_reducible refine below_grow ?_ ?_; rotate_left; focus ((try simp) <;> omega)) | with_reducible refine Below.drew ?_ | with_reducible refine below_drewN ?_ | with_reducible assumption | (with_reducible refine below_step (by assumption) ?_ ?_; rotate_left; focus ((try simp) <;> omega)))); done) | (simp [*, go_sem]; done) | omega | (simp; omega) | (simp [*, go_sem, World.cell?_setCell_far]; done)
  case round =>
    obtain ⟨k, y, i, o, n, hk, rfl, rfl, hn, hn', ⟨c0, c1, c2, c3⟩, ⟨f0, f1, f2, f3⟩, hbel, hsz⟩ := hrel
    have hold : Old w.heap.size wr := ⟨hsz⟩
    by_cases hlt : k < len ∧ k < 200
    · obtain ⟨k1, k2⟩ := hlt
      obtain ⟨b, off, x, rfl, hb, hx, hx0, hx1⟩ := hcell k k1
      have hxr : wr.cell? ⟨b, off + k, none⟩ = some (.int .u16 x) := by rw [hbel.cell (p := ⟨b, _, none⟩) hb]; exact hx
      have hbo : Old b wr := ⟨Nat.lt_of_lt_of_le hb hbel.size⟩
      have hkk : ((k : Int)) < 200 := by omega
      have HC := Lib.hid hcell2
      clear hlen hcell hcell2
      go_upto_region 7 with fail
      go_cut [35] (fun s35 wx => ∃ c : Bool, s35 = .bool c ∧ wx = wr)
      case first =>
        by_cases hk2 : k < len2
        · obtain ⟨b2, off2, bk, rfl, hb2, hbk⟩ := HC.out k hk2
          have hbr : wr.cell? ⟨b2, off2 + k, none⟩ = some (.bool bk) := by rw [hbel.cell (p := ⟨b2, _, none⟩) hb2]; exact hbk
          go_wp2_with fail
          go_meet
          exact ⟨_, rfl, rfl⟩
        · go_wp2_with fail
          go_meet
          exact ⟨_, rfl, rfl⟩
      case rest =>
        obtain ⟨c, rfl, rfl⟩ := hcut
        go_upto_if 35 with (fail)
        go_cut [8] (fun s8 wx => ∃ y' : Bool, s8 = .int .i64 k ∧ (wx.cell? ⟨w.heap.size, 0, none⟩ = some (.bool y') ∧ wx.cell? ⟨w.heap.size, 1, none⟩ = some (.int .u16 i) ∧ wx.cell? ⟨w.heap.size, 2, none⟩ = some (.int .u16 o) ∧ wx.cell? ⟨w.heap.size, 3, none⟩ = some (.int .u16 n)) ∧ (wx.frozen? ⟨w.heap.size, 0, none⟩ = false ∧ wx.frozen? ⟨w.heap.size, 1, none⟩ = false ∧ wx.frozen? ⟨w.heap.size, 2, none⟩ = false ∧ wx.frozen? ⟨w.heap.size, 3, none⟩ = false) ∧ Below w.heap.size w wx ∧ w.heap.size < wx.heap.size)
        case first =>
          cases c
          · go_wp2_with fail
            go_meet
            exact ⟨y, rfl, ⟨c0, c1, c2, c3⟩, ⟨f0, f1, f2, f3⟩, hbel, hsz⟩
          · go_wp2_with (go_at_call 29; refine (breakC _ _ _ _ _).mono ?_; rintro e w1 ⟨rfl, hb1⟩; have ha1 : After _ w1 := ⟨hb1⟩; obtain ⟨hc1, hf1⟩ := after hb1; have hz1 := hb1.size; try simp at hz1)
            go_meet
            refine ⟨false, rfl, ?_, ?_, ?_, ?_⟩
            all_goals first | (show RowKit.Below _ _ _; (repeat (first | with_reducible exact Below.refl _ _ | (with_reducible refine Below.alloc ?_ ?_ _; rotate_left; focus ((try simp) <;> omega)) | (with_reducible refine Below.setCell ?_ ?_ _; rotate_left; focus ((try simp) <;> omega)) | (with_reducible refine below_grow ?_ ?_; rotate_left; focus ((try simp) <;> omega)) | with_reducible refine Below.drew ?_ | with_reducible refine below_drewN ?_ | with_reducible assumption | (with_reducible refine below_step (by assumption) ?_ ?_; rotate_left; focus ((try simp) <;> omega)))); done) | (simp [*, go_sem]; done) | omega | (simp; omega) | (simp [*, go_sem, World.cell?_setCell_far]; done)
        case rest =>
          clear c0 c1 c2 c3 f0 f1 f2 f3 hbel hsz hold hxr hbo
          obtain ⟨y, rfl, ⟨c0, c1, c2, c3⟩, ⟨f0, f1, f2, f3⟩, hbel, hsz⟩ := hcut
          obtain ⟨wq, hwq⟩ : ∃ wq : World, wq = wc := ⟨_, rfl⟩
          subst hwq
          have hold : Old w.heap.size wq := ⟨hsz⟩
          have hxr : wq.cell? ⟨b, off + k, none⟩ = some (.int .u16 x) := by rw [hbel.cell (p := ⟨b, _, none⟩) hb]; exact hx
          have hbo : Old b wq := ⟨Nat.lt_of_lt_of_le hb hbel.size⟩
          have i1 : (0 : Int) ≤ (k : Int) := by omega
          have i2 : (k : Int) < (len : Int) := by omega
          clear HC
          by_cases hA : y = true ∧ ahead x i = false
          · obtain ⟨rfl, hA⟩ := hA
            go_upto_region 9 with fail
            go_cut [9, 10, 11] (fun s9 s10 s11 wx => ∃ p, s9 = .pointer (some ⟨p, 0, none⟩) ∧ s10 = .int .u16 0 ∧ s11 = .bool false ∧ (wx.cell? ⟨p, 0, none⟩ = some (.bool true) ∧ wx.cell? ⟨p, 1, none⟩ = some (.int .u16 i) ∧ wx.cell? ⟨p, 2, none⟩ = some (.int .u16 o) ∧ wx.cell? ⟨p, 3, none⟩ = some (.int .u16 n)) ∧ (wx.cell? ⟨w.heap.size, 0, none⟩ = some (.bool true) ∧ wx.cell? ⟨w.heap.size, 1, none⟩ = some (.int .u16 i) ∧ wx.cell? ⟨w.heap.size, 2, none⟩ = some (.int .u16 o) ∧ wx.cell? ⟨w.heap.size, 3, none⟩ = some (.int .u16 n)) ∧ (wx.frozen? ⟨w.heap.size, 0, none⟩ = false ∧ wx.frozen? ⟨w.heap.size, 1, none⟩ = false ∧ wx.frozen? ⟨w.heap.size, 2, none⟩ = false ∧ wx.frozen? ⟨w.heap.size, 3, none⟩ = false) ∧ w.heap.size < wx.heap.size ∧ Below w.heap.size w wx)
            case first =>
              go_region_held3 (fun w' => w'.cell? ⟨w.heap.size, 0, none⟩ = some (.bool true) ∧ w'.cell? ⟨w.heap.size, 1, none⟩ = some (.int .u16 i) ∧ w'.cell? ⟨w.heap.size, 2, none⟩ = some (.int .u16 o) ∧ w'.cell? ⟨w.heap.size, 3, none⟩ = some (.int .u16 n) ∧ w'.cell? ⟨b, off + k, none⟩ = some (.int .u16 x)) (first | (simp [*, go_sem]; done) | simp [*, go_sem, World.cell?_setCell_far])
                (first | (go_at_call 27; refine (stepNo _ _ _ _ _ hA).mono ?_; rintro e w1 ⟨rfl, hb1⟩; have ha1 : After _ w1 := ⟨hb1⟩; obtain ⟨hc1, hf1⟩ := after hb1; have hz1 := hb1.size; try simp at hz1))
              all_goals (go_wp2_with fail; go_meet)
              all_goals refine ⟨_, rfl, rfl, rfl, ?_, ?_, ?_, ?_, ?_⟩
              all_goals first | (show RowKit.Below _ _ _; (repeat (first | with_reducible exact Below.refl _ _ | (with_reducible refine Below.alloc ?_ ?_ _; rotate_left; focus ((try simp) <;> omega)) | (with_reducible refine Below.setCell ?_ ?_ _; rotate_left; focus ((try simp) <;> omega)) | (with_reducible refine below_grow ?_ ?_; rotate_left; focus ((try simp) <;> omega)) | with_reducible refine Below.drew ?_ | with_reducible refine below_drewN ?_ | with_reducible assumption | (with_reducible refine below_step (by assumption) ?_ ?_; rotate_left; focus ((try simp) <;> omega)))); done) | (simp [*, go_sem]; done) | omega | (simp; omega) | (simp [*, go_sem, World.cell?_setCell_far]; done)
            case rest =>
              clear c0 c1 c2 c3 f0 f1 f2 f3 hbel hsz hold hxr hbo
              obtain ⟨p, rfl, rfl, rfl, ⟨p0, p1, p2, p3⟩, ⟨e0, e1, e2, e3⟩, ⟨f0, f1, f2, f3⟩, hsz, hbel⟩ := hcut
              have hxc : wc.cell? ⟨b, off + k, none⟩ = some (.int .u16 x) := by rw [hbel.cell (p := ⟨b, _, none⟩) hb]; exact hx
              go_wp2
              go_quiet ((go_at_call 32; exact Calls.quiet_of_same ((ahead16 _ _ _).mono fun _ _ h => ⟨h.1, h.2.symm⟩)))
              go_wp2
              go_roundw
              case rel =>
                refine ⟨k + 1, true, i, o, n, by omega, by go_num, rfl, hn, hn', ?_, ?_, ?_, ?_⟩
                all_goals first | (show RowKit.Below _ _ _; (repeat (first | with_reducible exact Below.refl _ _ | (with_reducible refine Below.alloc ?_ ?_ _; rotate_left; focus ((try simp) <;> omega)) | (with_reducible refine Below.setCell ?_ ?_ _; rotate_left; focus ((try simp) <;> omega)) | (with_reducible refine below_grow ?_ ?_; rotate_left; focus ((try simp) <;> omega)) | with_reducible refine Below.drew ?_ | with_reducible refine below_drewN ?_ | with_reducible assumption | (with_reducible refine below_step (by assumption) ?_ ?_; rotate_left; focus ((try simp) <;> omega)))); done) | (simp [*, go_sem]; done) | omega | (simp; omega) | (simp [*, go_sem, World.cell?_setCell_far]; done)
              case measure => simp [intOf]; omega
          · have hA' : y = true → ahead x i = true := by cases h : ahead x i <;> simp_all
            have HA := Lib.hid hA'
            clear hA hA'
            go_upto_region 9 with fail
            go_cut [9, 10, 11] (fun s9 s10 s11 wx => ∃ p v, s9 = .pointer (some ⟨p, 0, none⟩) ∧ s10 = .int .u16 n ∧ s11 = .bool true ∧ v = (n - x) % 65536 ∧ (wx.cell? ⟨p, 0, none⟩ = some (.bool true) ∧ wx.cell? ⟨p, 1, none⟩ = some (.int .u16 x) ∧ wx.cell? ⟨p, 2, none⟩ = some (.int .u16 v) ∧ wx.cell? ⟨p, 3, none⟩ = some (.int .u16 ((n + 1) % 65536))) ∧ (wx.cell? ⟨w.heap.size, 0, none⟩ = some (.bool y) ∧ wx.cell? ⟨w.heap.size, 1, none⟩ = some (.int .u16 i) ∧ wx.cell? ⟨w.heap.size, 2, none⟩ = some (.int .u16 o) ∧ wx.cell? ⟨w.heap.size, 3, none⟩ = some (.int .u16 n)) ∧ (wx.frozen? ⟨w.heap.size, 0, none⟩ = false ∧ wx.frozen? ⟨w.heap.size, 1, none⟩ = false ∧ wx.frozen? ⟨w.heap.size, 2, none⟩ = false ∧ wx.frozen? ⟨w.heap.size, 3, none⟩ = false) ∧ w.heap.size < wx.heap.size ∧ p < wx.heap.size ∧ Below w.heap.size w wx)
            case first =>
              go_region_held3 (fun w' => w'.cell? ⟨w.heap.size, 0, none⟩ = some (.bool y) ∧ w'.cell? ⟨w.heap.size, 1, none⟩ = some (.int .u16 i) ∧ w'.cell? ⟨w.heap.size, 2, none⟩ = some (.int .u16 o) ∧ w'.cell? ⟨w.heap.size, 3, none⟩ = some (.int .u16 n) ∧ w'.cell? ⟨b, off + k, none⟩ = some (.int .u16 x)) (first | (simp [*, go_sem]; done) | simp [*, go_sem, World.cell?_setCell_far])
                (first | (go_at_call 27; refine (stepYes _ _ _ _ _ _ HA.out).mono ?_; rintro e w1 ⟨rfl, hb1⟩; have ha1 : After _ w1 := ⟨hb1⟩; obtain ⟨hc1, hf1⟩ := after hb1; have hz1 := hb1.size; try simp at hz1))
              all_goals (go_wp2_with fail; go_meet)
              all_goals refine ⟨_, (n - x) % 65536, rfl, rfl, rfl, rfl, ?_, ?_, ?_, ?_, ?_, ?_⟩
              all_goals first | (show RowKit.Below _ _ _; (repeat (first | with_reducible exact Below.refl _ _ | (with_reducible refine Below.alloc ?_ ?_ _; rotate_left; focus ((try simp) <;> omega)) | (with_reducible refine Below.setCell ?_ ?_ _; rotate_left; focus ((try simp) <;> omega)) | (with_reducible refine below_grow ?_ ?_; rotate_left; focus ((try simp) <;> omega)) | with_reducible refine Below.drew ?_ | with_reducible refine below_drewN ?_ | with_reducible assumption | (with_reducible refine below_step (by assumption) ?_ ?_; rotate_left; focus ((try simp) <;> omega)))); done) | (simp [*, go_sem]; done) | omega | (simp; omega) | (simp [*, go_sem, World.cell?_setCell_far]; done)
            case rest =>
              clear c0 c1 c2 c3 f0 f1 f2 f3 hbel hsz hold hxr hbo
              obtain ⟨p, v, rfl, rfl, rfl, hv, ⟨p0, p1, p2, p3⟩, ⟨e0, e1, e2, e3⟩, ⟨f0, f1, f2, f3⟩, hsz, hpz, hbel⟩ := hcut
              have hxc : wc.cell? ⟨b, off + k, none⟩ = some (.int .u16 x) := by rw [hbel.cell (p := ⟨b, _, none⟩) hb]; exact hx
              have HV : (x + v) % 65536 = n := by omega
              have HV := Lib.hid HV
              clear hv
              have oldw : Old w.heap.size wc := ⟨hsz⟩
              have oldp : Old p wc := ⟨hpz⟩
              have oldb : Old b wc := ⟨Nat.lt_of_lt_of_le hb hbel.size⟩
              cases y
              all_goals try have hAt := HA.out rfl
              all_goals go_wp2_with fail
              all_goals
                refine wp_region_quiet_below (by kernel_rfl) (by kernel_rfl) ?_
                repeat (first | go_big_quiet_step (((first | (go_at_call 32; exact Calls.regrown_gives (Calls.gives_of_pure (ahead16 _ _ _))) | (go_at_call 31; exact Calls.regrown_gives (outC' _ _ _ _ _ n _ HV.out))))) | quiet_step (((first | (go_at_call 32; exact Calls.regrown_gives (Calls.gives_of_pure (ahead16 _ _ _))) | (go_at_call 31; exact Calls.regrown_gives (outC' _ _ _ _ _ n _ HV.out))))))
                refine wpQuiet_nil ?_
                intro _ hw'
                obtain ⟨⟨dq, osq⟩, hw''⟩ := hw'
                subst hw''
              all_goals go_wp2
              all_goals go_roundw
              all_goals try (case measure => simp [intOf]; omega)
              all_goals refine ⟨k + 1, true, x, v, (n + 1) % 65536, by omega, by go_num, rfl, by omega, by omega, ?_, ?_, ?_, ?_⟩
              all_goals first | (show RowKit.Below _ _ _; (repeat (first | with_reducible exact Below.refl _ _ | (with_reducible refine Below.alloc ?_ ?_ _; rotate_left; focus ((try simp) <;> omega)) | (with_reducible refine Below.setCell ?_ ?_ _; rotate_left; focus ((try simp) <;> omega)) | (with_reducible refine below_grow ?_ ?_; rotate_left; focus ((try simp) <;> omega)) | with_reducible refine Below.drew ?_ | with_reducible refine below_drewN ?_ | with_reducible assumption | (with_reducible refine below_step (by assumption) ?_ ?_; rotate_left; focus ((try simp) <;> omega)))); done) | (simp [*, go_sem]; done) | omega | (simp; omega) | (simp [*, go_sem, World.cell?_setCell_far]; done)
    · clear hcell hcell2
      by_cases hkl : k < len
      · have hk1 : (200 : Int) ≤ (k : Int) := by omega
        go_wp2
        refine ret_any ⟨_, by simp [results, Try.results8, go_sem, *]; rfl, ?_⟩ rfl
        exact gives_of rfl hbel
      · go_wp2
        refine ret_any ⟨_, by simp [results, Try.results8, go_sem, *]; rfl, ?_⟩ rfl
        exact gives_of rfl hbel
end Go.Proofs.Ytplhgpeeekjfcaa
