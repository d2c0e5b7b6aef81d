/-
  The law GateKeys as a walk: a layer is left for another one only by a key frame of the one that is wanted. No condition but that the arguments fit their types.
-/
import Derived.Test.YtplhgpeeekjfcaaGate
namespace Go.Proofs.Ytplhgpeeekjfcaa
open Go.RowKit Go.Sort Go.BigFrame
set_option linter.unusedVariables false
attribute [local go_sem ↓] Go.wp_at_zero Go.wp_at_succ
/-- A slice of calls. -/
theorem fit_gacts {w : World} {n t : Nat} {cs : List Value} (ht : t = 57) (h : FitW Try.prog w (n + 3) t cs) : ∃ (a : Option Addr) (len cap : Nat), cs = [.slice a len cap] ∧ len ≤ maxLen ∧
    ∀ i, i < len → ∃ b off kd ly on, a = some ⟨b, off, none⟩ ∧ b < w.heap.size ∧ w.cell? ⟨b, off + i * 3, none⟩ = some (.int .i64 kd) ∧ w.cell? ⟨b, off + i * 3 + 1, none⟩ = some (.int .i64 ly) ∧ w.cell? ⟨b, off + i * 3 + 2, none⟩ = some (.bool on) := by
  subst ht
  obtain ⟨a, len, cap, h1, h2, h3, h4, h5⟩ := fit_slice Try.underlying57 (show Try.prog.cellsOf 59 = 3 by kernel_rfl) (by omega) h
  refine ⟨a, len, cap, h1, by omega, fun i hi => ?_⟩
  obtain ⟨b, off, es, e1, e2, e3, e4, e5⟩ := h5 i hi
  obtain ⟨kd, ly, on, rfl, _⟩ := fit_gact e5
  exact ⟨b, off, kd, ly, on, e1, e2, by simpa using e4 0 (by omega), by simpa using e4 1 (by omega), by simpa using e4 2 (by omega)⟩
theorem take_quiet (a c l : Int) (p m key : Bool) (h : (p || m) = true) : takeV a c p m l key = 4 ∧ takeC a c p m l key = c := by
  have : takeV a c p m l key = 4 := by simp [takeV, h]
  exact ⟨this, by simp [takeC, this]⟩
theorem take_switch (a c : Int) (h : c ≠ a) : takeV a c false false a true = 2 ∧ takeC a c false false a true = a := by
  have : takeV a c false false a true = 2 := by simp [takeV, h]
  exact ⟨this, by simp [takeC, this]⟩
theorem take_sent (a c : Int) (key : Bool) (h : ¬ (c ≠ a ∧ c = a ∧ key = true)) : takeV a c false false c key = 1 ∧ takeC a c false false c key = c := by
  have : takeV a c false false c key = 1 := by unfold takeV; simp; intro h1 h2; exact absurd h1 h2
  exact ⟨this, by simp [takeC, this]⟩
theorem take_gated (a c l : Int) (key : Bool) (h : ¬ (l = a ∧ c ≠ a ∧ key = true)) (h' : l ≠ c) : takeV a c false false l key = 3 ∧ takeC a c false false l key = c := by
  have : takeV a c false false l key = 3 := by unfold takeV; rw [if_neg (by simp), if_neg h, if_neg h']
  exact ⟨this, by simp [takeC, this]⟩
set_option maxRecDepth 100000 in
set_option maxHeartbeats 6400000 in
theorem gateKeys_ok (v0 v1 : Value) (w : World) (h0 : Arg Try.prog w 3 v0) (h1 : Arg Try.prog w 57 v1) : Calls Try.prog 12 #[v0, v1] w (Gives (.bool true) w) := by
  obtain ⟨want, rfl, hwa, hwa'⟩ := arg_i64 Try.underlying3 h0
  obtain ⟨sa, len, cap, he, hlen, hcell⟩ := fit_gacts rfl (arg_slice Try.underlying57 h1)
  simp only [List.cons.injEq, and_true] at he
  subst he
  clear h0 h1
  unfold maxLen at hlen
  go_enter Try.func12, Try.ntmps12
  go_wp2_with (first | (go_at_call 33; refine (shown16 _).mono ?_; rintro e w1 ⟨rfl, hb1⟩; have ha1 : After _ w1 := ⟨hb1⟩; obtain ⟨hc1, hf1⟩ := after hb1; have hz1 := hb1.size; try simp at hz1) | (go_at_call 41; refine (gateNew _ _).mono ?_; rintro e w1 ⟨rfl, hb1⟩; have ha1 : After _ w1 := ⟨hb1⟩; obtain ⟨hc1, hf1⟩ := after hb1; have hz1 := hb1.size; try simp at hz1))
  go_loopw [6, 7] (fun s6 s7 wr => ∃ (k : Nat) (a c L : Int) (p m : Bool), k ≤ len ∧ s7 = .int .i64 k ∧ s6 = .int .i64 L ∧ (0 ≤ c → c = L) ∧ (wr.cell? ⟨w1.heap.size, 0, none⟩ = some (.int .i64 a) ∧ wr.cell? ⟨w1.heap.size, 1, none⟩ = some (.int .i64 c) ∧ wr.cell? ⟨w1.heap.size, 2, none⟩ = some (.bool p) ∧ wr.cell? ⟨w1.heap.size, 3, none⟩ = some (.bool m)) ∧ (wr.frozen? ⟨w1.heap.size, 0, none⟩ = false ∧ wr.frozen? ⟨w1.heap.size, 1, none⟩ = false ∧ wr.frozen? ⟨w1.heap.size, 2, none⟩ = false ∧ wr.frozen? ⟨w1.heap.size, 3, none⟩ = false) ∧ Below w.heap.size w wr ∧ w1.heap.size < wr.heap.size) (fun _ i _ => len - (intOf i).toNat)
  case atStart =>
    refine ⟨0, heldV want, -1, -1, false, false, by omega, rfl, rfl, by omega, ?_, ?_, ?_, ?_⟩
    all_goals first | (show RowKit.Below _ _ _; (repeat (first | with_reducible exact Below.refl _ _ | (with_reducible refine Below.alloc ?_ ?_ _; rotate_left; focus ((try simp) <;> omega)) | (with_reducible refine Below.setCell ?_ ?_ _; rotate_left; focus ((try simp) <;> omega)) | (with_reducible refine below_grow ?_ ?_; rotate_left; focus ((try simp) <;> omega)) | (with_reducible refine below_putB ?_ ?_; rotate_left; focus ((try simp) <;> omega)) | with_reducible refine Below.drew ?_ | with_reducible refine below_drewN ?_ | with_reducible assumption | (with_reducible refine below_step (by assumption) ?_ ?_; rotate_left; focus ((try simp) <;> omega)))); done) | (simp [*, go_sem]; done) | omega | (simp; omega) | (simp [*, go_sem, World.cell?_setCell_far]; done)
  case round =>
    have hle : w.heap.size ≤ w1.heap.size := by omega
    obtain ⟨B, hB⟩ : ∃ B, B = w1.heap.size := ⟨_, rfl⟩
    rw [← hB] at hrel hle
    rw [← hB]
    clear hB hz1
    obtain ⟨k, a, c, L, p, m, hk, rfl, rfl, hcl, ⟨c0, c1, c2, c3⟩, ⟨f0, f1, f2, f3⟩, hbel, hsz⟩ := hrel
    have hold : Old B wr := ⟨hsz⟩
    have HCL := Lib.hid hcl
    clear hcl
    by_cases hlt : k < len ∧ k < 200
    · obtain ⟨k1, k2⟩ := hlt
      obtain ⟨b, off, kd, ly, on, rfl, hb, hx0, hx1, hx2⟩ := hcell k k1
      have hr0 : wr.cell? ⟨b, off + k * 3, none⟩ = some (.int .i64 kd) := by rw [hbel.cell (p := ⟨b, _, none⟩) hb]; exact hx0
      have hr1 : wr.cell? ⟨b, off + k * 3 + 1, none⟩ = some (.int .i64 ly) := by rw [hbel.cell (p := ⟨b, _, none⟩) hb]; exact hx1
      have hr2 : wr.cell? ⟨b, off + k * 3 + 2, none⟩ = some (.bool on) := by rw [hbel.cell (p := ⟨b, _, none⟩) hb]; exact hx2
      have hbo : Old b wr := ⟨Nat.lt_of_lt_of_le hb hbel.size⟩
      have hkk : ((k : Int)) < 200 := by omega
      clear hlen hcell hx0 hx1 hx2
      by_cases q1 : kd = 1
      · subst q1
        cases on
        all_goals have hs1 : shutC false c = c := rfl
        all_goals have hs2 : shutC true c = -1 := rfl
        all_goals go_wp2_with (go_at_call 36; refine (pauseG _ _ _ _ _ _).mono ?_; rintro e w1 ⟨rfl, hb1⟩; have ha1 : After _ w1 := ⟨hb1⟩; obtain ⟨hc1, hf1⟩ := after hb1; have hz1 := hb1.size; try simp at hz1)
        all_goals go_roundw
        all_goals try (case measure => simp [intOf]; omega)
        · refine ⟨k + 1, a, c, L, false, m, by omega, by go_num, rfl, HCL.out, ?_, ?_, ?_, ?_⟩
          all_goals first | (show RowKit.Below _ _ _; (repeat (first | with_reducible exact Below.refl _ _ | (with_reducible refine Below.alloc ?_ ?_ _; rotate_left; focus ((try simp) <;> omega)) | (with_reducible refine Below.setCell ?_ ?_ _; rotate_left; focus ((try simp) <;> omega)) | (with_reducible refine below_grow ?_ ?_; rotate_left; focus ((try simp) <;> omega)) | (with_reducible refine below_putB ?_ ?_; rotate_left; focus ((try simp) <;> omega)) | with_reducible refine Below.drew ?_ | with_reducible refine below_drewN ?_ | with_reducible assumption | (with_reducible refine below_step (by assumption) ?_ ?_; rotate_left; focus ((try simp) <;> omega)))); done) | (simp [*, go_sem]; done) | omega | (simp; omega) | (simp [*, go_sem, World.cell?_setCell_far]; done)
        · refine ⟨k + 1, a, -1, -2, true, m, by omega, by go_num, rfl, by omega, ?_, ?_, ?_, ?_⟩
          all_goals first | (show RowKit.Below _ _ _; (repeat (first | with_reducible exact Below.refl _ _ | (with_reducible refine Below.alloc ?_ ?_ _; rotate_left; focus ((try simp) <;> omega)) | (with_reducible refine Below.setCell ?_ ?_ _; rotate_left; focus ((try simp) <;> omega)) | (with_reducible refine below_grow ?_ ?_; rotate_left; focus ((try simp) <;> omega)) | (with_reducible refine below_putB ?_ ?_; rotate_left; focus ((try simp) <;> omega)) | with_reducible refine Below.drew ?_ | with_reducible refine below_drewN ?_ | with_reducible assumption | (with_reducible refine below_step (by assumption) ?_ ?_; rotate_left; focus ((try simp) <;> omega)))); done) | (simp [*, go_sem]; done) | omega | (simp; omega) | (simp [*, go_sem, World.cell?_setCell_far]; done)
      · by_cases q2 : kd = 2
        · subst q2
          clear q1
          cases on
          all_goals have hs1 : shutC false c = c := rfl
          all_goals have hs2 : shutC true c = -1 := rfl
          all_goals go_wp2_with (go_at_call 37; refine (muteG _ _ _ _ _ _).mono ?_; rintro e w1 ⟨rfl, hb1⟩; have ha1 : After _ w1 := ⟨hb1⟩; obtain ⟨hc1, hf1⟩ := after hb1; have hz1 := hb1.size; try simp at hz1)
          all_goals go_roundw
          all_goals try (case measure => simp [intOf]; omega)
          · refine ⟨k + 1, a, c, L, p, false, by omega, by go_num, rfl, HCL.out, ?_, ?_, ?_, ?_⟩
            all_goals first | (show RowKit.Below _ _ _; (repeat (first | with_reducible exact Below.refl _ _ | (with_reducible refine Below.alloc ?_ ?_ _; rotate_left; focus ((try simp) <;> omega)) | (with_reducible refine Below.setCell ?_ ?_ _; rotate_left; focus ((try simp) <;> omega)) | (with_reducible refine below_grow ?_ ?_; rotate_left; focus ((try simp) <;> omega)) | (with_reducible refine below_putB ?_ ?_; rotate_left; focus ((try simp) <;> omega)) | with_reducible refine Below.drew ?_ | with_reducible refine below_drewN ?_ | with_reducible assumption | (with_reducible refine below_step (by assumption) ?_ ?_; rotate_left; focus ((try simp) <;> omega)))); done) | (simp [*, go_sem]; done) | omega | (simp; omega) | (simp [*, go_sem, World.cell?_setCell_far]; done)
          · refine ⟨k + 1, a, -1, -2, p, true, by omega, by go_num, rfl, by omega, ?_, ?_, ?_, ?_⟩
            all_goals first | (show RowKit.Below _ _ _; (repeat (first | with_reducible exact Below.refl _ _ | (with_reducible refine Below.alloc ?_ ?_ _; rotate_left; focus ((try simp) <;> omega)) | (with_reducible refine Below.setCell ?_ ?_ _; rotate_left; focus ((try simp) <;> omega)) | (with_reducible refine below_grow ?_ ?_; rotate_left; focus ((try simp) <;> omega)) | (with_reducible refine below_putB ?_ ?_; rotate_left; focus ((try simp) <;> omega)) | with_reducible refine Below.drew ?_ | with_reducible refine below_drewN ?_ | with_reducible assumption | (with_reducible refine below_step (by assumption) ?_ ?_; rotate_left; focus ((try simp) <;> omega)))); done) | (simp [*, go_sem]; done) | omega | (simp; omega) | (simp [*, go_sem, World.cell?_setCell_far]; done)
        · by_cases q3 : kd = 3
          · subst q3
            clear q1 q2
            go_wp2_with (go_at_call 38; refine (wantG _ _ _ _ _ _).mono ?_; rintro e w1 ⟨rfl, hb1⟩; have ha1 : After _ w1 := ⟨hb1⟩; obtain ⟨hc1, hf1⟩ := after hb1; have hz1 := hb1.size; try simp at hz1)
            go_roundw
            case measure => simp [intOf]; omega
            case rel =>
              refine ⟨k + 1, heldV ly, c, L, p, m, by omega, by go_num, rfl, HCL.out, ?_, ?_, ?_, ?_⟩
              all_goals first | (show RowKit.Below _ _ _; (repeat (first | with_reducible exact Below.refl _ _ | (with_reducible refine Below.alloc ?_ ?_ _; rotate_left; focus ((try simp) <;> omega)) | (with_reducible refine Below.setCell ?_ ?_ _; rotate_left; focus ((try simp) <;> omega)) | (with_reducible refine below_grow ?_ ?_; rotate_left; focus ((try simp) <;> omega)) | (with_reducible refine below_putB ?_ ?_; rotate_left; focus ((try simp) <;> omega)) | with_reducible refine Below.drew ?_ | with_reducible refine below_drewN ?_ | with_reducible assumption | (with_reducible refine below_step (by assumption) ?_ ?_; rotate_left; focus ((try simp) <;> omega)))); done) | (simp [*, go_sem]; done) | omega | (simp; omega) | (simp [*, go_sem, World.cell?_setCell_far]; done)
          · have r1 : (kd == 1) = false := by simpa using q1
            have r2 : (kd == 2) = false := by simpa using q2
            have r3 : (kd == 3) = false := by simpa using q3
            by_cases hneg : ly < 0
            · go_wp2
              go_roundw
              case measure => simp [intOf]; omega
              case rel =>
                refine ⟨k + 1, a, c, L, p, m, by omega, by go_num, rfl, HCL.out, ?_, ?_, ?_, ?_⟩
                all_goals first | (show RowKit.Below _ _ _; (repeat (first | with_reducible exact Below.refl _ _ | (with_reducible refine Below.alloc ?_ ?_ _; rotate_left; focus ((try simp) <;> omega)) | (with_reducible refine Below.setCell ?_ ?_ _; rotate_left; focus ((try simp) <;> omega)) | (with_reducible refine below_grow ?_ ?_; rotate_left; focus ((try simp) <;> omega)) | (with_reducible refine below_putB ?_ ?_; rotate_left; focus ((try simp) <;> omega)) | with_reducible refine Below.drew ?_ | with_reducible refine below_drewN ?_ | with_reducible assumption | (with_reducible refine below_step (by assumption) ?_ ?_; rotate_left; focus ((try simp) <;> omega)))); done) | (simp [*, go_sem]; done) | omega | (simp; omega) | (simp [*, go_sem, World.cell?_setCell_far]; done)
            · by_cases hq : (p || m) = true
              · obtain ⟨e1, e2⟩ := take_quiet a c ly p m on hq
                go_wp2_with (first | (go_at_call 34; refine (takeG _ _ _ _ _ _ _).mono ?_; rintro e w1 ⟨rfl, hb1⟩; have ha1 : After _ w1 := ⟨hb1⟩; obtain ⟨hc1, hf1⟩ := after hb1; have hz1 := hb1.size; try simp at hz1) | (go_at_call 39; refine (quietG _ _ _ _ _).mono ?_; rintro e w1 ⟨rfl, hb1⟩; have ha1 : After _ w1 := ⟨hb1⟩; obtain ⟨hc1, hf1⟩ := after hb1; have hz1 := hb1.size; try simp at hz1))
                go_roundw
                case measure => simp [intOf]; omega
                case rel =>
                  refine ⟨k + 1, a, c, L, p, m, by omega, by go_num, rfl, HCL.out, ?_, ?_, ?_, ?_⟩
                  all_goals first | (show RowKit.Below _ _ _; (repeat (first | with_reducible exact Below.refl _ _ | (with_reducible refine Below.alloc ?_ ?_ _; rotate_left; focus ((try simp) <;> omega)) | (with_reducible refine Below.setCell ?_ ?_ _; rotate_left; focus ((try simp) <;> omega)) | (with_reducible refine below_grow ?_ ?_; rotate_left; focus ((try simp) <;> omega)) | (with_reducible refine below_putB ?_ ?_; rotate_left; focus ((try simp) <;> omega)) | with_reducible refine Below.drew ?_ | with_reducible refine below_drewN ?_ | with_reducible assumption | (with_reducible refine below_step (by assumption) ?_ ?_; rotate_left; focus ((try simp) <;> omega)))); done) | (simp [*, go_sem]; done) | omega | (simp; omega) | (simp [*, go_sem, World.cell?_setCell_far]; done)
              · obtain ⟨rfl, rfl⟩ : p = false ∧ m = false := by cases p <;> cases m <;> simp_all
                clear hq
                by_cases hsw : ly = a ∧ c ≠ a ∧ on = true
                · obtain ⟨rfl, hca, rfl⟩ := hsw
                  obtain ⟨e1, e2⟩ := take_switch ly c hca
                  clear hca
                  go_wp2_with (first | (go_at_call 34; refine (takeG _ _ _ _ _ _ _).mono ?_; rintro e w1 ⟨rfl, hb1⟩; have ha1 : After _ w1 := ⟨hb1⟩; obtain ⟨hc1, hf1⟩ := after hb1; have hz1 := hb1.size; try simp at hz1) | (go_at_call 39; refine (quietG _ _ _ _ _).mono ?_; rintro e w1 ⟨rfl, hb1⟩; have ha1 : After _ w1 := ⟨hb1⟩; obtain ⟨hc1, hf1⟩ := after hb1; have hz1 := hb1.size; try simp at hz1))
                  go_roundw
                  case measure => simp [intOf]; omega
                  case rel =>
                    refine ⟨k + 1, ly, ly, ly, false, false, by omega, by go_num, rfl, by omega, ?_, ?_, ?_, ?_⟩
                    all_goals first | (show RowKit.Below _ _ _; (repeat (first | with_reducible exact Below.refl _ _ | (with_reducible refine Below.alloc ?_ ?_ _; rotate_left; focus ((try simp) <;> omega)) | (with_reducible refine Below.setCell ?_ ?_ _; rotate_left; focus ((try simp) <;> omega)) | (with_reducible refine below_grow ?_ ?_; rotate_left; focus ((try simp) <;> omega)) | (with_reducible refine below_putB ?_ ?_; rotate_left; focus ((try simp) <;> omega)) | with_reducible refine Below.drew ?_ | with_reducible refine below_drewN ?_ | with_reducible assumption | (with_reducible refine below_step (by assumption) ?_ ?_; rotate_left; focus ((try simp) <;> omega)))); done) | (simp [*, go_sem]; done) | omega | (simp; omega) | (simp [*, go_sem, World.cell?_setCell_far]; done)
                · by_cases hse : ly = c
                  · subst hse
                    obtain ⟨e1, e2⟩ := take_sent a ly on (by omega)
                    have hL : ly = L := HCL.out (by omega)
                    subst hL
                    clear hsw
                    go_wp2_with (first | (go_at_call 34; refine (takeG _ _ _ _ _ _ _).mono ?_; rintro e w1 ⟨rfl, hb1⟩; have ha1 : After _ w1 := ⟨hb1⟩; obtain ⟨hc1, hf1⟩ := after hb1; have hz1 := hb1.size; try simp at hz1) | (go_at_call 39; refine (quietG _ _ _ _ _).mono ?_; rintro e w1 ⟨rfl, hb1⟩; have ha1 : After _ w1 := ⟨hb1⟩; obtain ⟨hc1, hf1⟩ := after hb1; have hz1 := hb1.size; try simp at hz1))
                    go_roundw
                    case measure => simp [intOf]; omega
                    case rel =>
                      refine ⟨k + 1, a, ly, ly, false, false, by omega, by go_num, rfl, by omega, ?_, ?_, ?_, ?_⟩
                      all_goals first | (show RowKit.Below _ _ _; (repeat (first | with_reducible exact Below.refl _ _ | (with_reducible refine Below.alloc ?_ ?_ _; rotate_left; focus ((try simp) <;> omega)) | (with_reducible refine Below.setCell ?_ ?_ _; rotate_left; focus ((try simp) <;> omega)) | (with_reducible refine below_grow ?_ ?_; rotate_left; focus ((try simp) <;> omega)) | (with_reducible refine below_putB ?_ ?_; rotate_left; focus ((try simp) <;> omega)) | with_reducible refine Below.drew ?_ | with_reducible refine below_drewN ?_ | with_reducible assumption | (with_reducible refine below_step (by assumption) ?_ ?_; rotate_left; focus ((try simp) <;> omega)))); done) | (simp [*, go_sem]; done) | omega | (simp; omega) | (simp [*, go_sem, World.cell?_setCell_far]; done)
                  · obtain ⟨e1, e2⟩ := take_gated a c ly on hsw hse
                    clear hsw hse
                    go_wp2_with (first | (go_at_call 34; refine (takeG _ _ _ _ _ _ _).mono ?_; rintro e w1 ⟨rfl, hb1⟩; have ha1 : After _ w1 := ⟨hb1⟩; obtain ⟨hc1, hf1⟩ := after hb1; have hz1 := hb1.size; try simp at hz1) | (go_at_call 39; refine (quietG _ _ _ _ _).mono ?_; rintro e w1 ⟨rfl, hb1⟩; have ha1 : After _ w1 := ⟨hb1⟩; obtain ⟨hc1, hf1⟩ := after hb1; have hz1 := hb1.size; try simp at hz1))
                    go_roundw
                    case measure => simp [intOf]; omega
                    case rel =>
                      refine ⟨k + 1, a, c, L, false, false, by omega, by go_num, rfl, HCL.out, ?_, ?_, ?_, ?_⟩
                      all_goals first | (show RowKit.Below _ _ _; (repeat (first | with_reducible exact Below.refl _ _ | (with_reducible refine Below.alloc ?_ ?_ _; rotate_left; focus ((try simp) <;> omega)) | (with_reducible refine Below.setCell ?_ ?_ _; rotate_left; focus ((try simp) <;> omega)) | (with_reducible refine below_grow ?_ ?_; rotate_left; focus ((try simp) <;> omega)) | (with_reducible refine below_putB ?_ ?_; rotate_left; focus ((try simp) <;> omega)) | with_reducible refine Below.drew ?_ | with_reducible refine below_drewN ?_ | with_reducible assumption | (with_reducible refine below_step (by assumption) ?_ ?_; rotate_left; focus ((try simp) <;> omega)))); done) | (simp [*, go_sem]; done) | omega | (simp; omega) | (simp [*, go_sem, World.cell?_setCell_far]; done)
    · clear hcell
      by_cases hkl : k < len
      · have hk1 : (200 : Int) ≤ (k : Int) := by omega
        go_wp2
        refine ret_any ⟨_, by simp [results, Try.results12, go_sem, *]; rfl, ?_⟩ rfl
        exact gives_of rfl hbel
      · go_wp2
        refine ret_any ⟨_, by simp [results, Try.results12, go_sem, *]; rfl, ?_⟩ rfl
        exact gives_of rfl hbel
end Go.Proofs.Ytplhgpeeekjfcaa
