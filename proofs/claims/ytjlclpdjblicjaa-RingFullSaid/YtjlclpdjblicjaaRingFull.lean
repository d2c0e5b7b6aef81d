/-
  The law RingFull as a walk. No condition but that the arguments fit their types.
-/
import Derived.Test.YtjlclpdjblicjaaRingNone
import Derived.Test.YtjlclpdjblicjaaRingAll
namespace Go.Proofs.Ytjlclpdjblicjaa
open Go.RowKit Go.Sort Go.BigFrame
set_option linter.unusedVariables false
attribute [local go_sem ↓] Go.wp_at_zero Go.wp_at_succ
theorem own_slice {w : World} {B e size n : Nat} {v : Value} {xs : List Value} (h : w.ownsRow B e size v n xs) : ∃ ao cap, v = .slice ao n cap := by
  rcases h.2 with ⟨h1, h2⟩ | ⟨g, cap, cur, hv, _⟩
  · subst h1 h2; exact ⟨none, 0, rfl⟩
  · exact ⟨_, cap, hv⟩
set_option maxRecDepth 100000 in
set_option maxHeartbeats 4000000 in
theorem ringFull_ok (v0 v1 v2 : Value) (w : World) (h0 : Arg Try.prog w 3 v0) (h1 : Arg Try.prog w 3 v1) (h2 : Arg Try.prog w 32 v2) : Calls Try.prog 5 #[v0, v1, v2] w (Gives (.bool true) w) := by
  obtain ⟨m, rfl, hm, hm'⟩ := arg_i64 Try.underlying3 h0
  obtain ⟨r, rfl, hr, hr'⟩ := arg_i64 Try.underlying3 h1
  obtain ⟨x, y, z, u, rfl, _⟩ := arg_cell h2
  clear h0 h1 h2
  by_cases r1 : r < 1
  · go_enter Try.func5, Try.ntmps5
    go_wp2_with (first | (go_at_call 15; refine (shown13 _).mono ?_; rintro e w1 ⟨rfl, hb1⟩; have ha1 : After _ w1 := ⟨hb1⟩; obtain ⟨hc1, hf1⟩ := after hb1; have hz1 := hb1.size; try simp at hz1))
    refine ret_any ⟨_, by simp [results, Try.results5, go_sem, *]; rfl, ?_⟩ rfl
    exact gives_of rfl (by repeat (first | with_reducible exact Below.refl _ _ | (with_reducible refine Below.alloc ?_ ?_ _; rotate_left; focus ((try simp) <;> omega)) | (with_reducible refine Below.setCell ?_ ?_ _; rotate_left; focus ((try simp) <;> omega)) | (with_reducible refine below_grow ?_ ?_; rotate_left; focus ((try simp) <;> omega)) | with_reducible refine Below.drew ?_ | with_reducible refine below_drewN ?_ | with_reducible assumption | (with_reducible refine below_step (by assumption) ?_ ?_; rotate_left; focus ((try simp) <;> omega))))
  by_cases r2 : 4 < r
  · go_enter Try.func5, Try.ntmps5
    go_wp2_with (first | (go_at_call 15; refine (shown13 _).mono ?_; rintro e w1 ⟨rfl, hb1⟩; have ha1 : After _ w1 := ⟨hb1⟩; obtain ⟨hc1, hf1⟩ := after hb1; have hz1 := hb1.size; try simp at hz1))
    refine ret_any ⟨_, by simp [results, Try.results5, go_sem, *]; rfl, ?_⟩ rfl
    exact gives_of rfl (by repeat (first | with_reducible exact Below.refl _ _ | (with_reducible refine Below.alloc ?_ ?_ _; rotate_left; focus ((try simp) <;> omega)) | (with_reducible refine Below.setCell ?_ ?_ _; rotate_left; focus ((try simp) <;> omega)) | (with_reducible refine below_grow ?_ ?_; rotate_left; focus ((try simp) <;> omega)) | with_reducible refine Below.drew ?_ | with_reducible refine below_drewN ?_ | with_reducible assumption | (with_reducible refine below_step (by assumption) ?_ ?_; rotate_left; focus ((try simp) <;> omega))))
  obtain ⟨c, hc⟩ : ∃ c : Nat, c = (max 1 (min m 256)).toNat := ⟨_, rfl⟩
  have hcm : (m ≤ 1 ∧ c = 1) ∨ (256 < m ∧ c = 256) ∨ (1 < m ∧ m ≤ 256 ∧ m = c) := by omega
  have c0 : 0 < c := by omega
  have c1 : c ≤ 256 := by omega
  have hmin : min (max m 1) 256 = (c : Int) := by omega
  have HMIN := Lib.hid hmin
  have HCM := Lib.hid hcm
  clear hc hmin hcm
  go_enter Try.func5, Try.ntmps5
  go_wp2_with (first | (go_at_call 15; refine (shown13 _).mono ?_; rintro e w1 ⟨rfl, hb1⟩; have ha1 : After _ w1 := ⟨hb1⟩; obtain ⟨hc1, hf1⟩ := after hb1; have hz1 := hb1.size; try simp at hz1))
  obtain ⟨W, hW⟩ : ∃ W : World, W = w1 := ⟨_, rfl⟩
  subst hW
  have k0 : W.cell? ⟨w.heap.size, 0, none⟩ = some (.int .i64 x) := by simp [*, go_sem]
  have k1 : W.cell? ⟨w.heap.size, 1, none⟩ = some (.int .i64 y) := by simp [*, go_sem]
  have k2 : W.cell? ⟨w.heap.size, 2, none⟩ = some (.int .i64 z) := by simp [*, go_sem]
  have k3 : W.cell? ⟨w.heap.size, 3, none⟩ = some (.int .u32 u) := by simp [*, go_sem]
  have hWb : RowKit.Below w.heap.size w W := (by repeat (first | with_reducible exact Below.refl _ _ | (with_reducible refine Below.alloc ?_ ?_ _; rotate_left; focus ((try simp) <;> omega)) | (with_reducible refine Below.setCell ?_ ?_ _; rotate_left; focus ((try simp) <;> omega)) | (with_reducible refine below_grow ?_ ?_; rotate_left; focus ((try simp) <;> omega)) | with_reducible refine Below.drew ?_ | with_reducible refine below_drewN ?_ | with_reducible assumption | (with_reducible refine below_step (by assumption) ?_ ?_; rotate_left; focus ((try simp) <;> omega))))
  clear hc1 hf1 ha1 hb1
  refine (newMid c _ m hm hm' c0 c1 HCM.out).mono ?_; rintro e ws ⟨b, rfl, hlb, H1, A1, B1⟩
  obtain ⟨g, hg⟩ : ∃ g, g = W.heap.size := ⟨_, rfl⟩
  have hlg : W.heap.size ≤ g := Nat.le_of_eq hg.symm
  rw [← hg] at H1 A1
  clear hg
  go_upto_region 6 with fail
  go_cut [8] (fun s8 wx => s8 = .int .i64 c ∧ wx = ws)
  case first =>
    have hcm := HCM.out
    rcases hcm with ⟨hcm, rfl⟩ | ⟨hcm, rfl⟩ | ⟨hcm, hcm', rfl⟩
    all_goals go_wp2_with fail
    all_goals go_meet
    all_goals exact ⟨by first | (simp; done) | (simp; omega), rfl⟩
  obtain ⟨rfl, rfl⟩ := hcut
  go_wp2
  go_loopw [9] (fun s9 wr => ∃ (k f : Nat) (A : Nat → Int × Int × Int × Int), (k : Int) ≤ r ∧ s9 = .int .i64 k ∧ RingH wr b g c f 0 ∧ RingA wr g c A ∧ RowKit.Below W.heap.size W wr) (fun i _ => (r - intOf i).toNat)
  case atStart => exact ⟨0, 0, _, by omega, rfl, H1, A1, B1⟩
  case round =>
    obtain ⟨k, f, A, hk, rfl, H, HA, hbel⟩ := hrel
    clear H1 A1 B1
    obtain ⟨wo, hwo⟩ : ∃ wo : World, wo = wr := ⟨_, rfl⟩
    subst hwo
    have hww : RowKit.Below w.heap.size w wo := hWb.trans (hbel.mono (by omega))
    have hws := hww.size
    have hbs := hbel.size
    by_cases hlt : (k : Int) < r
    · go_wp2
      go_loopw [10] (fun s10 wr => ∃ (i : Nat) (A : Nat → Int × Int × Int × Int), i ≤ c ∧ s10 = .int .i64 i ∧ RingH wr b g c f i ∧ RingA wr g c A ∧ (∀ j, j < i → A ((f + j) % c) = (x, y, z, u)) ∧ RowKit.Below W.heap.size W wr) (fun i _ => c - (intOf i).toNat)
      case atStart => exact ⟨0, A, by omega, rfl, H, HA, fun j hj => absurd hj (by omega), hbel⟩
      case round =>
        clear H HA hbel hww hws hbs A
        obtain ⟨i, A, hi, rfl, H, HA, hall, hbel⟩ := hrel
        have hbs := hbel.size
        have e0 : wr.cell? ⟨w.heap.size, 0, none⟩ = some (.int .i64 x) := by rw [hbel.cell (by simp; omega)]; exact k0
        have e1 : wr.cell? ⟨w.heap.size, 1, none⟩ = some (.int .i64 y) := by rw [hbel.cell (by simp; omega)]; exact k1
        have e2 : wr.cell? ⟨w.heap.size, 2, none⟩ = some (.int .i64 z) := by rw [hbel.cell (by simp; omega)]; exact k2
        have e3 : wr.cell? ⟨w.heap.size, 3, none⟩ = some (.int .u32 u) := by rw [hbel.cell (by simp; omega)]; exact k3
        have ow : Old w.heap.size wr := ⟨by omega⟩
        by_cases hic : i < c
        · have key := fun (w' : World) (k : RowKit.Below wr.heap.size wr w') => pushR (x := x) (y := y) (z := z) (u := u) (H.keep k) (HA.keep H.lg k) hic
          go_wp2_with (first | (go_at_call 24; refine (roomR (H.keep (by repeat (first | with_reducible exact Below.refl _ _ | (with_reducible refine Below.alloc ?_ ?_ _; rotate_left; focus ((try simp) <;> omega)) | (with_reducible refine Below.setCell ?_ ?_ _; rotate_left; focus ((try simp) <;> omega)) | (with_reducible refine below_grow ?_ ?_; rotate_left; focus ((try simp) <;> omega)) | with_reducible refine Below.drew ?_ | with_reducible refine below_drewN ?_ | with_reducible assumption | (with_reducible refine below_step (by assumption) ?_ ?_; rotate_left; focus ((try simp) <;> omega)))))).mono ?_; rintro e w1 ⟨rfl, hb1⟩; have ha1 : After _ w1 := ⟨hb1⟩; obtain ⟨hc1, hf1⟩ := after hb1; have hz1 := hb1.size; try simp at hz1) | (go_at_call 20; refine (key _ (by repeat (first | with_reducible exact Below.refl _ _ | (with_reducible refine Below.alloc ?_ ?_ _; rotate_left; focus ((try simp) <;> omega)) | (with_reducible refine Below.setCell ?_ ?_ _; rotate_left; focus ((try simp) <;> omega)) | (with_reducible refine below_grow ?_ ?_; rotate_left; focus ((try simp) <;> omega)) | with_reducible refine Below.drew ?_ | with_reducible refine below_drewN ?_ | with_reducible assumption | (with_reducible refine below_step (by assumption) ?_ ?_; rotate_left; focus ((try simp) <;> omega))))).mono ?_; rintro e w3 ⟨rfl, hF, hH, hA⟩))
          go_roundw
          case rel =>
            refine ⟨i + 1, _, by omega, by go_num, hH, hA, fun j hj => ?_, hbel.trans ((hb1.mono hbs).trans (hF.below hlb hlg (by have := hb1.size; omega)))⟩
            by_cases hji : j = i
            · subst hji; simp
            · have hji' : j < i := by omega
              simp only [hall j hji']
              split <;> rfl
          case measure => simp [intOf]; omega
        · obtain rfl : i = c := by omega
          go_wp2_with (first | (go_at_call 20; refine (pushFull (H.keep (by repeat (first | with_reducible exact Below.refl _ _ | (with_reducible refine Below.alloc ?_ ?_ _; rotate_left; focus ((try simp) <;> omega)) | (with_reducible refine Below.setCell ?_ ?_ _; rotate_left; focus ((try simp) <;> omega)) | (with_reducible refine below_grow ?_ ?_; rotate_left; focus ((try simp) <;> omega)) | with_reducible refine Below.drew ?_ | with_reducible refine below_drewN ?_ | with_reducible assumption | (with_reducible refine below_step (by assumption) ?_ ?_; rotate_left; focus ((try simp) <;> omega))))) rfl).mono ?_; rintro e w1 ⟨rfl, hb1⟩; have ha1 : After _ w1 := ⟨hb1⟩; obtain ⟨hc1, hf1⟩ := after hb1; have hz1 := hb1.size; try simp at hz1) | (go_at_call 24; refine (roomR (H.keep (by repeat (first | with_reducible exact Below.refl _ _ | (with_reducible refine Below.alloc ?_ ?_ _; rotate_left; focus ((try simp) <;> omega)) | (with_reducible refine Below.setCell ?_ ?_ _; rotate_left; focus ((try simp) <;> omega)) | (with_reducible refine below_grow ?_ ?_; rotate_left; focus ((try simp) <;> omega)) | with_reducible refine Below.drew ?_ | with_reducible refine below_drewN ?_ | with_reducible assumption | (with_reducible refine below_step (by assumption) ?_ ?_; rotate_left; focus ((try simp) <;> omega)))))).mono ?_; rintro e w1 ⟨rfl, hb1⟩; have ha1 : After _ w1 := ⟨hb1⟩; obtain ⟨hc1, hf1⟩ := after hb1; have hz1 := hb1.size; try simp at hz1) | (go_at_call 23; refine (lenR (H.keep (by repeat (first | with_reducible exact Below.refl _ _ | (with_reducible refine Below.alloc ?_ ?_ _; rotate_left; focus ((try simp) <;> omega)) | (with_reducible refine Below.setCell ?_ ?_ _; rotate_left; focus ((try simp) <;> omega)) | (with_reducible refine below_grow ?_ ?_; rotate_left; focus ((try simp) <;> omega)) | with_reducible refine Below.drew ?_ | with_reducible refine below_drewN ?_ | with_reducible assumption | (with_reducible refine below_step (by assumption) ?_ ?_; rotate_left; focus ((try simp) <;> omega)))))).mono ?_; rintro e w' ⟨rfl, rfl⟩) | (go_at_call 26; refine (allR (H.keep (by repeat (first | with_reducible exact Below.refl _ _ | (with_reducible refine Below.alloc ?_ ?_ _; rotate_left; focus ((try simp) <;> omega)) | (with_reducible refine Below.setCell ?_ ?_ _; rotate_left; focus ((try simp) <;> omega)) | (with_reducible refine below_grow ?_ ?_; rotate_left; focus ((try simp) <;> omega)) | with_reducible refine Below.drew ?_ | with_reducible refine below_drewN ?_ | with_reducible assumption | (with_reducible refine below_step (by assumption) ?_ ?_; rotate_left; focus ((try simp) <;> omega))))) (HA.keep H.lg (by repeat (first | with_reducible exact Below.refl _ _ | (with_reducible refine Below.alloc ?_ ?_ _; rotate_left; focus ((try simp) <;> omega)) | (with_reducible refine Below.setCell ?_ ?_ _; rotate_left; focus ((try simp) <;> omega)) | (with_reducible refine below_grow ?_ ?_; rotate_left; focus ((try simp) <;> omega)) | with_reducible refine Below.drew ?_ | with_reducible refine below_drewN ?_ | with_reducible assumption | (with_reducible refine below_step (by assumption) ?_ ?_; rotate_left; focus ((try simp) <;> omega)))))).mono ?_; rintro e w4 ⟨v4, rfl, hown4, hb4⟩; obtain ⟨ao, cap, rfl⟩ := own_slice hown4; have hz4 := hb4.size))
          have B4 : RowKit.Below wr.heap.size wr w4 := (by repeat (first | with_reducible exact Below.refl _ _ | (with_reducible refine Below.alloc ?_ ?_ _; rotate_left; focus ((try simp) <;> omega)) | (with_reducible refine Below.setCell ?_ ?_ _; rotate_left; focus ((try simp) <;> omega)) | (with_reducible refine below_grow ?_ ?_; rotate_left; focus ((try simp) <;> omega)) | with_reducible refine Below.drew ?_ | with_reducible refine below_drewN ?_ | with_reducible assumption | (with_reducible refine below_step (by assumption) ?_ ?_; rotate_left; focus ((try simp) <;> omega))))
          go_loopw [11] (fun s11 wr => ∃ (j f : Nat), j ≤ i ∧ s11 = .int .i64 j ∧ RingH wr b g i f (i - j) ∧ RingA wr g i A ∧ (∀ q, q < i - j → A ((f + q) % i) = (x, y, z, u)) ∧ RowKit.Below W.heap.size W wr) (fun s _ => i - (intOf s).toNat)
          case atStart => exact ⟨0, f, by omega, rfl, H.keep B4, HA.keep H.lg B4, hall, hbel.trans (B4.mono hbs)⟩
          case round =>
            obtain ⟨wi, hwi⟩ : ∃ wi : World, wi = wr := ⟨_, rfl⟩
            obtain ⟨j, f', hj, rfl, H5, A5, hall5, hbel5⟩ := hrel
            have hbs5 := hbel5.size
            by_cases hji : j < i
            · have e0 := hbel5.cell (p := ⟨w.heap.size, 0, none⟩) (by simp; omega)
              have e1 := hbel5.cell (p := ⟨w.heap.size, 1, none⟩) (by simp; omega)
              have e2 := hbel5.cell (p := ⟨w.heap.size, 2, none⟩) (by simp; omega)
              have e3 := hbel5.cell (p := ⟨w.heap.size, 3, none⟩) (by simp; omega)
              rw [k0] at e0
              rw [k1] at e1
              rw [k2] at e2
              rw [k3] at e3
              have hA0 : cellV (A f') = .agg #[.int .i64 x, .int .i64 y, .int .i64 z, .int .u32 u] := by
                have := hall5 0 (by omega)
                rw [Nat.add_zero, Nat.mod_eq_of_lt H5.lf] at this
                rw [this]; rfl
              have key := popR H5 A5 (by omega)
              rw [hA0] at key
              have KEY := Lib.hid key
              have H5' := Lib.hid H5
              have A5' := Lib.hid hall5
              clear key hA0 H5 A5 hall5 H HA hall hbel hbs hb1 ha1 hc1 hf1 hz1 hown4 hb4 hz4 B4 hi hic hwi ow
              go_wp2_with (go_at_call 18; refine KEY.out.mono ?_; rintro e w3 ⟨rfl, hF, hH, hA⟩; have hbw := (hF.below hlb hlg hbs5); have d0 := hbw.cell (p := ⟨w.heap.size, 0, none⟩) (by simp; omega); have d1 := hbw.cell (p := ⟨w.heap.size, 1, none⟩) (by simp; omega); have d2 := hbw.cell (p := ⟨w.heap.size, 2, none⟩) (by simp; omega); have d3 := hbw.cell (p := ⟨w.heap.size, 3, none⟩) (by simp; omega); rw [e0] at d0; rw [e1] at d1; rw [e2] at d2; rw [e3] at d3; have hz3 := hF.size; have ow3 : Old w.heap.size w3 := ⟨by omega⟩)
              go_roundw
              case rel =>
                have hB : RowKit.Below w3.heap.size w3 (w3.alloc (Obj.cells #[.int .i64 x, .int .i64 y, .int .i64 z, .int .u32 u] 32)) := (by repeat (first | with_reducible exact Below.refl _ _ | (with_reducible refine Below.alloc ?_ ?_ _; rotate_left; focus ((try simp) <;> omega)) | (with_reducible refine Below.setCell ?_ ?_ _; rotate_left; focus ((try simp) <;> omega)) | (with_reducible refine below_grow ?_ ?_; rotate_left; focus ((try simp) <;> omega)) | with_reducible refine Below.drew ?_ | with_reducible refine below_drewN ?_ | with_reducible assumption | (with_reducible refine below_step (by assumption) ?_ ?_; rotate_left; focus ((try simp) <;> omega))))
                have e : i - j - 1 = i - (j + 1) := by omega
                rw [e] at hH
                refine ⟨j + 1, (f' + 1) % i, by omega, by go_num, hH.keep hB, hA.keep hH.lg hB, fun q hq => ?_, hbel5.trans (hbw.trans (hB.mono (by omega)))⟩
                have := A5'.out (q + 1) (by omega)
                rw [← this, Nat.mod_add_mod, show f' + 1 + q = f' + (q + 1) by omega]
              case measure => simp [intOf]; omega
            · obtain rfl : j = i := by omega
              rw [Nat.sub_self] at H5
              go_wp2
              go_roundw
              case rel => exact ⟨k + 1, f', A, by omega, by go_num, H5, A5, hbel5⟩
              case measure => simp [intOf]; omega
    · go_wp2_with (first | (go_at_call 18; refine (popEmpty (H.keep (by repeat (first | with_reducible exact Below.refl _ _ | (with_reducible refine Below.alloc ?_ ?_ _; rotate_left; focus ((try simp) <;> omega)) | (with_reducible refine Below.setCell ?_ ?_ _; rotate_left; focus ((try simp) <;> omega)) | (with_reducible refine below_grow ?_ ?_; rotate_left; focus ((try simp) <;> omega)) | with_reducible refine Below.drew ?_ | with_reducible refine below_drewN ?_ | with_reducible assumption | (with_reducible refine below_step (by assumption) ?_ ?_; rotate_left; focus ((try simp) <;> omega))))) rfl).mono ?_; rintro e w1 ⟨rfl, hb1⟩; have ha1 : After _ w1 := ⟨hb1⟩; obtain ⟨hc1, hf1⟩ := after hb1; have hz1 := hb1.size; try simp at hz1) | (go_at_call 23; refine (lenR (H.keep (by repeat (first | with_reducible exact Below.refl _ _ | (with_reducible refine Below.alloc ?_ ?_ _; rotate_left; focus ((try simp) <;> omega)) | (with_reducible refine Below.setCell ?_ ?_ _; rotate_left; focus ((try simp) <;> omega)) | (with_reducible refine below_grow ?_ ?_; rotate_left; focus ((try simp) <;> omega)) | with_reducible refine Below.drew ?_ | with_reducible refine below_drewN ?_ | with_reducible assumption | (with_reducible refine below_step (by assumption) ?_ ?_; rotate_left; focus ((try simp) <;> omega)))))).mono ?_; rintro e w' ⟨rfl, rfl⟩))
      refine ret_any ⟨_, by simp [results, Try.results5, go_sem, *]; rfl, ?_⟩ rfl
      exact gives_of rfl (by repeat (first | with_reducible exact Below.refl _ _ | (with_reducible refine Below.alloc ?_ ?_ _; rotate_left; focus ((try simp) <;> omega)) | (with_reducible refine Below.setCell ?_ ?_ _; rotate_left; focus ((try simp) <;> omega)) | (with_reducible refine below_grow ?_ ?_; rotate_left; focus ((try simp) <;> omega)) | with_reducible refine Below.drew ?_ | with_reducible refine below_drewN ?_ | with_reducible assumption | (with_reducible refine below_step (by assumption) ?_ ?_; rotate_left; focus ((try simp) <;> omega))))
end Go.Proofs.Ytjlclpdjblicjaa
