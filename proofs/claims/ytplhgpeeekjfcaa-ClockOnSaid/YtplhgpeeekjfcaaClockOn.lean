/-
  The law ClockOn as a walk: behind a start the first time is the last one and a step. No condition but that the arguments fit their types.
-/
import Derived.Test.YtplhgpeeekjfcaaClock
namespace Go.Proofs.Ytplhgpeeekjfcaa
open Go.RowKit Go.Sort Go.BigFrame
set_option linter.unusedVariables false
attribute [local go_sem ↓] Go.wp_at_zero Go.wp_at_succ
set_option maxHeartbeats 3200000 in
theorem clockOn_ok (v0 v1 : Value) (w : World) (h0 : Arg Try.prog w 24 v0) (h1 : Arg Try.prog w 31 v1) : Calls Try.prog 5 #[v0, v1] w (Gives (.bool true) w) := by
  obtain ⟨y, o, l, rfl, ho, ho', hl, hl'⟩ := arg_clock h0
  obtain ⟨a, len, cap, he, hlen, hcell⟩ := fit_row32 rfl (arg_slice Try.underlying31 h1)
  simp only [List.cons.injEq, and_true] at he
  subst he
  clear h0 h1
  unfold maxLen at hlen
  go_enter Try.func5, Try.ntmps5
  go_wp2_with (first | (go_at_call 19; refine (shown15 _).mono ?_; rintro e w1 ⟨rfl, hb1⟩; have ha1 : After _ w1 := ⟨hb1⟩; obtain ⟨hc1, hf1⟩ := after hb1; have hz1 := hb1.size; try simp at hz1))
  go_loopw [5, 6, 7] (fun s5 s6 i wr => ∃ (k : Nat) (y : Bool) (o l : Int), k ≤ len ∧ i = .int .i64 k ∧ s5 = .int .u32 l ∧ s6 = .bool y ∧ 0 ≤ o ∧ o ≤ 4294967295 ∧ 0 ≤ l ∧ l ≤ 4294967295 ∧ (wr.cell? ⟨w.heap.size, 0, none⟩ = some (.bool y) ∧ wr.cell? ⟨w.heap.size, 1, none⟩ = some (.int .u32 o) ∧ wr.cell? ⟨w.heap.size, 2, none⟩ = some (.int .u32 l)) ∧ (wr.frozen? ⟨w.heap.size, 0, none⟩ = false ∧ wr.frozen? ⟨w.heap.size, 1, none⟩ = false ∧ wr.frozen? ⟨w.heap.size, 2, none⟩ = false) ∧ Below w.heap.size w wr ∧ w.heap.size < wr.heap.size) (fun _ _ i _ => len - (intOf i).toNat)
  case atStart =>
    refine ⟨0, y, o, l, by omega, rfl, rfl, rfl, ho, ho', hl, hl', ?_, ?_, (by repeat (first | with_reducible exact Below.refl _ _ | (with_reducible refine Below.alloc ?_ ?_ _; rotate_left; focus ((try simp) <;> omega)) | (with_reducible refine Below.setCell ?_ ?_ _; rotate_left; focus ((try simp) <;> omega)) | (with_reducible refine below_grow ?_ ?_; rotate_left; focus ((try simp) <;> omega)) | with_reducible refine Below.drew ?_ | with_reducible refine below_drewN ?_ | with_reducible assumption | (with_reducible refine below_step (by assumption) ?_ ?_; rotate_left; focus ((try simp) <;> omega)))), ?_⟩
    · simp [*, go_sem]
    · simp [*, go_sem]
    · (try simp at hz1); omega
  case round =>
    obtain ⟨k, y, o, l, hk, rfl, rfl, rfl, ho, ho', hl, hl', ⟨c0, c1, c2⟩, ⟨f0, f1, f2⟩, hbel, hsz⟩ := hrel
    have hold : Old w.heap.size wr := ⟨hsz⟩
    by_cases hlt : k < len ∧ k < 100
    · obtain ⟨h1, h2⟩ := hlt
      obtain ⟨b, off, x, rfl, hb, hx, hx0, hx1⟩ := hcell k h1
      have hxr : wr.cell? ⟨b, off + k, none⟩ = some (.int .u32 x) := by rw [hbel.cell (p := ⟨b, _, none⟩) hb]; exact hx
      have hbo : Old b wr := ⟨Nat.lt_of_lt_of_le hb hbel.size⟩
      have hkk : ((k : Int)) < 100 := by omega
      clear hlen hcell
      cases y
      all_goals
        go_upto_region 8 with fail
      · go_cut [8, 9] (fun s8 s9 wx => ∃ g o2 v, s8 = .pointer (some ⟨g, 0, none⟩) ∧ s9 = .int .u32 v ∧ v = 0 ∧ 0 ≤ o2 ∧ o2 ≤ 4294967295 ∧ (wx.cell? ⟨g, 0, none⟩ = some (.bool true) ∧ wx.cell? ⟨g, 1, none⟩ = some (.int .u32 o2) ∧ wx.cell? ⟨g, 2, none⟩ = some (.int .u32 v)) ∧ (wx.cell? ⟨w.heap.size, 0, none⟩ = some (.bool false) ∧ wx.cell? ⟨w.heap.size, 1, none⟩ = some (.int .u32 o) ∧ wx.cell? ⟨w.heap.size, 2, none⟩ = some (.int .u32 l)) ∧ (wx.frozen? ⟨w.heap.size, 0, none⟩ = false ∧ wx.frozen? ⟨w.heap.size, 1, none⟩ = false ∧ wx.frozen? ⟨w.heap.size, 2, none⟩ = false) ∧ Below w.heap.size w wx ∧ w.heap.size < wx.heap.size)
        case first =>
          go_region_held3 (fun w' => w'.cell? ⟨w.heap.size, 0, none⟩ = some (.bool false) ∧ w'.cell? ⟨w.heap.size, 1, none⟩ = some (.int .u32 o) ∧ w'.cell? ⟨w.heap.size, 2, none⟩ = some (.int .u32 l) ∧ w'.cell? ⟨b, off + k, none⟩ = some (.int .u32 x)) (first | (simp [*, go_sem]; done) | simp [*, go_sem, World.cell?_setCell_far])
            (first | (go_at_call 22; refine (clockStart _ _ _ _ _).mono ?_; rintro e w1 ⟨rfl, hb1⟩; have ha1 : After _ w1 := ⟨hb1⟩; obtain ⟨hc1, hf1⟩ := after hb1; have hz1 := hb1.size; try simp at hz1) | (go_at_call 20; refine (clockStep _ _ _ _ _).mono ?_; rintro e w1 ⟨rfl, hb1⟩; have ha1 : After _ w1 := ⟨hb1⟩; obtain ⟨hc1, hf1⟩ := after hb1; have hz1 := hb1.size; try simp at hz1))
          all_goals (go_wp2_with fail; go_meet)
          all_goals refine ⟨_, -x % 4294967296, _, rfl, rfl, ?_, ?_, ?_, ?_, ?_, ?_, ?_, ?_⟩
          all_goals first | (show RowKit.Below _ _ _; (repeat (first | with_reducible exact Below.refl _ _ | (with_reducible refine Below.alloc ?_ ?_ _; rotate_left; focus ((try simp) <;> omega)) | (with_reducible refine Below.setCell ?_ ?_ _; rotate_left; focus ((try simp) <;> omega)) | (with_reducible refine below_grow ?_ ?_; rotate_left; focus ((try simp) <;> omega)) | with_reducible refine Below.drew ?_ | with_reducible refine below_drewN ?_ | with_reducible assumption | (with_reducible refine below_step (by assumption) ?_ ?_; rotate_left; focus ((try simp) <;> omega)))); done) | (simp [*, go_sem]; done) | omega | (simp; omega) | (simp [*, go_sem, World.cell?_setCell_far]; done)
        case rest =>
          obtain ⟨g, o2, v, rfl, rfl, rfl, hv0, hv1, ⟨g0, g1, g2⟩, ⟨d0, d1, d2⟩, ⟨e0, e1, e2⟩, hbel2, hsz2⟩ := hcut
          clear c0 c1 c2 f0 f1 f2 hxr
          go_wp2
          go_roundw
          case rel =>
            refine ⟨k + 1, true, o2, 0, by omega, by go_num, rfl, rfl, hv0, hv1, by omega, by omega, ?_, ?_, ?_, ?_⟩
            all_goals first | (show RowKit.Below _ _ _; (repeat (first | with_reducible exact Below.refl _ _ | (with_reducible refine Below.alloc ?_ ?_ _; rotate_left; focus ((try simp) <;> omega)) | (with_reducible refine Below.setCell ?_ ?_ _; rotate_left; focus ((try simp) <;> omega)) | (with_reducible refine below_grow ?_ ?_; rotate_left; focus ((try simp) <;> omega)) | with_reducible refine Below.drew ?_ | with_reducible refine below_drewN ?_ | with_reducible assumption | (with_reducible refine below_step (by assumption) ?_ ?_; rotate_left; focus ((try simp) <;> omega)))); done) | (simp [*, go_sem]; done) | omega | (simp; omega) | (simp [*, go_sem, World.cell?_setCell_far]; done)
          case measure => simp [intOf]; omega
      · go_cut [8, 9] (fun s8 s9 wx => ∃ g o2 v, s8 = .pointer (some ⟨g, 0, none⟩) ∧ s9 = .int .u32 v ∧ v = (l + 3000) % 4294967296 ∧ 0 ≤ o2 ∧ o2 ≤ 4294967295 ∧ (wx.cell? ⟨g, 0, none⟩ = some (.bool true) ∧ wx.cell? ⟨g, 1, none⟩ = some (.int .u32 o2) ∧ wx.cell? ⟨g, 2, none⟩ = some (.int .u32 v)) ∧ (wx.cell? ⟨w.heap.size, 0, none⟩ = some (.bool true) ∧ wx.cell? ⟨w.heap.size, 1, none⟩ = some (.int .u32 o) ∧ wx.cell? ⟨w.heap.size, 2, none⟩ = some (.int .u32 l)) ∧ (wx.frozen? ⟨w.heap.size, 0, none⟩ = false ∧ wx.frozen? ⟨w.heap.size, 1, none⟩ = false ∧ wx.frozen? ⟨w.heap.size, 2, none⟩ = false) ∧ Below w.heap.size w wx ∧ w.heap.size < wx.heap.size)
        case first =>
          go_region_held3 (fun w' => w'.cell? ⟨w.heap.size, 0, none⟩ = some (.bool true) ∧ w'.cell? ⟨w.heap.size, 1, none⟩ = some (.int .u32 o) ∧ w'.cell? ⟨w.heap.size, 2, none⟩ = some (.int .u32 l) ∧ w'.cell? ⟨b, off + k, none⟩ = some (.int .u32 x)) (first | (simp [*, go_sem]; done) | simp [*, go_sem, World.cell?_setCell_far])
            (first | (go_at_call 22; refine (clockStart _ _ _ _ _).mono ?_; rintro e w1 ⟨rfl, hb1⟩; have ha1 : After _ w1 := ⟨hb1⟩; obtain ⟨hc1, hf1⟩ := after hb1; have hz1 := hb1.size; try simp at hz1) | (go_at_call 20; refine (clockStep _ _ _ _ _).mono ?_; rintro e w1 ⟨rfl, hb1⟩; have ha1 : After _ w1 := ⟨hb1⟩; obtain ⟨hc1, hf1⟩ := after hb1; have hz1 := hb1.size; try simp at hz1))
          all_goals (go_wp2_with fail; go_meet)
          all_goals refine ⟨_, (l + 3000 - x) % 4294967296, _, rfl, rfl, ?_, ?_, ?_, ?_, ?_, ?_, ?_, ?_⟩
          all_goals first | (show RowKit.Below _ _ _; (repeat (first | with_reducible exact Below.refl _ _ | (with_reducible refine Below.alloc ?_ ?_ _; rotate_left; focus ((try simp) <;> omega)) | (with_reducible refine Below.setCell ?_ ?_ _; rotate_left; focus ((try simp) <;> omega)) | (with_reducible refine below_grow ?_ ?_; rotate_left; focus ((try simp) <;> omega)) | with_reducible refine Below.drew ?_ | with_reducible refine below_drewN ?_ | with_reducible assumption | (with_reducible refine below_step (by assumption) ?_ ?_; rotate_left; focus ((try simp) <;> omega)))); done) | (simp [*, go_sem]; done) | omega | (simp; omega) | (simp [*, go_sem, World.cell?_setCell_far]; done)
        case rest =>
          obtain ⟨g, o2, v, rfl, rfl, rfl, hv0, hv1, ⟨g0, g1, g2⟩, ⟨d0, d1, d2⟩, ⟨e0, e1, e2⟩, hbel2, hsz2⟩ := hcut
          clear c0 c1 c2 f0 f1 f2 hxr
          go_wp2
          go_roundw
          case rel =>
            refine ⟨k + 1, true, o2, (l + 3000) % 4294967296, by omega, by go_num, rfl, rfl, hv0, hv1, by omega, by omega, ?_, ?_, ?_, ?_⟩
            all_goals first | (show RowKit.Below _ _ _; (repeat (first | with_reducible exact Below.refl _ _ | (with_reducible refine Below.alloc ?_ ?_ _; rotate_left; focus ((try simp) <;> omega)) | (with_reducible refine Below.setCell ?_ ?_ _; rotate_left; focus ((try simp) <;> omega)) | (with_reducible refine below_grow ?_ ?_; rotate_left; focus ((try simp) <;> omega)) | with_reducible refine Below.drew ?_ | with_reducible refine below_drewN ?_ | with_reducible assumption | (with_reducible refine below_step (by assumption) ?_ ?_; rotate_left; focus ((try simp) <;> omega)))); done) | (simp [*, go_sem]; done) | omega | (simp; omega) | (simp [*, go_sem, World.cell?_setCell_far]; done)
          case measure => simp [intOf]; omega
    · clear hcell
      by_cases hkl : k < len
      · have hk1 : (100 : Int) ≤ (k : Int) := by omega
        go_wp2
        refine ret_any ⟨_, by simp [results, Try.results5, go_sem, *]; rfl, ?_⟩ rfl
        exact gives_of rfl hbel
      · go_wp2
        refine ret_any ⟨_, by simp [results, Try.results5, go_sem, *]; rfl, ?_⟩ rfl
        exact gives_of rfl hbel
end Go.Proofs.Ytplhgpeeekjfcaa
