/-
  The law CourseRow as a walk: the offset goes down by as many numbers as are missing. No condition but that the arguments fit their types.
-/
import Derived.Test.YtplhgpeeekjfcaaCourse
namespace Go.Proofs.Ytplhgpeeekjfcaa
open Go.RowKit Go.Sort Go.BigFrame
set_option linter.unusedVariables false
attribute [local go_sem ↓] Go.wp_at_zero Go.wp_at_succ
set_option maxRecDepth 100000 in
set_option maxHeartbeats 1600000 in
theorem courseRow_ok (v0 v1 v2 : Value) (w : World) (h0 : Arg Try.prog w 36 v0) (h1 : Arg Try.prog w 34 v1) (h2 : Arg Try.prog w 42 v2) : Calls Try.prog 9 #[v0, v1, v2] w (Gives (.bool true) w) := by
  obtain ⟨y, i, o, n, rfl, hi, hi', ho, ho', hn, hn'⟩ := arg_course h0
  obtain ⟨f, rfl, hf, hf'⟩ := arg_u16 Try.underlying34 h1
  obtain ⟨a, len, cap, he, hlen, hcell⟩ := fit_row16 rfl (arg_slice Try.underlying42 h2)
  simp only [List.cons.injEq, and_true] at he
  subst he
  clear h0 h1 h2
  unfold maxLen at hlen
  go_enter Try.func9, Try.ntmps9
  go_wp2_with (first | (go_at_call 26; refine (shown14 _).mono ?_; rintro e w1 ⟨rfl, hb1⟩; have ha1 : After _ w1 := ⟨hb1⟩; obtain ⟨hc1, hf1⟩ := after hb1; have hz1 := hb1.size; try simp at hz1) | (go_at_call 29; refine (breakC _ _ _ _ _).mono ?_; rintro e w1 ⟨rfl, hb1⟩; have ha1 : After _ w1 := ⟨hb1⟩; obtain ⟨hc1, hf1⟩ := after hb1; have hz1 := hb1.size; try simp at hz1) | (go_at_call 27; refine (stepYes _ _ _ _ _ _ (by simp)).mono ?_; rintro e w1 ⟨rfl, hb1⟩; have ha1 : After _ w1 := ⟨hb1⟩; obtain ⟨hc1, hf1⟩ := after hb1; have hz1 := hb1.size; try simp at hz1))
  go_loopw [7] (fun s7 wr => ∃ (k : Nat) (x o n : Int), k ≤ len ∧ s7 = .int .i64 k ∧ 0 ≤ x ∧ x ≤ 65535 ∧ 0 ≤ n ∧ n ≤ 65535 ∧ o = (n - 1 - x) % 65536 ∧ (wr.cell? ⟨w.heap.size, 0, none⟩ = some (.bool true) ∧ wr.cell? ⟨w.heap.size, 1, none⟩ = some (.int .u16 x) ∧ wr.cell? ⟨w.heap.size, 2, none⟩ = some (.int .u16 o) ∧ wr.cell? ⟨w.heap.size, 3, none⟩ = some (.int .u16 n)) ∧ (wr.frozen? ⟨w.heap.size, 0, none⟩ = false ∧ wr.frozen? ⟨w.heap.size, 1, none⟩ = false ∧ wr.frozen? ⟨w.heap.size, 2, none⟩ = false ∧ wr.frozen? ⟨w.heap.size, 3, none⟩ = false) ∧ Below w.heap.size w wr ∧ w.heap.size < wr.heap.size) (fun i _ => len - (intOf i).toNat)
  case atStart =>
    refine ⟨0, f, (n - f) % 65536, (n + 1) % 65536, by omega, rfl, hf, hf', by omega, by omega, by omega, ?_, ?_, ?_, ?_⟩
    all_goals first | (show RowKit.Below _ _ _; (repeat (first | with_reducible exact Below.refl _ _ | (with_reducible refine Below.alloc ?_ ?_ _; rotate_left; focus ((try simp) <;> omega)) | (with_reducible refine Below.setCell ?_ ?_ _; rotate_left; focus ((try simp) <;> omega)) | (with_reducible refine below_grow ?_ ?_; rotate_left; focus ((try simp) <;> omega)) | with_reducible refine Below.drew ?_ | with_reducible refine below_drewN ?_ | with_reducible assumption | (with_reducible refine below_step (by assumption) ?_ ?_; rotate_left; focus ((try simp) <;> omega)))); done) | (simp [*, go_sem]; done) | omega | (simp; omega) | (simp [*, go_sem, World.cell?_setCell_far]; done)
  case round =>
    obtain ⟨k, x, o, n, hk, rfl, hx, hx', hn, hn', hoeq, ⟨c0, c1, c2, c3⟩, ⟨f0, f1, f2, f3⟩, hbel, hsz⟩ := hrel
    have hold : Old w.heap.size wr := ⟨hsz⟩
    have HO := Lib.hid hoeq
    clear hoeq
    by_cases hlt : k < len ∧ k < 100
    · obtain ⟨k1, k2⟩ := hlt
      obtain ⟨b, off, g, rfl, hb, hg, hg0, hg1⟩ := hcell k k1
      have hgr : wr.cell? ⟨b, off + k, none⟩ = some (.int .u16 g) := by rw [hbel.cell (p := ⟨b, _, none⟩) hb]; exact hg
      have hbo : Old b wr := ⟨Nat.lt_of_lt_of_le hb hbel.size⟩
      have hkk : ((k : Int)) < 100 := by omega
      clear hlen hcell
      by_cases hgg : 32000 < g
      · go_wp2
        go_roundw
        case rel => exact ⟨k + 1, x, o, n, by omega, by go_num, hx, hx', hn, hn', HO.out, ⟨c0, c1, c2, c3⟩, ⟨f0, f1, f2, f3⟩, hbel, hsz⟩
        case measure => simp [intOf]; omega
      · have ht : ((n - (x + 1 + g)) % 65536 != (o - g) % 65536) = false := by rw [bne_eq_false_iff_eq]; have := HO.out; omega
        have ht2 : ((n - (x + 1 + g) % 65536) % 65536 != (o - g) % 65536) = false := by rw [bne_eq_false_iff_eq]; have := HO.out; omega
        go_wp2_with (first | (go_at_call 27; refine (stepYes _ _ _ _ _ _ (fun _ => ahead_next _ _ hg0 (by omega))).mono ?_; rintro e w1 ⟨rfl, hb1⟩; have ha1 : After _ w1 := ⟨hb1⟩; obtain ⟨hc1, hf1⟩ := after hb1; have hz1 := hb1.size; try simp at hz1))
        go_roundw
        case rel =>
          refine ⟨k + 1, (x + 1 + g) % 65536, (n - (x + 1 + g) % 65536) % 65536, (n + 1) % 65536, by omega, by go_num, by omega, by omega, by omega, by omega, by omega, ?_, ?_, ?_, ?_⟩
          all_goals first | (show RowKit.Below _ _ _; (repeat (first | with_reducible exact Below.refl _ _ | (with_reducible refine Below.alloc ?_ ?_ _; rotate_left; focus ((try simp) <;> omega)) | (with_reducible refine Below.setCell ?_ ?_ _; rotate_left; focus ((try simp) <;> omega)) | (with_reducible refine below_grow ?_ ?_; rotate_left; focus ((try simp) <;> omega)) | with_reducible refine Below.drew ?_ | with_reducible refine below_drewN ?_ | with_reducible assumption | (with_reducible refine below_step (by assumption) ?_ ?_; rotate_left; focus ((try simp) <;> omega)))); done) | (simp [*, go_sem]; done) | omega | (simp; omega) | (simp [*, go_sem, World.cell?_setCell_far]; done)
        case measure => simp [intOf]; omega
    · clear hcell
      by_cases hkl : k < len
      · have hk1 : (100 : Int) ≤ (k : Int) := by omega
        go_wp2
        refine ret_any ⟨_, by simp [results, Try.results9, go_sem, *]; rfl, ?_⟩ rfl
        exact gives_of rfl hbel
      · go_wp2
        refine ret_any ⟨_, by simp [results, Try.results9, go_sem, *]; rfl, ?_⟩ rfl
        exact gives_of rfl hbel
end Go.Proofs.Ytplhgpeeekjfcaa
