/-
  SameCells of two rows that hold the same cells. No condition but that.
-/
import Derived.Test.YtjlclpdjblicjaaRingAll
namespace Go.Proofs.Ytjlclpdjblicjaa
open Go.RowKit Go.Sort Go.BigFrame
set_option linter.unusedVariables false
attribute [local go_sem ↓] Go.wp_at_zero Go.wp_at_succ
theorem cells4_get : ∀ (L : List (Int × Int × Int × Int)) (j t : Nat) (ht : t < 4) (hj : j < L.length), (cells4 L)[j * 4 + t]? = (four (L.getD j (0, 0, 0, 0)))[t]?
  | [], j, _, _, hj => absurd hj (by simp)
  | x :: r, 0, t, ht, _ => by
    have : t < (four x).length := by simpa [four] using ht
    simp only [cells4, List.flatMap_cons, Nat.zero_mul, Nat.zero_add, List.getD_cons_zero]
    rw [List.getElem?_append_left this]
  | x :: r, j + 1, t, ht, hj => by
    have h4 : (four x).length = 4 := rfl
    simp only [cells4, List.flatMap_cons, List.getD_cons_succ]
    rw [List.getElem?_append_right (by rw [h4]; omega), h4, show (j + 1) * 4 + t - 4 = j * 4 + t by omega]
    exact cells4_get r j t ht (by simpa using hj)
theorem cells4_length (L : List (Int × Int × Int × Int)) : (cells4 L).length = L.length * 4 := by
  induction L with
  | nil => rfl
  | cons x r ih => simp only [cells4, List.flatMap_cons, List.length_append, List.length_cons] at *; rw [ih]; simp [four]; omega
/-- A row that holds the cells L: read at a place. -/
theorem own_cell {w : World} {B n : Nat} {v : Value} {L : List (Int × Int × Int × Int)} (h : w.ownsRow B 32 4 v n (cells4 L)) (j : Nat) (hj : j < n) :
    ∃ g cap, v = .slice (some ⟨g, 0, none⟩) n cap ∧ g < w.heap.size ∧ w.cell? ⟨g, j * 4, none⟩ = some (.int .i64 (L.getD j (0, 0, 0, 0)).1) ∧ w.cell? ⟨g, j * 4 + 1, none⟩ = some (.int .i64 (L.getD j (0, 0, 0, 0)).2.1) ∧ w.cell? ⟨g, j * 4 + 2, none⟩ = some (.int .i64 (L.getD j (0, 0, 0, 0)).2.2.1) ∧ w.cell? ⟨g, j * 4 + 3, none⟩ = some (.int .u32 (L.getD j (0, 0, 0, 0)).2.2.2) := by
  have hl : j < L.length := by have := h.1; rw [cells4_length] at this; omega
  rcases h.2 with ⟨h1, h2⟩ | ⟨g, cap, cur, hv, hb, hg, r⟩
  · omega
  · have h' := h
    rw [hv] at h'
    refine ⟨g, cap, hv, (Array.getElem?_eq_some_iff.1 hg).1, ?_, ?_, ?_, ?_⟩
    · have := h'.cellAt (j * 4 + 0) (by omega); rw [cells4_get L j 0 (by omega) hl] at this; exact this
    · have := h'.cellAt (j * 4 + 1) (by omega); rw [cells4_get L j 1 (by omega) hl] at this; exact this
    · have := h'.cellAt (j * 4 + 2) (by omega); rw [cells4_get L j 2 (by omega) hl] at this; exact this
    · have := h'.cellAt (j * 4 + 3) (by omega); rw [cells4_get L j 3 (by omega) hl] at this; exact this
theorem own_shape {w : World} {B e size n : Nat} {v : Value} {xs : List Value} (h : w.ownsRow B e size v n xs) : ∃ ao cap, v = .slice ao n cap := by
  rcases h.2 with ⟨h1, h2⟩ | ⟨g, cap, cur, hv, _⟩
  · subst h1 h2; exact ⟨none, 0, rfl⟩
  · exact ⟨_, cap, hv⟩
set_option maxRecDepth 100000 in
theorem sameR {B B' n : Nat} {va vb : Value} {L : List (Int × Int × Int × Int)} {w : World} (h1 : w.ownsRow B 32 4 va n (cells4 L)) (h2 : w.ownsRow B' 32 4 vb n (cells4 L)) (hn : n ≤ 1000) : Calls Try.prog 25 #[va, vb] w (Gives (.bool true) w) := by
  have O1 := Lib.hid h1
  have O2 := Lib.hid h2
  obtain ⟨ao, cap, ha⟩ := own_shape h1
  obtain ⟨bo, cap', hb⟩ := own_shape h2
  subst ha hb
  clear h1 h2
  go_enter Try.func25, Try.ntmps25
  go_wp2
  go_loopw [13] (fun s wr => ∃ k : Nat, k ≤ n ∧ s = .int .i64 k ∧ Below w.heap.size w wr) (fun i _ => n - (intOf i).toNat)
  case atStart => exact ⟨0, by omega, rfl, Below.refl _ _⟩
  case round =>
    obtain ⟨k, hk, rfl, hbel⟩ := hrel
    by_cases hlt : k < n
    · obtain ⟨g, c1, e1, l1, p0, p1, p2, p3⟩ := own_cell O1.out k hlt
      obtain ⟨g', c2, e2, l2, q0, q1, q2, q3⟩ := own_cell O2.out k hlt
      simp only [Value.slice.injEq, true_and] at e1 e2
      obtain ⟨rfl, rfl⟩ := e1
      obtain ⟨rfl, rfl⟩ := e2
      rw [← hbel.cell (by simpa using l1)] at p0 p1 p2 p3
      rw [← hbel.cell (by simpa using l2)] at q0 q1 q2 q3
      generalize L.getD k (0, 0, 0, 0) = x at p0 p1 p2 p3 q0 q1 q2 q3
      have hbs := hbel.size
      go_wp2
      go_region
      all_goals go_wp2
      all_goals go_roundw
      case rel => exact ⟨k + 1, by omega, by go_num, (by repeat (first | with_reducible exact Below.refl _ _ | (with_reducible refine Below.alloc ?_ ?_ _; rotate_left; focus ((try simp) <;> omega)) | (with_reducible refine Below.setCell ?_ ?_ _; rotate_left; focus ((try simp) <;> omega)) | (with_reducible refine below_grow ?_ ?_; rotate_left; focus ((try simp) <;> omega)) | (with_reducible refine below_putB ?_ ?_; rotate_left; focus ((try simp) <;> omega)) | with_reducible refine Below.drew ?_ | with_reducible refine below_drewN ?_ | with_reducible assumption | (with_reducible refine below_step (by assumption) ?_ ?_; rotate_left; focus ((try simp) <;> omega))))⟩
      case measure => simp [intOf]; omega
    · go_wp2
      refine ret_any ⟨_, by simp [results, Try.results25, go_sem, *]; rfl, ?_⟩ rfl
      exact gives_of rfl hbel
end Go.Proofs.Ytjlclpdjblicjaa
