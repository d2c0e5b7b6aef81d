/-
  What Index, Contains and Has tell, by their contracts. No condition but that the numbers fit their kinds and the slices are not too long.
-/
import Derived.Test.YtoefekojjagjdaaNackArgs
namespace Go.Proofs.Ytoefekojjagjdaa
open Go.RowKit Go.Sort Go.BigFrame
set_option linter.unusedVariables false
attribute [local go_sem ↓] Go.wp_at_zero Go.wp_at_succ
theorem mem_getD {m : List Int} {x : Int} (h : x ∈ m) : ∃ j, j < m.length ∧ m.getD j 0 = x := by
  obtain ⟨j, hj, e⟩ := List.getElem_of_mem h
  exact ⟨j, hj, by rw [List.getD_eq_getElem?_getD, List.getElem?_eq_getElem hj]; exact e⟩
theorem getD_mem (m : List Int) (k : Nat) (h : k < m.length) : m.getD k 0 ∈ m := by
  rw [List.getD_eq_getElem?_getD, List.getElem?_eq_getElem h]
  exact List.getElem_mem h
set_option maxRecDepth 100000 in
theorem indexR {n : Nat} {v : Value} {m : List Int} {x : Int} {w : World} (h : Has w 1 v n (nums m)) (hl : m.length = n) (hn : n ≤ 100000000) :
    Calls Try.prog 45 #[v, .int .u16 x] w fun e w' => ∃ r : Int, e = .returned (.int .i64 r) ∧ decide (0 ≤ r) = decide (x ∈ m) ∧ Below w.heap.size w w' := by
  have HH := Lib.hid h
  have HL := Lib.hid hl
  obtain ⟨ao, cap, rfl, _⟩ := h.shape
  clear h hl
  go_enter Try.func45, Try.ntmps45
  go_wp2
  go_loopw [8] (fun s wr => ∃ k : Nat, k ≤ n ∧ s = .int .i64 k ∧ (∀ j, j < k → m.getD j 0 ≠ x) ∧ Below w.heap.size w wr) (fun i _ => n - (intOf i).toNat)
  case atStart => exact ⟨0, by omega, rfl, by intro j h; omega, Below.refl _ _⟩
  case round =>
    obtain ⟨k, hk, rfl, hno, hbel⟩ := hrel
    have NO := Lib.hid hno
    clear hno
    by_cases hlt : k < n
    · obtain ⟨g, o1, c1, e1, l1, p0⟩ := has_cell1 HH.out HL.out k hlt
      simp only [Value.slice.injEq, true_and] at e1
      obtain ⟨rfl, rfl⟩ := e1
      rw [← hbel.cell (by simpa using l1)] at p0
      obtain ⟨y, hy⟩ : ∃ y, y = m.getD k 0 := ⟨_, rfl⟩
      rw [← hy] at p0
      have HY := Lib.hid hy
      clear hy
      have hbs := hbel.size
      have i3 : (k : Int) < (n : Int) := by omega
      have i4 : (0 : Int) ≤ (k : Int) := by omega
      by_cases hxy : x = y
      · subst hxy
        go_wp2
        refine ret_any ⟨_, by simp [results, Try.results45, go_sem, *]; rfl, ?_⟩ rfl
        exact ⟨k, rfl, by
          have : x ∈ m := by rw [HY.out]; exact getD_mem m k (by rw [HL.out]; exact hlt)
          simp [this], hbel⟩
      · go_wp2
        go_roundw
        case rel =>
          refine ⟨k + 1, by omega, by go_num, ?_, hbel⟩
          intro j hj
          rcases Nat.lt_succ_iff_lt_or_eq.1 hj with h | rfl
          · exact NO.out j h
          · rw [← HY.out]; exact fun e => hxy e.symm
        case measure => simp [intOf]; omega
    · obtain rfl : k = n := by omega
      go_wp2
      refine ret_any ⟨_, by simp [results, Try.results45, go_sem, *]; rfl, ?_⟩ rfl
      exact ⟨-1, rfl, by
        have : ¬ x ∈ m := by
          intro h
          obtain ⟨j, hj, e⟩ := mem_getD h
          exact NO.out j (by rw [← HL.out]; exact hj) e
        simp [this], hbel⟩
theorem containsR {n : Nat} {v : Value} {m : List Int} {x : Int} {w : World} (h : Has w 1 v n (nums m)) (hl : m.length = n) (hn : n ≤ 100000000) :
    Calls Try.prog 42 #[v, .int .u16 x] w (Gives (.bool (decide (x ∈ m))) w) := by
  have ki := fun (w' : World) (k : Below w.heap.size w w') => indexR (x := x) (h.keep k) hl hn
  have KI := Lib.hid ki
  clear ki h hl
  go_enter Try.func42, Try.ntmps42
  go_wp2_with fail
  refine (KI.out _ (by repeat (first | with_reducible exact Below.refl _ _ | (with_reducible refine Below.alloc ?_ ?_ _; rotate_left; focus ((try simp) <;> omega)) | (with_reducible refine Below.setCell ?_ ?_ _; rotate_left; focus ((try simp) <;> omega)) | (with_reducible refine below_grow ?_ ?_; rotate_left; focus ((try simp) <;> omega)) | (with_reducible refine below_putB ?_ ?_; rotate_left; focus ((try simp) <;> omega)) | with_reducible refine Below.drew ?_ | with_reducible refine below_drewN ?_ | with_reducible assumption | (with_reducible refine below_step (by assumption) ?_ ?_; rotate_left; focus ((try simp) <;> omega))))).mono ?_; rintro e w2 ⟨r, rfl, hr, hb2⟩
  have HR := Lib.hid hr
  clear hr
  go_wp2_with fail
  refine ret_any ⟨_, by simp [results, Try.results42, go_sem, *]; rfl, ?_⟩ rfl
  refine gives_of (by rw [← HR.out]) (by repeat (first | with_reducible exact Below.refl _ _ | (with_reducible refine Below.alloc ?_ ?_ _; rotate_left; focus ((try simp) <;> omega)) | (with_reducible refine Below.setCell ?_ ?_ _; rotate_left; focus ((try simp) <;> omega)) | (with_reducible refine below_grow ?_ ?_; rotate_left; focus ((try simp) <;> omega)) | (with_reducible refine below_putB ?_ ?_; rotate_left; focus ((try simp) <;> omega)) | with_reducible refine Below.drew ?_ | with_reducible refine below_drewN ?_ | with_reducible assumption | (with_reducible refine below_step (by assumption) ?_ ?_; rotate_left; focus ((try simp) <;> omega))))
theorem hasR {n : Nat} {v : Value} {l : List (Int × Int)} {x : Int} {w : World} (h : Has w 2 v n (prs l)) (hl : l.length = n) (hb : fitsP l) (hn : n ≤ 4000000) :
    Calls Try.prog 33 #[v, .int .u16 x] w (Gives (.bool (decide (x ∈ expand l))) w) := by
  have kx := fun (w' : World) (k : Below w.heap.size w w') => expandR (h.keep k) hl hb hn
  have hel : (expand l).length ≤ 17 * n := by rw [← hl]; exact expand_len l
  have kc := fun (w' : World) (v : Value) (h : Has w' 1 v (expand l).length (nums (expand l))) => containsR (x := x) h rfl (by omega)
  have KX := Lib.hid kx
  have KC := Lib.hid kc
  clear kx kc h hl hb hel
  go_enter Try.func33, Try.ntmps33
  go_wp2_with fail
  refine (KX.out _ (by repeat (first | with_reducible exact Below.refl _ _ | (with_reducible refine Below.alloc ?_ ?_ _; rotate_left; focus ((try simp) <;> omega)) | (with_reducible refine Below.setCell ?_ ?_ _; rotate_left; focus ((try simp) <;> omega)) | (with_reducible refine below_grow ?_ ?_; rotate_left; focus ((try simp) <;> omega)) | (with_reducible refine below_putB ?_ ?_; rotate_left; focus ((try simp) <;> omega)) | with_reducible refine Below.drew ?_ | with_reducible refine below_drewN ?_ | with_reducible assumption | (with_reducible refine below_step (by assumption) ?_ ?_; rotate_left; focus ((try simp) <;> omega))))).mono ?_; rintro e w2 ⟨v2, rfl, hL2, hb2⟩
  have B2 : RowKit.Below w.heap.size w w2 := (by repeat (first | with_reducible exact Below.refl _ _ | (with_reducible refine Below.alloc ?_ ?_ _; rotate_left; focus ((try simp) <;> omega)) | (with_reducible refine Below.setCell ?_ ?_ _; rotate_left; focus ((try simp) <;> omega)) | (with_reducible refine below_grow ?_ ?_; rotate_left; focus ((try simp) <;> omega)) | (with_reducible refine below_putB ?_ ?_; rotate_left; focus ((try simp) <;> omega)) | with_reducible refine Below.drew ?_ | with_reducible refine below_drewN ?_ | with_reducible assumption | (with_reducible refine below_step (by assumption) ?_ ?_; rotate_left; focus ((try simp) <;> omega))))
  have B2s := B2.size
  go_wp2_with fail
  refine (KC.out _ _ (Has.of_line hL2)).mono ?_; rintro e w3 ⟨rfl, hb3⟩
  go_wp2_with fail
  refine ret_any ⟨_, by simp [results, Try.results33, go_sem, *]; rfl, ?_⟩ rfl
  refine gives_of rfl (by repeat (first | with_reducible exact Below.refl _ _ | (with_reducible refine Below.alloc ?_ ?_ _; rotate_left; focus ((try simp) <;> omega)) | (with_reducible refine Below.setCell ?_ ?_ _; rotate_left; focus ((try simp) <;> omega)) | (with_reducible refine below_grow ?_ ?_; rotate_left; focus ((try simp) <;> omega)) | (with_reducible refine below_putB ?_ ?_; rotate_left; focus ((try simp) <;> omega)) | with_reducible refine Below.drew ?_ | with_reducible refine below_drewN ?_ | with_reducible assumption | (with_reducible refine below_step (by assumption) ?_ ?_; rotate_left; focus ((try simp) <;> omega))))
end Go.Proofs.Ytoefekojjagjdaa
