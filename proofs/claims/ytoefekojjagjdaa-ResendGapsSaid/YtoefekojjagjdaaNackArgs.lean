/-
  Slices of numbers and of pairs that came in; rows alike; what Expand and Pack show. No condition.
-/
import Derived.Test.YtoefekojjagjdaaNackPack
import Derived.Test.YtoefekojjagjdaaSmall
import Derived.Test.YtoefekojjagjdaaTypes
namespace Go.Proofs.Ytoefekojjagjdaa
open Go.RowKit Go.Sort Go.BigFrame
set_option linter.unusedVariables false
attribute [local go_sem ↓] Go.wp_at_zero Go.wp_at_succ
theorem arg_nums {w : World} {v : Value} (h : Arg Try.prog w 36 v) : ∃ m : List Int, fits16 m ∧ Has w 1 v m.length (nums m) := by
  obtain ⟨a, len, cap, h1, h2, h3, h4, h5⟩ := fit_slice Try.underlying36 (show Try.prog.cellsOf 22 = 1 by kernel_rfl) (by omega) (arg_slice Try.underlying36 h)
  simp only [List.cons.injEq, and_true] at h1
  subst h1
  have hx : ∀ i, ∃ x : Int, 0 ≤ x ∧ x ≤ 65535 ∧ (i < len → ∃ b off, a = some ⟨b, off, none⟩ ∧ b < w.heap.size ∧ w.cell? ⟨b, off + i, none⟩ = some (.int .u16 x)) := by
    intro i
    by_cases hi : i < len
    · obtain ⟨b, off, es, e1, e2, e3, e4, e5⟩ := h5 i hi
      obtain ⟨x, rfl, hx, hx'⟩ := fit_u16 Try.underlying22 e5
      exact ⟨x, hx, hx', fun _ => ⟨b, off, e1, e2, by simpa using e4 0 (by omega)⟩⟩
    · exact ⟨0, by decide, by decide, fun h => absurd h hi⟩
  obtain ⟨f, hf⟩ := Classical.axiomOfChoice hx
  have hl : ((List.range len).map f).length = len := by simp
  refine ⟨(List.range len).map f, ?_, ?_⟩
  · intro x hx
    simp only [List.mem_map] at hx
    obtain ⟨i, _, rfl⟩ := hx
    exact ⟨(hf i).1, (hf i).2.1⟩
  · rw [hl]
    have := Has.of_cells (w := w) (ao := a) (n := len) (cap := cap) (size := 1) (fun i => [Value.int .u16 (f i)]) (fun _ => rfl) (by decide) h2 h3 h4 (fun i hi => by
      obtain ⟨b, off, e1, e2, e3⟩ := (hf i).2.2 hi
      exact ⟨b, off, e1, e2, fun j hj => by obtain rfl : j = 0 := by omega
                                            simpa using e3⟩)
    have e : (List.range len).flatMap (fun i => [Value.int .u16 (f i)]) = nums ((List.range len).map f) := by
      unfold nums
      rw [List.map_map]
      induction List.range len with
      | nil => rfl
      | cons x r ih => rw [List.flatMap_cons, ih]; rfl
    rwa [e] at this
/-- The pairs fit. -/
def fitsP (l : List (Int × Int)) : Prop := ∀ x ∈ l, 0 ≤ x.1 ∧ x.1 ≤ 65535 ∧ 0 ≤ x.2 ∧ x.2 ≤ 65535
theorem arg_prs {w : World} {v : Value} (h : Arg Try.prog w 39 v) : ∃ l : List (Int × Int), fitsP l ∧ Has w 2 v l.length (prs l) := by
  obtain ⟨a, len, cap, h1, h2, h3, h4, h5⟩ := fit_slice Try.underlying39 (show Try.prog.cellsOf 43 = 2 by kernel_rfl) (by omega) (arg_slice Try.underlying39 h)
  simp only [List.cons.injEq, and_true] at h1
  subst h1
  have hx : ∀ i, ∃ x : Int × Int, (0 ≤ x.1 ∧ x.1 ≤ 65535 ∧ 0 ≤ x.2 ∧ x.2 ≤ 65535) ∧ (i < len → ∃ b off, a = some ⟨b, off, none⟩ ∧ b < w.heap.size ∧ w.cell? ⟨b, off + i * 2, none⟩ = some (.int .u16 x.1) ∧ w.cell? ⟨b, off + i * 2 + 1, none⟩ = some (.int .u16 x.2)) := by
    intro i
    by_cases hi : i < len
    · obtain ⟨b, off, es, e1, e2, e3, e4, e5⟩ := h5 i hi
      obtain ⟨x, y, rfl, c1, c2, c3, c4⟩ := fit_pair e5
      exact ⟨(x, y), ⟨c1, c2, c3, c4⟩, fun _ => ⟨b, off, e1, e2, by simpa using e4 0 (by omega), by simpa using e4 1 (by omega)⟩⟩
    · exact ⟨(0, 0), by decide, fun h => absurd h hi⟩
  obtain ⟨f, hf⟩ := Classical.axiomOfChoice hx
  have hl : ((List.range len).map f).length = len := by simp
  refine ⟨(List.range len).map f, ?_, ?_⟩
  · intro x hx
    simp only [List.mem_map] at hx
    obtain ⟨i, _, rfl⟩ := hx
    exact (hf i).1
  · rw [hl]
    have := Has.of_cells (w := w) (ao := a) (n := len) (cap := cap) (size := 2) (fun i => [Value.int .u16 (f i).1, Value.int .u16 (f i).2]) (fun _ => rfl) (by decide) h2 h3 h4 (fun i hi => by
      obtain ⟨b, off, e1, e2, e3, e4⟩ := (hf i).2 hi
      refine ⟨b, off, e1, e2, fun j hj => ?_⟩
      match j, hj with
      | 0, _ => simpa using e3
      | 1, _ => simpa using e4)
    have e : (List.range len).flatMap (fun i => [Value.int .u16 (f i).1, Value.int .u16 (f i).2]) = prs ((List.range len).map f) := by
      unfold prs
      induction List.range len with
      | nil => rfl
      | cons x r ih => rw [List.flatMap_cons, List.map_cons, List.flatMap_cons, ih]
    rwa [e] at this
theorem has_cell1 {w : World} {n : Nat} {v : Value} {m : List Int} (h : Has w 1 v n (nums m)) (hl : m.length = n) (k : Nat) (hk : k < n) :
    ∃ g off cap, v = .slice (some ⟨g, off, none⟩) n cap ∧ g < w.heap.size ∧ w.cell? ⟨g, off + k, none⟩ = some (.int .u16 (m.getD k 0)) := by
  obtain ⟨ao, cap, rfl, _⟩ := h.shape
  obtain ⟨g, off, rfl, hg, hc⟩ := h.cell (by omega)
  exact ⟨g, off, cap, rfl, hg, hc _ _ (nums_get m k (by omega))⟩
set_option maxRecDepth 100000 in
theorem sameN {n : Nat} {va vb : Value} {m : List Int} {w : World} (h1 : Has w 1 va n (nums m)) (h2 : Has w 1 vb n (nums m)) (hl : m.length = n) (hn : n ≤ 100000000) : Calls Try.prog 28 #[va, vb] w (Gives (.bool true) w) := by
  have O1 := Lib.hid h1
  have O2 := Lib.hid h2
  have HL := Lib.hid hl
  obtain ⟨ao, cap, ha, _⟩ := h1.shape
  obtain ⟨bo, cap', hb, _⟩ := h2.shape
  subst ha hb
  clear h1 h2 hl
  go_enter Try.func28, Try.ntmps28
  go_wp2
  go_loopw [13] (fun s wr => ∃ k : Nat, k ≤ n ∧ s = .int .i64 k ∧ Below w.heap.size w wr) (fun i _ => n - (intOf i).toNat)
  case atStart => exact ⟨0, by omega, rfl, Below.refl _ _⟩
  case round =>
    obtain ⟨k, hk, rfl, hbel⟩ := hrel
    by_cases hlt : k < n
    · obtain ⟨g, o1, c1, e1, l1, p0⟩ := has_cell1 O1.out HL.out k hlt
      obtain ⟨g', o2, c2, e2, l2, q0⟩ := has_cell1 O2.out HL.out k hlt
      simp only [Value.slice.injEq, true_and] at e1 e2
      obtain ⟨rfl, rfl⟩ := e1
      obtain ⟨rfl, rfl⟩ := e2
      rw [← hbel.cell (by simpa using l1)] at p0
      rw [← hbel.cell (by simpa using l2)] at q0
      generalize m.getD k 0 = x at p0 q0
      have hbs := hbel.size
      have i3 : (k : Int) < (n : Int) := by omega
      have i4 : (0 : Int) ≤ (k : Int) := by omega
      go_wp2
      go_region
      all_goals go_wp2
      all_goals go_roundw
      case rel => exact ⟨k + 1, by omega, by go_num, (by repeat (first | with_reducible exact Below.refl _ _ | (with_reducible refine Below.alloc ?_ ?_ _; rotate_left; focus ((try simp) <;> omega)) | (with_reducible refine Below.setCell ?_ ?_ _; rotate_left; focus ((try simp) <;> omega)) | (with_reducible refine below_grow ?_ ?_; rotate_left; focus ((try simp) <;> omega)) | (with_reducible refine below_putB ?_ ?_; rotate_left; focus ((try simp) <;> omega)) | with_reducible refine Below.drew ?_ | with_reducible refine below_drewN ?_ | with_reducible assumption | (with_reducible refine below_step (by assumption) ?_ ?_; rotate_left; focus ((try simp) <;> omega))))⟩
      case measure => simp [intOf]; omega
    · go_wp2
      refine ret_any ⟨_, by simp [results, Try.results28, go_sem, *]; rfl, ?_⟩ rfl
      exact gives_of rfl hbel
theorem has_blk {w : World} {b size n : Nat} {cs : Array Value} {t : TypeId} (h : BlkIs w b cs t) (hs : cs.size = n * size) (hn : n ≤ maxLen) (xs : List Value) (hx : cs.toList = xs) : Has w size (.slice (some ⟨b, 0, none⟩) n n) n xs := by
  subst hx
  refine ⟨by simpa using hs, _, _, rfl, Nat.le_refl _, hn, (fun e => by cases e), fun _ => ⟨b, 0, rfl, h.lt, fun j u hu => ?_⟩⟩
  rw [Nat.zero_add, cell_blk (w := w) (b := b)]
  simpa using hu
set_option maxRecDepth 100000 in
theorem shown8 (w : World) : Calls Try.prog 27 #[] w (Gives (.bool true) w) := by
  have hE : expand [(65535, 32769)] = [65535, 0, 15] := by decide
  have hP : pack [7, 8, 23, 24] = [(7, 32769), (24, 0)] := by decide
  have kx := fun (w : World) (v : Value) (h : Has w 2 v 1 (prs [(65535, 32769)])) => expandR h rfl (by decide) (by decide)
  have kp := fun (w : World) (v : Value) (h : Has w 1 v 4 (nums [7, 8, 23, 24])) => packR h rfl (by unfold fits16; decide) (by decide)
  rw [hE] at kx
  rw [hP] at kp
  have KX := Lib.hid kx
  have KP := Lib.hid kp
  clear hE hP kx kp
  go_enter Try.func27, Try.ntmps27
  go_wp2_with fail
  refine (KX.out _ _ (has_blk inferInstance (by rfl) (by unfold maxLen; decide) _ (by rfl))).mono ?_; rintro e w1 ⟨v1, rfl, hL1, hb1⟩; have ha1 : After _ w1 := ⟨hb1⟩; obtain ⟨hc1, hf1⟩ := after hb1; have hz1 := hb1.size; try simp at hz1
  obtain ⟨g1, o1, c1, rfl, hg1, hg1', hn1, hm1⟩ := hL1.form (by decide)
  have p0 := hL1.cell (j := 0) (u := .int .u16 65535) rfl
  have p1 := hL1.cell (j := 1) (u := .int .u16 0) rfl
  have p2 := hL1.cell (j := 2) (u := .int .u16 15) rfl
  rw [Nat.add_zero] at p0
  have og1 : Old g1 w1 := ⟨hg1'⟩
  have B1 : RowKit.Below w.heap.size w w1 := (by repeat (first | with_reducible exact Below.refl _ _ | (with_reducible refine Below.alloc ?_ ?_ _; rotate_left; focus ((try simp) <;> omega)) | (with_reducible refine Below.setCell ?_ ?_ _; rotate_left; focus ((try simp) <;> omega)) | (with_reducible refine below_grow ?_ ?_; rotate_left; focus ((try simp) <;> omega)) | (with_reducible refine below_putB ?_ ?_; rotate_left; focus ((try simp) <;> omega)) | with_reducible refine Below.drew ?_ | with_reducible refine below_drewN ?_ | with_reducible assumption | (with_reducible refine below_step (by assumption) ?_ ?_; rotate_left; focus ((try simp) <;> omega))))
  clear hL1 hm1
  go_wp2_with fail
  refine (KP.out _ _ (has_blk inferInstance (by rfl) (by unfold maxLen; decide) _ (by rfl))).mono ?_; rintro e w2 ⟨v2, rfl, hL2, hb2⟩; have ha2 : After _ w2 := ⟨hb2⟩; obtain ⟨hc2, hf2⟩ := after hb2; have hz2 := hb2.size; try simp at hz2
  obtain ⟨g2, o2, c2, rfl, hg2, hg2', hn2, hm2⟩ := hL2.form (by decide)
  have q0 := hL2.cell (j := 0) (u := .int .u16 7) rfl
  have q1 := hL2.cell (j := 1) (u := .int .u16 32769) rfl
  have q2 := hL2.cell (j := 2) (u := .int .u16 24) rfl
  have q3 := hL2.cell (j := 3) (u := .int .u16 0) rfl
  rw [Nat.add_zero] at q0
  have og2 : Old g2 w2 := ⟨hg2'⟩
  clear hL2 hm2
  go_wp2_with fail
  refine ret_any ⟨_, by simp [results, Try.results27, go_sem, *]; rfl, ?_⟩ rfl
  refine gives_of rfl (by repeat (first | with_reducible exact Below.refl _ _ | (with_reducible refine Below.alloc ?_ ?_ _; rotate_left; focus ((try simp) <;> omega)) | (with_reducible refine Below.setCell ?_ ?_ _; rotate_left; focus ((try simp) <;> omega)) | (with_reducible refine below_grow ?_ ?_; rotate_left; focus ((try simp) <;> omega)) | (with_reducible refine below_putB ?_ ?_; rotate_left; focus ((try simp) <;> omega)) | with_reducible refine Below.drew ?_ | with_reducible refine below_drewN ?_ | with_reducible assumption | (with_reducible refine below_step (by assumption) ?_ ?_; rotate_left; focus ((try simp) <;> omega))))
end Go.Proofs.Ytoefekojjagjdaa
