/-
  New of a ring, by its contract; what a ring that is new shows. No condition.
-/
import Derived.Test.YtjlclpdjblicjaaRingOps
namespace Go.Proofs.Ytjlclpdjblicjaa
open Go.RowKit Go.Sort Go.BigFrame
set_option linter.unusedVariables false
theorem info32 : (Try.prog.info? 32).map (fun i => (i.zero, i.size, i.bytes)) = some (some (.agg #[.int .i64 0, .int .i64 0, .int .i64 0, .int .u32 0]), 4, 32) := by kernel_rfl
theorem made4 (n i : Nat) (hi : i < n) (j : Nat) (hj : j < 4) :
    (madeCells (Value.agg #[.int .i64 0, .int .i64 0, .int .i64 0, .int .u32 0]).cells (n * 4)).toList[i * 4 + j]? = some ([Value.int .i64 0, .int .i64 0, .int .i64 0, .int .u32 0].getD j (.int .i64 0)) := by
  unfold madeCells
  have hs : (Value.agg #[.int .i64 0, .int .i64 0, .int .i64 0, .int .u32 0]).cells = #[Value.int .i64 0, .int .i64 0, .int .i64 0, .int .u32 0] := rfl
  rw [hs]
  have : i * 4 + j < n * 4 := by omega
  simp only [Array.toList_map, List.getElem?_map, Array.toList_range, List.getElem?_range this, Option.map_some]
  have hm : (i * 4 + j) % 4 = j := by omega
  simp only [List.size_toArray, List.length_cons, List.length_nil, Nat.zero_add, Nat.reduceAdd, hm]
  match j, hj with
  | 0, _ => rfl
  | 1, _ => rfl
  | 2, _ => rfl
  | 3, _ => rfl
/-- Behind New: header and row lie in new memory. -/
theorem newEnd {w w1 : World} {n : Nat} (h : w1.ownsRow w.heap.size 32 4 (.slice (some ⟨w.heap.size, 0, none⟩) n n) n (madeCells (Value.agg #[.int .i64 0, .int .i64 0, .int .i64 0, .int .u32 0]).cells (n * 4)).toList) (hg : w.grownBy w1 none) (h0 : 0 < n) (h1 : n ≤ 256) (t : TypeId) :
    RingH (w1.alloc (Obj.cells #[.slice (some ⟨w.heap.size, 0, none⟩) n n, .int .i64 0, .int .i64 0] t)) w1.heap.size w.heap.size n 0 0 ∧ RingA (w1.alloc (Obj.cells #[.slice (some ⟨w.heap.size, 0, none⟩) n n, .int .i64 0, .int .i64 0] t)) w.heap.size n (fun _ => (0, 0, 0, 0)) ∧ Below w.heap.size w (w1.alloc (Obj.cells #[.slice (some ⟨w.heap.size, 0, none⟩) n n, .int .i64 0, .int .i64 0] t)) := by
  have hlt : w.heap.size < w1.heap.size := by
    rcases h.2 with ⟨h', _⟩ | ⟨g', cap', cur, h', _, hgg, _⟩
    · simp at h'
    · simp only [Value.slice.injEq, Option.some.injEq, Addr.mk.injEq, and_true, true_and] at h'
      obtain ⟨rfl, rfl⟩ := h'
      exact (Array.getElem?_eq_some_iff.1 hgg).1
  have hB : Below w.heap.size w w1 := (Below.refl _ _).grown hg (Nat.le_refl _) (by simp)
  have hA : RingA w1 w.heap.size n (fun _ => (0, 0, 0, 0)) := by
    refine ⟨fun i hi => ?_, fun i hi => ?_, fun i hi => ?_, fun i hi => ?_, fun i _ => h.frozenAt i⟩
    · rw [h.cellAt (i * 4) (by omega)]; exact made4 n i hi 0 (by omega)
    · rw [h.cellAt (i * 4 + 1) (by omega)]; exact made4 n i hi 1 (by omega)
    · rw [h.cellAt (i * 4 + 2) (by omega)]; exact made4 n i hi 2 (by omega)
    · rw [h.cellAt (i * 4 + 3) (by omega)]; exact made4 n i hi 3 (by omega)
  refine ⟨?_, hA.keep hlt ((Below.refl _ _).alloc (Nat.le_refl _) _), hB.alloc (Nat.le_of_lt hlt) _⟩
  have hne : w1.heap.size ≠ w.heap.size := by omega
  refine ⟨?_, ?_, ?_, ?_, ?_, hne, by simp, by simp; omega, h0, h1, h0, by omega⟩ <;> simp [go_sem]
set_option maxRecDepth 100000 in
theorem newMid (n : Nat) (w : World) (m : Int) (h0 : -9223372036854775808 ≤ m) (h1 : m ≤ 9223372036854775807) (p0 : 0 < n) (p1 : n ≤ 256) (hm : (m ≤ 1 ∧ n = 1) ∨ (256 < m ∧ n = 256) ∨ (1 < m ∧ m ≤ 256 ∧ m = n)) : Calls Try.prog 16 #[.int .i64 m] w fun e w' => ∃ b, e = .returned (.pointer (some ⟨b, 0, none⟩)) ∧ w.heap.size ≤ b ∧ RingH w' b w.heap.size n 0 0 ∧ RingA w' w.heap.size n (fun _ => (0, 0, 0, 0)) ∧ Below w.heap.size w w' := by
  obtain ⟨i0, hi, hz0, hz1, hz2⟩ := info_parts info32
  obtain ⟨w1, hrun, hown, hgrow⟩ := run_make_full (P := Try.prog) w w.heap.size 38 32 i0 _ 4 Try.underlying38 hi hz0 hz1 .i64 .i64 n (by rw [hz2]; omega) (by unfold maxLen; omega) (Nat.le_refl _)
  have HN := newEnd hown hgrow p0 p1
  have hlt : w.heap.size < w1.heap.size := by have := (HN 85).1.lg; have := (HN 85).1.ne; simp at *; omega
  have HN' := Lib.hid HN
  clear hown hgrow HN hi hz0 hz1 hz2
  rcases hm with ⟨hm, rfl⟩ | ⟨hm, rfl⟩ | ⟨hm, hm', rfl⟩
  all_goals
    (try push_cast at hrun)
    go_enter Try.func16, Try.ntmps16
    go_wp2
    refine ret_any ⟨_, by simp [results, Try.results16, go_sem]; rfl, ?_⟩ rfl
    exact ⟨_, rfl, Nat.le_of_lt hlt, HN'.out 85⟩
theorem newR (m : Int) (w : World) (h0 : -9223372036854775808 ≤ m) (h1 : m ≤ 9223372036854775807) : Calls Try.prog 16 #[.int .i64 m] w fun e w' => ∃ b, e = .returned (.pointer (some ⟨b, 0, none⟩)) ∧ w.heap.size ≤ b ∧ RingH w' b w.heap.size (max 1 (min m 256)).toNat 0 0 ∧ RingA w' w.heap.size (max 1 (min m 256)).toNat (fun _ => (0, 0, 0, 0)) ∧ Below w.heap.size w w' :=
  newMid _ w m h0 h1 (by omega) (by omega) (by omega)
end Go.Proofs.Ytjlclpdjblicjaa
