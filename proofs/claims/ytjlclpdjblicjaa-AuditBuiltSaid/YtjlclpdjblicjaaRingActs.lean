/-
  The calls that RingFirst and RingPlays are given: a slice of acts, read. No condition.
-/
import Derived.Test.YtjlclpdjblicjaaRingSame
namespace Go.Proofs.Ytjlclpdjblicjaa
open Go.RowKit Go.Sort Go.BigFrame
set_option linter.unusedVariables false
theorem cells_act : Try.prog.cellsOf 34 = 5 := by kernel_rfl
theorem list_act {l : List Value} (h : l.length = 5) : ∃ x0 x1 x2 x3 x4, l = [x0, x1, x2, x3, x4] := by
  match l, h with
  | [x0, x1, x2, x3, x4], _ => exact ⟨x0, x1, x2, x3, x4, rfl⟩
theorem fit_act {w : World} {n : Nat} {cs : List Value} (h : FitW Try.prog w (n + 4) 34 cs) : ∃ (fPop : Bool) (cEvent : Int) (cEpoch : Int) (chSlot : Int) (chGen : Int), cs = [.bool fPop, .int .i64 cEvent, .int .i64 cEpoch, .int .i64 chSlot, .int .u32 chGen] ∧ -9223372036854775808 ≤ cEvent ∧ cEvent ≤ 9223372036854775807 ∧ -9223372036854775808 ≤ cEpoch ∧ cEpoch ≤ 9223372036854775807 ∧ -9223372036854775808 ≤ chSlot ∧ chSlot ≤ 9223372036854775807 ∧ 0 ≤ chGen ∧ chGen ≤ 4294967295 := by
  obtain ⟨hlen, h⟩ := fit_struct Try.underlying34 h
  rw [cells_act] at hlen
  obtain ⟨x0, x1, x2, x3, x4, rfl⟩ := list_act hlen
  clear hlen
  obtain ⟨z0, e0⟩ := fit_bool Try.underlying4 (h 0 _ rfl)
  simp [(show Try.prog.cellsOf 4 = 1 by kernel_rfl)] at e0
  obtain ⟨z1_0, z1_1, z1_2, z1_3, e1, c1_0, c1_1, c1_2, c1_3, c1_4, c1_5, c1_6, c1_7⟩ := fit_cell (h 1 _ rfl)
  simp [(show Try.prog.cellsOf 32 = 4 by kernel_rfl)] at e1
  subst e0
  obtain ⟨rfl, rfl, rfl, rfl⟩ := e1
  exact ⟨z0, z1_0, z1_1, z1_2, z1_3, rfl, c1_0, c1_1, c1_2, c1_3, c1_4, c1_5, c1_6, c1_7⟩
theorem arg_act {w : World} {v : Value} (h : Arg Try.prog w 34 v) : ∃ (fPop : Bool) (cEvent : Int) (cEpoch : Int) (chSlot : Int) (chGen : Int), v = .agg #[.bool fPop, .int .i64 cEvent, .int .i64 cEpoch, .int .i64 chSlot, .int .u32 chGen] ∧ -9223372036854775808 ≤ cEvent ∧ cEvent ≤ 9223372036854775807 ∧ -9223372036854775808 ≤ cEpoch ∧ cEpoch ≤ 9223372036854775807 ∧ -9223372036854775808 ≤ chSlot ∧ chSlot ≤ 9223372036854775807 ∧ 0 ≤ chGen ∧ chGen ≤ 4294967295 := by
  obtain ⟨⟨l⟩, rfl, h'⟩ := arg_struct Try.underlying34 h
  obtain ⟨fPop, cEvent, cEpoch, chSlot, chGen, e, k0, k1, k2, k3, k4, k5, k6, k7⟩ := fit_act h'
  simp only at e
  subst e
  exact ⟨fPop, cEvent, cEpoch, chSlot, chGen, rfl, k0, k1, k2, k3, k4, k5, k6, k7⟩

/-- A slice of acts. -/
theorem fit_rowAct {w : World} {n t : Nat} {cs : List Value} (ht : t = 22) (h : FitW Try.prog w (n + 5) t cs) : ∃ (a : Option Addr) (len cap : Nat), cs = [.slice a len cap] ∧ len ≤ maxLen ∧
    ∀ i, i < len → ∃ b off p x y z u, a = some ⟨b, off, none⟩ ∧ b < w.heap.size ∧ w.cell? ⟨b, off + i * 5, none⟩ = some (.bool p) ∧ w.cell? ⟨b, off + i * 5 + 1, none⟩ = some (.int .i64 x) ∧ w.cell? ⟨b, off + i * 5 + 2, none⟩ = some (.int .i64 y) ∧ w.cell? ⟨b, off + i * 5 + 3, none⟩ = some (.int .i64 z) ∧ w.cell? ⟨b, off + i * 5 + 4, none⟩ = some (.int .u32 u) := by
  subst ht
  obtain ⟨a, len, cap, h1, h2, h3, h4, h5⟩ := fit_slice Try.underlying22 (show Try.prog.cellsOf 34 = 5 by kernel_rfl) (by omega) h
  refine ⟨a, len, cap, h1, by omega, fun i hi => ?_⟩
  obtain ⟨b, off, es, e1, e2, e3, e4, e5⟩ := h5 i hi
  obtain ⟨p, x, y, z, u, rfl, _⟩ := fit_act e5
  refine ⟨b, off, p, x, y, z, u, e1, e2, ?_, ?_, ?_, ?_, ?_⟩
  · simpa using e4 0 (by omega)
  · simpa using e4 1 (by omega)
  · simpa using e4 2 (by omega)
  · simpa using e4 3 (by omega)
  · simpa using e4 4 (by omega)
end Go.Proofs.Ytjlclpdjblicjaa
