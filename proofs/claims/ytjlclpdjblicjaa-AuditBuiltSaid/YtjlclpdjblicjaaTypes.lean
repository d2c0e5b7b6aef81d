/-
  The struct types of this seat's programs: what of a struct that fits is known. No condition.
-/
import Derived.Test.YtjlclpdjblicjaaProg
import Derived.Test.YtjlclpdjblicjaaFit
namespace Go.Proofs.Ytjlclpdjblicjaa
open Go.RowKit
set_option linter.unusedVariables false
theorem cells_handle : Try.prog.cellsOf 30 = 2 := by kernel_rfl
theorem list_handle {l : List Value} (h : l.length = 2) : ∃ x0 x1, l = [x0, x1] := by
  match l, h with
  | [x0, x1], _ => exact ⟨x0, x1, rfl⟩
theorem fit_handle {w : World} {n : Nat} {cs : List Value} (h : FitW Try.prog w (n + 2) 30 cs) : ∃ (fSlot : Int) (fGen : Int), cs = [.int .i64 fSlot, .int .u32 fGen] ∧ -9223372036854775808 ≤ fSlot ∧ fSlot ≤ 9223372036854775807 ∧ 0 ≤ fGen ∧ fGen ≤ 4294967295 := by
  obtain ⟨hlen, h⟩ := fit_struct Try.underlying30 h
  rw [cells_handle] at hlen
  obtain ⟨x0, x1, rfl⟩ := list_handle hlen
  clear hlen
  obtain ⟨z0, e0, c0, d0⟩ := fit_i64 Try.underlying3 (h 0 _ rfl)
  simp [(show Try.prog.cellsOf 3 = 1 by kernel_rfl)] at e0
  obtain ⟨z1, e1, c1, d1⟩ := fit_u32 Try.underlying28 (h 1 _ rfl)
  simp [(show Try.prog.cellsOf 28 = 1 by kernel_rfl)] at e1
  subst e0
  subst e1
  exact ⟨z0, z1, rfl, c0, d0, c1, d1⟩
theorem arg_handle {w : World} {v : Value} (h : Arg Try.prog w 30 v) : ∃ (fSlot : Int) (fGen : Int), v = .agg #[.int .i64 fSlot, .int .u32 fGen] ∧ -9223372036854775808 ≤ fSlot ∧ fSlot ≤ 9223372036854775807 ∧ 0 ≤ fGen ∧ fGen ≤ 4294967295 := by
  obtain ⟨⟨l⟩, rfl, h'⟩ := arg_struct Try.underlying30 h
  obtain ⟨fSlot, fGen, e, k0, k1, k2, k3⟩ := fit_handle h'
  simp only at e
  subst e
  exact ⟨fSlot, fGen, rfl, k0, k1, k2, k3⟩

theorem cells_cell : Try.prog.cellsOf 32 = 4 := by kernel_rfl
theorem list_cell {l : List Value} (h : l.length = 4) : ∃ x0 x1 x2 x3, l = [x0, x1, x2, x3] := by
  match l, h with
  | [x0, x1, x2, x3], _ => exact ⟨x0, x1, x2, x3, rfl⟩
theorem fit_cell {w : World} {n : Nat} {cs : List Value} (h : FitW Try.prog w (n + 3) 32 cs) : ∃ (fEvent : Int) (fEpoch : Int) (hSlot : Int) (hGen : Int), cs = [.int .i64 fEvent, .int .i64 fEpoch, .int .i64 hSlot, .int .u32 hGen] ∧ -9223372036854775808 ≤ fEvent ∧ fEvent ≤ 9223372036854775807 ∧ -9223372036854775808 ≤ fEpoch ∧ fEpoch ≤ 9223372036854775807 ∧ -9223372036854775808 ≤ hSlot ∧ hSlot ≤ 9223372036854775807 ∧ 0 ≤ hGen ∧ hGen ≤ 4294967295 := by
  obtain ⟨hlen, h⟩ := fit_struct Try.underlying32 h
  rw [cells_cell] at hlen
  obtain ⟨x0, x1, x2, x3, rfl⟩ := list_cell hlen
  clear hlen
  obtain ⟨z0, e0, c0, d0⟩ := fit_i64 Try.underlying3 (h 0 _ rfl)
  simp [(show Try.prog.cellsOf 3 = 1 by kernel_rfl)] at e0
  obtain ⟨z1, e1, c1, d1⟩ := fit_i64 Try.underlying3 (h 1 _ rfl)
  simp [(show Try.prog.cellsOf 3 = 1 by kernel_rfl)] at e1
  obtain ⟨z2_0, z2_1, e2, c2_0, c2_1, c2_2, c2_3⟩ := fit_handle (h 2 _ rfl)
  simp [(show Try.prog.cellsOf 30 = 2 by kernel_rfl)] at e2
  subst e0
  subst e1
  obtain ⟨rfl, rfl⟩ := e2
  exact ⟨z0, z1, z2_0, z2_1, rfl, c0, d0, c1, d1, c2_0, c2_1, c2_2, c2_3⟩
theorem arg_cell {w : World} {v : Value} (h : Arg Try.prog w 32 v) : ∃ (fEvent : Int) (fEpoch : Int) (hSlot : Int) (hGen : Int), v = .agg #[.int .i64 fEvent, .int .i64 fEpoch, .int .i64 hSlot, .int .u32 hGen] ∧ -9223372036854775808 ≤ fEvent ∧ fEvent ≤ 9223372036854775807 ∧ -9223372036854775808 ≤ fEpoch ∧ fEpoch ≤ 9223372036854775807 ∧ -9223372036854775808 ≤ hSlot ∧ hSlot ≤ 9223372036854775807 ∧ 0 ≤ hGen ∧ hGen ≤ 4294967295 := by
  obtain ⟨⟨l⟩, rfl, h'⟩ := arg_struct Try.underlying32 h
  obtain ⟨fEvent, fEpoch, hSlot, hGen, e, k0, k1, k2, k3, k4, k5, k6, k7⟩ := fit_cell h'
  simp only at e
  subst e
  exact ⟨fEvent, fEpoch, hSlot, hGen, rfl, k0, k1, k2, k3, k4, k5, k6, k7⟩

theorem cells_patch : Try.prog.cellsOf 51 = 4 := by kernel_rfl
theorem list_patch {l : List Value} (h : l.length = 4) : ∃ x0 x1 x2 x3, l = [x0, x1, x2, x3] := by
  match l, h with
  | [x0, x1, x2, x3], _ => exact ⟨x0, x1, x2, x3, rfl⟩
theorem fit_patch {w : World} {n : Nat} {cs : List Value} (h : FitW Try.prog w (n + 2) 51 cs) : ∃ (fSeq : Int) (fTime : Int) (fSsrc : Int) (fFrame : Int), cs = [.int .u16 fSeq, .int .u32 fTime, .int .u32 fSsrc, .int .u16 fFrame] ∧ 0 ≤ fSeq ∧ fSeq ≤ 65535 ∧ 0 ≤ fTime ∧ fTime ≤ 4294967295 ∧ 0 ≤ fSsrc ∧ fSsrc ≤ 4294967295 ∧ 0 ≤ fFrame ∧ fFrame ≤ 65535 := by
  obtain ⟨hlen, h⟩ := fit_struct Try.underlying51 h
  rw [cells_patch] at hlen
  obtain ⟨x0, x1, x2, x3, rfl⟩ := list_patch hlen
  clear hlen
  obtain ⟨z0, e0, c0, d0⟩ := fit_u16 Try.underlying50 (h 0 _ rfl)
  simp [(show Try.prog.cellsOf 50 = 1 by kernel_rfl)] at e0
  obtain ⟨z1, e1, c1, d1⟩ := fit_u32 Try.underlying28 (h 1 _ rfl)
  simp [(show Try.prog.cellsOf 28 = 1 by kernel_rfl)] at e1
  obtain ⟨z2, e2, c2, d2⟩ := fit_u32 Try.underlying28 (h 2 _ rfl)
  simp [(show Try.prog.cellsOf 28 = 1 by kernel_rfl)] at e2
  obtain ⟨z3, e3, c3, d3⟩ := fit_u16 Try.underlying50 (h 3 _ rfl)
  simp [(show Try.prog.cellsOf 50 = 1 by kernel_rfl)] at e3
  subst e0
  subst e1
  subst e2
  subst e3
  exact ⟨z0, z1, z2, z3, rfl, c0, d0, c1, d1, c2, d2, c3, d3⟩
theorem arg_patch {w : World} {v : Value} (h : Arg Try.prog w 51 v) : ∃ (fSeq : Int) (fTime : Int) (fSsrc : Int) (fFrame : Int), v = .agg #[.int .u16 fSeq, .int .u32 fTime, .int .u32 fSsrc, .int .u16 fFrame] ∧ 0 ≤ fSeq ∧ fSeq ≤ 65535 ∧ 0 ≤ fTime ∧ fTime ≤ 4294967295 ∧ 0 ≤ fSsrc ∧ fSsrc ≤ 4294967295 ∧ 0 ≤ fFrame ∧ fFrame ≤ 65535 := by
  obtain ⟨⟨l⟩, rfl, h'⟩ := arg_struct Try.underlying51 h
  obtain ⟨fSeq, fTime, fSsrc, fFrame, e, k0, k1, k2, k3, k4, k5, k6, k7⟩ := fit_patch h'
  simp only at e
  subst e
  exact ⟨fSeq, fTime, fSsrc, fFrame, rfl, k0, k1, k2, k3, k4, k5, k6, k7⟩

theorem cells_entry : Try.prog.cellsOf 54 = 7 := by kernel_rfl
theorem list_entry {l : List Value} (h : l.length = 7) : ∃ x0 x1 x2 x3 x4 x5 x6, l = [x0, x1, x2, x3, x4, x5, x6] := by
  match l, h with
  | [x0, x1, x2, x3, x4, x5, x6], _ => exact ⟨x0, x1, x2, x3, x4, x5, x6, rfl⟩
theorem fit_entry {w : World} {n : Nat} {cs : List Value} (h : FitW Try.prog w (n + 3) 54 cs) : ∃ (fSeq : Int) (hSlot : Int) (hGen : Int) (pSeq : Int) (pTime : Int) (pSsrc : Int) (pFrame : Int), cs = [.int .u16 fSeq, .int .i64 hSlot, .int .u32 hGen, .int .u16 pSeq, .int .u32 pTime, .int .u32 pSsrc, .int .u16 pFrame] ∧ 0 ≤ fSeq ∧ fSeq ≤ 65535 ∧ -9223372036854775808 ≤ hSlot ∧ hSlot ≤ 9223372036854775807 ∧ 0 ≤ hGen ∧ hGen ≤ 4294967295 ∧ 0 ≤ pSeq ∧ pSeq ≤ 65535 ∧ 0 ≤ pTime ∧ pTime ≤ 4294967295 ∧ 0 ≤ pSsrc ∧ pSsrc ≤ 4294967295 ∧ 0 ≤ pFrame ∧ pFrame ≤ 65535 := by
  obtain ⟨hlen, h⟩ := fit_struct Try.underlying54 h
  rw [cells_entry] at hlen
  obtain ⟨x0, x1, x2, x3, x4, x5, x6, rfl⟩ := list_entry hlen
  clear hlen
  obtain ⟨z0, e0, c0, d0⟩ := fit_u16 Try.underlying50 (h 0 _ rfl)
  simp [(show Try.prog.cellsOf 50 = 1 by kernel_rfl)] at e0
  obtain ⟨z1_0, z1_1, e1, c1_0, c1_1, c1_2, c1_3⟩ := fit_handle (h 1 _ rfl)
  simp [(show Try.prog.cellsOf 30 = 2 by kernel_rfl)] at e1
  obtain ⟨z2_0, z2_1, z2_2, z2_3, e2, c2_0, c2_1, c2_2, c2_3, c2_4, c2_5, c2_6, c2_7⟩ := fit_patch (h 2 _ rfl)
  simp [(show Try.prog.cellsOf 52 = 4 by kernel_rfl)] at e2
  subst e0
  obtain ⟨rfl, rfl⟩ := e1
  obtain ⟨rfl, rfl, rfl, rfl⟩ := e2
  exact ⟨z0, z1_0, z1_1, z2_0, z2_1, z2_2, z2_3, rfl, c0, d0, c1_0, c1_1, c1_2, c1_3, c2_0, c2_1, c2_2, c2_3, c2_4, c2_5, c2_6, c2_7⟩
theorem arg_entry {w : World} {v : Value} (h : Arg Try.prog w 54 v) : ∃ (fSeq : Int) (hSlot : Int) (hGen : Int) (pSeq : Int) (pTime : Int) (pSsrc : Int) (pFrame : Int), v = .agg #[.int .u16 fSeq, .int .i64 hSlot, .int .u32 hGen, .int .u16 pSeq, .int .u32 pTime, .int .u32 pSsrc, .int .u16 pFrame] ∧ 0 ≤ fSeq ∧ fSeq ≤ 65535 ∧ -9223372036854775808 ≤ hSlot ∧ hSlot ≤ 9223372036854775807 ∧ 0 ≤ hGen ∧ hGen ≤ 4294967295 ∧ 0 ≤ pSeq ∧ pSeq ≤ 65535 ∧ 0 ≤ pTime ∧ pTime ≤ 4294967295 ∧ 0 ≤ pSsrc ∧ pSsrc ≤ 4294967295 ∧ 0 ≤ pFrame ∧ pFrame ≤ 65535 := by
  obtain ⟨⟨l⟩, rfl, h'⟩ := arg_struct Try.underlying54 h
  obtain ⟨fSeq, hSlot, hGen, pSeq, pTime, pSsrc, pFrame, e, k0, k1, k2, k3, k4, k5, k6, k7, k8, k9, k10, k11, k12, k13⟩ := fit_entry h'
  simp only at e
  subst e
  exact ⟨fSeq, hSlot, hGen, pSeq, pTime, pSsrc, pFrame, rfl, k0, k1, k2, k3, k4, k5, k6, k7, k8, k9, k10, k11, k12, k13⟩

end Go.Proofs.Ytjlclpdjblicjaa
