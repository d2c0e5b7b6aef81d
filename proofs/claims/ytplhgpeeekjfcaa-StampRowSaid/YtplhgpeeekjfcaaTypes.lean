/-
  What the reading of an argument tells of its cells, for the structs of this translation. No condition.
-/
import Derived.Test.YtplhgpeeekjfcaaProg
import Derived.Test.YtplhgpeeekjfcaaFit
namespace Go.Proofs.Ytplhgpeeekjfcaa
open Go.RowKit
set_option linter.unusedVariables false
theorem cells_clock : Try.prog.cellsOf 24 = 3 := by kernel_rfl
theorem list_clock {l : List Value} (h : l.length = 3) : ∃ x0 x1 x2, l = [x0, x1, x2] := by
  match l, h with
  | [x0, x1, x2], _ => exact ⟨x0, x1, x2, rfl⟩
theorem fit_clock {w : World} {n : Nat} {cs : List Value} (h : FitW Try.prog w (n + 2) 24 cs) : ∃ (fAny : Bool) (fOff : Int) (fLast : Int), cs = [.bool fAny, .int .u32 fOff, .int .u32 fLast] ∧ 0 ≤ fOff ∧ fOff ≤ 4294967295 ∧ 0 ≤ fLast ∧ fLast ≤ 4294967295 := by
  obtain ⟨hlen, h⟩ := fit_struct Try.underlying24 h
  rw [cells_clock] at hlen
  obtain ⟨x0, x1, x2, rfl⟩ := list_clock hlen
  clear hlen
  obtain ⟨z0, e0⟩ := fit_bool Try.underlying4 (h 0 _ rfl)
  simp [(show Try.prog.cellsOf 4 = 1 by kernel_rfl)] at e0
  obtain ⟨z1, e1, c1, d1⟩ := fit_u32 Try.underlying22 (h 1 _ rfl)
  simp [(show Try.prog.cellsOf 22 = 1 by kernel_rfl)] at e1
  obtain ⟨z2, e2, c2, d2⟩ := fit_u32 Try.underlying22 (h 2 _ rfl)
  simp [(show Try.prog.cellsOf 22 = 1 by kernel_rfl)] at e2
  subst e0
  subst e1
  subst e2
  exact ⟨z0, z1, z2, rfl, c1, d1, c2, d2⟩
theorem arg_clock {w : World} {v : Value} (h : Arg Try.prog w 24 v) : ∃ (fAny : Bool) (fOff : Int) (fLast : Int), v = .agg #[.bool fAny, .int .u32 fOff, .int .u32 fLast] ∧ 0 ≤ fOff ∧ fOff ≤ 4294967295 ∧ 0 ≤ fLast ∧ fLast ≤ 4294967295 := by
  obtain ⟨⟨l⟩, rfl, h'⟩ := arg_struct Try.underlying24 h
  obtain ⟨fAny, fOff, fLast, e, k0, k1, k2, k3⟩ := fit_clock h'
  simp only at e
  subst e
  exact ⟨fAny, fOff, fLast, rfl, k0, k1, k2, k3⟩

theorem cells_course : Try.prog.cellsOf 36 = 4 := by kernel_rfl
theorem list_course {l : List Value} (h : l.length = 4) : ∃ x0 x1 x2 x3, l = [x0, x1, x2, x3] := by
  match l, h with
  | [x0, x1, x2, x3], _ => exact ⟨x0, x1, x2, x3, rfl⟩
theorem fit_course {w : World} {n : Nat} {cs : List Value} (h : FitW Try.prog w (n + 2) 36 cs) : ∃ (fLive : Bool) (fIn : Int) (fOff : Int) (fNext : Int), cs = [.bool fLive, .int .u16 fIn, .int .u16 fOff, .int .u16 fNext] ∧ 0 ≤ fIn ∧ fIn ≤ 65535 ∧ 0 ≤ fOff ∧ fOff ≤ 65535 ∧ 0 ≤ fNext ∧ fNext ≤ 65535 := by
  obtain ⟨hlen, h⟩ := fit_struct Try.underlying36 h
  rw [cells_course] at hlen
  obtain ⟨x0, x1, x2, x3, rfl⟩ := list_course hlen
  clear hlen
  obtain ⟨z0, e0⟩ := fit_bool Try.underlying4 (h 0 _ rfl)
  simp [(show Try.prog.cellsOf 4 = 1 by kernel_rfl)] at e0
  obtain ⟨z1, e1, c1, d1⟩ := fit_u16 Try.underlying34 (h 1 _ rfl)
  simp [(show Try.prog.cellsOf 34 = 1 by kernel_rfl)] at e1
  obtain ⟨z2, e2, c2, d2⟩ := fit_u16 Try.underlying34 (h 2 _ rfl)
  simp [(show Try.prog.cellsOf 34 = 1 by kernel_rfl)] at e2
  obtain ⟨z3, e3, c3, d3⟩ := fit_u16 Try.underlying34 (h 3 _ rfl)
  simp [(show Try.prog.cellsOf 34 = 1 by kernel_rfl)] at e3
  subst e0
  subst e1
  subst e2
  subst e3
  exact ⟨z0, z1, z2, z3, rfl, c1, d1, c2, d2, c3, d3⟩
theorem arg_course {w : World} {v : Value} (h : Arg Try.prog w 36 v) : ∃ (fLive : Bool) (fIn : Int) (fOff : Int) (fNext : Int), v = .agg #[.bool fLive, .int .u16 fIn, .int .u16 fOff, .int .u16 fNext] ∧ 0 ≤ fIn ∧ fIn ≤ 65535 ∧ 0 ≤ fOff ∧ fOff ≤ 65535 ∧ 0 ≤ fNext ∧ fNext ≤ 65535 := by
  obtain ⟨⟨l⟩, rfl, h'⟩ := arg_struct Try.underlying36 h
  obtain ⟨fLive, fIn, fOff, fNext, e, k0, k1, k2, k3, k4, k5⟩ := fit_course h'
  simp only at e
  subst e
  exact ⟨fLive, fIn, fOff, fNext, rfl, k0, k1, k2, k3, k4, k5⟩

theorem cells_gate : Try.prog.cellsOf 49 = 4 := by kernel_rfl
theorem list_gate {l : List Value} (h : l.length = 4) : ∃ x0 x1 x2 x3, l = [x0, x1, x2, x3] := by
  match l, h with
  | [x0, x1, x2, x3], _ => exact ⟨x0, x1, x2, x3, rfl⟩
theorem fit_gate {w : World} {n : Nat} {cs : List Value} (h : FitW Try.prog w (n + 2) 49 cs) : ∃ (fWant : Int) (fCur : Int) (fPaused : Bool) (fMuted : Bool), cs = [.int .i64 fWant, .int .i64 fCur, .bool fPaused, .bool fMuted] ∧ -9223372036854775808 ≤ fWant ∧ fWant ≤ 9223372036854775807 ∧ -9223372036854775808 ≤ fCur ∧ fCur ≤ 9223372036854775807 := by
  obtain ⟨hlen, h⟩ := fit_struct Try.underlying49 h
  rw [cells_gate] at hlen
  obtain ⟨x0, x1, x2, x3, rfl⟩ := list_gate hlen
  clear hlen
  obtain ⟨z0, e0, c0, d0⟩ := fit_i64 Try.underlying3 (h 0 _ rfl)
  simp [(show Try.prog.cellsOf 3 = 1 by kernel_rfl)] at e0
  obtain ⟨z1, e1, c1, d1⟩ := fit_i64 Try.underlying3 (h 1 _ rfl)
  simp [(show Try.prog.cellsOf 3 = 1 by kernel_rfl)] at e1
  obtain ⟨z2, e2⟩ := fit_bool Try.underlying4 (h 2 _ rfl)
  simp [(show Try.prog.cellsOf 4 = 1 by kernel_rfl)] at e2
  obtain ⟨z3, e3⟩ := fit_bool Try.underlying4 (h 3 _ rfl)
  simp [(show Try.prog.cellsOf 4 = 1 by kernel_rfl)] at e3
  subst e0
  subst e1
  subst e2
  subst e3
  exact ⟨z0, z1, z2, z3, rfl, c0, d0, c1, d1⟩
theorem arg_gate {w : World} {v : Value} (h : Arg Try.prog w 49 v) : ∃ (fWant : Int) (fCur : Int) (fPaused : Bool) (fMuted : Bool), v = .agg #[.int .i64 fWant, .int .i64 fCur, .bool fPaused, .bool fMuted] ∧ -9223372036854775808 ≤ fWant ∧ fWant ≤ 9223372036854775807 ∧ -9223372036854775808 ≤ fCur ∧ fCur ≤ 9223372036854775807 := by
  obtain ⟨⟨l⟩, rfl, h'⟩ := arg_struct Try.underlying49 h
  obtain ⟨fWant, fCur, fPaused, fMuted, e, k0, k1, k2, k3⟩ := fit_gate h'
  simp only at e
  subst e
  exact ⟨fWant, fCur, fPaused, fMuted, rfl, k0, k1, k2, k3⟩

theorem cells_gact : Try.prog.cellsOf 59 = 3 := by kernel_rfl
theorem list_gact {l : List Value} (h : l.length = 3) : ∃ x0 x1 x2, l = [x0, x1, x2] := by
  match l, h with
  | [x0, x1, x2], _ => exact ⟨x0, x1, x2, rfl⟩
theorem fit_gact {w : World} {n : Nat} {cs : List Value} (h : FitW Try.prog w (n + 2) 59 cs) : ∃ (fKind : Int) (fLayer : Int) (fOn : Bool), cs = [.int .i64 fKind, .int .i64 fLayer, .bool fOn] ∧ -9223372036854775808 ≤ fKind ∧ fKind ≤ 9223372036854775807 ∧ -9223372036854775808 ≤ fLayer ∧ fLayer ≤ 9223372036854775807 := by
  obtain ⟨hlen, h⟩ := fit_struct Try.underlying59 h
  rw [cells_gact] at hlen
  obtain ⟨x0, x1, x2, rfl⟩ := list_gact hlen
  clear hlen
  obtain ⟨z0, e0, c0, d0⟩ := fit_i64 Try.underlying3 (h 0 _ rfl)
  simp [(show Try.prog.cellsOf 3 = 1 by kernel_rfl)] at e0
  obtain ⟨z1, e1, c1, d1⟩ := fit_i64 Try.underlying3 (h 1 _ rfl)
  simp [(show Try.prog.cellsOf 3 = 1 by kernel_rfl)] at e1
  obtain ⟨z2, e2⟩ := fit_bool Try.underlying4 (h 2 _ rfl)
  simp [(show Try.prog.cellsOf 4 = 1 by kernel_rfl)] at e2
  subst e0
  subst e1
  subst e2
  exact ⟨z0, z1, z2, rfl, c0, d0, c1, d1⟩
theorem arg_gact {w : World} {v : Value} (h : Arg Try.prog w 59 v) : ∃ (fKind : Int) (fLayer : Int) (fOn : Bool), v = .agg #[.int .i64 fKind, .int .i64 fLayer, .bool fOn] ∧ -9223372036854775808 ≤ fKind ∧ fKind ≤ 9223372036854775807 ∧ -9223372036854775808 ≤ fLayer ∧ fLayer ≤ 9223372036854775807 := by
  obtain ⟨⟨l⟩, rfl, h'⟩ := arg_struct Try.underlying59 h
  obtain ⟨fKind, fLayer, fOn, e, k0, k1, k2, k3⟩ := fit_gact h'
  simp only at e
  subst e
  exact ⟨fKind, fLayer, fOn, rfl, k0, k1, k2, k3⟩

theorem cells_track : Try.prog.cellsOf 64 = 15 := by kernel_rfl
theorem list_track {l : List Value} (h : l.length = 15) : ∃ x0 x1 x2 x3 x4 x5 x6 x7 x8 x9 x10 x11 x12 x13 x14, l = [x0, x1, x2, x3, x4, x5, x6, x7, x8, x9, x10, x11, x12, x13, x14] := by
  match l, h with
  | [x0, x1, x2, x3, x4, x5, x6, x7, x8, x9, x10, x11, x12, x13, x14], _ => exact ⟨x0, x1, x2, x3, x4, x5, x6, x7, x8, x9, x10, x11, x12, x13, x14, rfl⟩
theorem fit_track {w : World} {n : Nat} {cs : List Value} (h : FitW Try.prog w (n + 3) 64 cs) : ∃ (gateWant : Int) (gateCur : Int) (gatePaused : Bool) (gateMuted : Bool) (courseLive : Bool) (courseIn : Int) (courseOff : Int) (courseNext : Int) (clockAny : Bool) (clockOff : Int) (clockLast : Int) (fOut : Int) (fFrame : Int) (fSent : Int) (fOctets : Int), cs = [.int .i64 gateWant, .int .i64 gateCur, .bool gatePaused, .bool gateMuted, .bool courseLive, .int .u16 courseIn, .int .u16 courseOff, .int .u16 courseNext, .bool clockAny, .int .u32 clockOff, .int .u32 clockLast, .int .u32 fOut, .int .u16 fFrame, .int .u32 fSent, .int .u32 fOctets] ∧ -9223372036854775808 ≤ gateWant ∧ gateWant ≤ 9223372036854775807 ∧ -9223372036854775808 ≤ gateCur ∧ gateCur ≤ 9223372036854775807 ∧ 0 ≤ courseIn ∧ courseIn ≤ 65535 ∧ 0 ≤ courseOff ∧ courseOff ≤ 65535 ∧ 0 ≤ courseNext ∧ courseNext ≤ 65535 ∧ 0 ≤ clockOff ∧ clockOff ≤ 4294967295 ∧ 0 ≤ clockLast ∧ clockLast ≤ 4294967295 ∧ 0 ≤ fOut ∧ fOut ≤ 4294967295 ∧ 0 ≤ fFrame ∧ fFrame ≤ 65535 ∧ 0 ≤ fSent ∧ fSent ≤ 4294967295 ∧ 0 ≤ fOctets ∧ fOctets ≤ 4294967295 := by
  obtain ⟨hlen, h⟩ := fit_struct Try.underlying64 h
  rw [cells_track] at hlen
  obtain ⟨x0, x1, x2, x3, x4, x5, x6, x7, x8, x9, x10, x11, x12, x13, x14, rfl⟩ := list_track hlen
  clear hlen
  obtain ⟨z0_0, z0_1, z0_2, z0_3, e0, c0_0, c0_1, c0_2, c0_3⟩ := fit_gate (h 0 _ rfl)
  simp [(show Try.prog.cellsOf 49 = 4 by kernel_rfl)] at e0
  obtain ⟨z1_0, z1_1, z1_2, z1_3, e1, c1_0, c1_1, c1_2, c1_3, c1_4, c1_5⟩ := fit_course (h 1 _ rfl)
  simp [(show Try.prog.cellsOf 36 = 4 by kernel_rfl)] at e1
  obtain ⟨z2_0, z2_1, z2_2, e2, c2_0, c2_1, c2_2, c2_3⟩ := fit_clock (h 2 _ rfl)
  simp [(show Try.prog.cellsOf 24 = 3 by kernel_rfl)] at e2
  obtain ⟨z3, e3, c3, d3⟩ := fit_u32 Try.underlying22 (h 3 _ rfl)
  simp [(show Try.prog.cellsOf 22 = 1 by kernel_rfl)] at e3
  obtain ⟨z4, e4, c4, d4⟩ := fit_u16 Try.underlying34 (h 4 _ rfl)
  simp [(show Try.prog.cellsOf 34 = 1 by kernel_rfl)] at e4
  obtain ⟨z5, e5, c5, d5⟩ := fit_u32 Try.underlying22 (h 5 _ rfl)
  simp [(show Try.prog.cellsOf 22 = 1 by kernel_rfl)] at e5
  obtain ⟨z6, e6, c6, d6⟩ := fit_u32 Try.underlying22 (h 6 _ rfl)
  simp [(show Try.prog.cellsOf 22 = 1 by kernel_rfl)] at e6
  obtain ⟨rfl, rfl, rfl, rfl⟩ := e0
  obtain ⟨rfl, rfl, rfl, rfl⟩ := e1
  obtain ⟨rfl, rfl, rfl⟩ := e2
  subst e3
  subst e4
  subst e5
  subst e6
  exact ⟨z0_0, z0_1, z0_2, z0_3, z1_0, z1_1, z1_2, z1_3, z2_0, z2_1, z2_2, z3, z4, z5, z6, rfl, c0_0, c0_1, c0_2, c0_3, c1_0, c1_1, c1_2, c1_3, c1_4, c1_5, c2_0, c2_1, c2_2, c2_3, c3, d3, c4, d4, c5, d5, c6, d6⟩
theorem arg_track {w : World} {v : Value} (h : Arg Try.prog w 64 v) : ∃ (gateWant : Int) (gateCur : Int) (gatePaused : Bool) (gateMuted : Bool) (courseLive : Bool) (courseIn : Int) (courseOff : Int) (courseNext : Int) (clockAny : Bool) (clockOff : Int) (clockLast : Int) (fOut : Int) (fFrame : Int) (fSent : Int) (fOctets : Int), v = .agg #[.int .i64 gateWant, .int .i64 gateCur, .bool gatePaused, .bool gateMuted, .bool courseLive, .int .u16 courseIn, .int .u16 courseOff, .int .u16 courseNext, .bool clockAny, .int .u32 clockOff, .int .u32 clockLast, .int .u32 fOut, .int .u16 fFrame, .int .u32 fSent, .int .u32 fOctets] ∧ -9223372036854775808 ≤ gateWant ∧ gateWant ≤ 9223372036854775807 ∧ -9223372036854775808 ≤ gateCur ∧ gateCur ≤ 9223372036854775807 ∧ 0 ≤ courseIn ∧ courseIn ≤ 65535 ∧ 0 ≤ courseOff ∧ courseOff ≤ 65535 ∧ 0 ≤ courseNext ∧ courseNext ≤ 65535 ∧ 0 ≤ clockOff ∧ clockOff ≤ 4294967295 ∧ 0 ≤ clockLast ∧ clockLast ≤ 4294967295 ∧ 0 ≤ fOut ∧ fOut ≤ 4294967295 ∧ 0 ≤ fFrame ∧ fFrame ≤ 65535 ∧ 0 ≤ fSent ∧ fSent ≤ 4294967295 ∧ 0 ≤ fOctets ∧ fOctets ≤ 4294967295 := by
  obtain ⟨⟨l⟩, rfl, h'⟩ := arg_struct Try.underlying64 h
  obtain ⟨gateWant, gateCur, gatePaused, gateMuted, courseLive, courseIn, courseOff, courseNext, clockAny, clockOff, clockLast, fOut, fFrame, fSent, fOctets, e, k0, k1, k2, k3, k4, k5, k6, k7, k8, k9, k10, k11, k12, k13, k14, k15, k16, k17, k18, k19, k20, k21⟩ := fit_track h'
  simp only at e
  subst e
  exact ⟨gateWant, gateCur, gatePaused, gateMuted, courseLive, courseIn, courseOff, courseNext, clockAny, clockOff, clockLast, fOut, fFrame, fSent, fOctets, rfl, k0, k1, k2, k3, k4, k5, k6, k7, k8, k9, k10, k11, k12, k13, k14, k15, k16, k17, k18, k19, k20, k21⟩

theorem cells_packet : Try.prog.cellsOf 67 = 11 := by kernel_rfl
theorem list_packet {l : List Value} (h : l.length = 11) : ∃ x0 x1 x2 x3 x4 x5 x6 x7 x8 x9 x10, l = [x0, x1, x2, x3, x4, x5, x6, x7, x8, x9, x10] := by
  match l, h with
  | [x0, x1, x2, x3, x4, x5, x6, x7, x8, x9, x10], _ => exact ⟨x0, x1, x2, x3, x4, x5, x6, x7, x8, x9, x10, rfl⟩
theorem fit_packet {w : World} {n : Nat} {cs : List Value} (h : FitW Try.prog w (n + 2) 67 cs) : ∃ (fMarker : Bool) (fType : Int) (fSeq : Int) (fTime : Int) (fSsrc : Int) (fCsrcA : Option Addr) (fCsrcL : Nat) (fCsrcC : Nat) (fHasExt : Bool) (fProfile : Int) (fExtA : Option Addr) (fExtL : Nat) (fExtC : Nat) (fPayloadA : Option Addr) (fPayloadL : Nat) (fPayloadC : Nat) (fPad : Int), cs = [.bool fMarker, .int .i64 fType, .int .u16 fSeq, .int .u32 fTime, .int .u32 fSsrc, .slice fCsrcA fCsrcL fCsrcC, .bool fHasExt, .int .u16 fProfile, .slice fExtA fExtL fExtC, .slice fPayloadA fPayloadL fPayloadC, .int .i64 fPad] ∧ -9223372036854775808 ≤ fType ∧ fType ≤ 9223372036854775807 ∧ 0 ≤ fSeq ∧ fSeq ≤ 65535 ∧ 0 ≤ fTime ∧ fTime ≤ 4294967295 ∧ 0 ≤ fSsrc ∧ fSsrc ≤ 4294967295 ∧ fCsrcL ≤ fCsrcC ∧ fCsrcC ≤ maxLen ∧ 0 ≤ fProfile ∧ fProfile ≤ 65535 ∧ fExtL ≤ fExtC ∧ fExtC ≤ maxLen ∧ fPayloadL ≤ fPayloadC ∧ fPayloadC ≤ maxLen ∧ -9223372036854775808 ≤ fPad ∧ fPad ≤ 9223372036854775807 := by
  obtain ⟨hlen, h⟩ := fit_struct Try.underlying67 h
  rw [cells_packet] at hlen
  obtain ⟨x0, x1, x2, x3, x4, x5, x6, x7, x8, x9, x10, rfl⟩ := list_packet hlen
  clear hlen
  obtain ⟨z0, e0⟩ := fit_bool Try.underlying4 (h 0 _ rfl)
  simp [(show Try.prog.cellsOf 4 = 1 by kernel_rfl)] at e0
  obtain ⟨z1, e1, c1, d1⟩ := fit_i64 Try.underlying3 (h 1 _ rfl)
  simp [(show Try.prog.cellsOf 3 = 1 by kernel_rfl)] at e1
  obtain ⟨z2, e2, c2, d2⟩ := fit_u16 Try.underlying34 (h 2 _ rfl)
  simp [(show Try.prog.cellsOf 34 = 1 by kernel_rfl)] at e2
  obtain ⟨z3, e3, c3, d3⟩ := fit_u32 Try.underlying22 (h 3 _ rfl)
  simp [(show Try.prog.cellsOf 22 = 1 by kernel_rfl)] at e3
  obtain ⟨z4, e4, c4, d4⟩ := fit_u32 Try.underlying22 (h 4 _ rfl)
  simp [(show Try.prog.cellsOf 22 = 1 by kernel_rfl)] at e4
  obtain ⟨z5A, z5L, z5C, e5, c5, d5, _⟩ := fit_slice0 Try.underlying31 (h 5 _ rfl)
  simp [(show Try.prog.cellsOf 31 = 1 by kernel_rfl)] at e5
  obtain ⟨z6, e6⟩ := fit_bool Try.underlying4 (h 6 _ rfl)
  simp [(show Try.prog.cellsOf 4 = 1 by kernel_rfl)] at e6
  obtain ⟨z7, e7, c7, d7⟩ := fit_u16 Try.underlying34 (h 7 _ rfl)
  simp [(show Try.prog.cellsOf 34 = 1 by kernel_rfl)] at e7
  obtain ⟨z8A, z8L, z8C, e8, c8, d8, _⟩ := fit_slice0 Try.underlying65 (h 8 _ rfl)
  simp [(show Try.prog.cellsOf 65 = 1 by kernel_rfl)] at e8
  obtain ⟨z9A, z9L, z9C, e9, c9, d9, _⟩ := fit_slice0 Try.underlying65 (h 9 _ rfl)
  simp [(show Try.prog.cellsOf 65 = 1 by kernel_rfl)] at e9
  obtain ⟨z10, e10, c10, d10⟩ := fit_i64 Try.underlying3 (h 10 _ rfl)
  simp [(show Try.prog.cellsOf 3 = 1 by kernel_rfl)] at e10
  subst e0
  subst e1
  subst e2
  subst e3
  subst e4
  subst e5
  subst e6
  subst e7
  subst e8
  subst e9
  subst e10
  exact ⟨z0, z1, z2, z3, z4, z5A, z5L, z5C, z6, z7, z8A, z8L, z8C, z9A, z9L, z9C, z10, rfl, c1, d1, c2, d2, c3, d3, c4, d4, c5, d5, c7, d7, c8, d8, c9, d9, c10, d10⟩
theorem arg_packet {w : World} {v : Value} (h : Arg Try.prog w 67 v) : ∃ (fMarker : Bool) (fType : Int) (fSeq : Int) (fTime : Int) (fSsrc : Int) (fCsrcA : Option Addr) (fCsrcL : Nat) (fCsrcC : Nat) (fHasExt : Bool) (fProfile : Int) (fExtA : Option Addr) (fExtL : Nat) (fExtC : Nat) (fPayloadA : Option Addr) (fPayloadL : Nat) (fPayloadC : Nat) (fPad : Int), v = .agg #[.bool fMarker, .int .i64 fType, .int .u16 fSeq, .int .u32 fTime, .int .u32 fSsrc, .slice fCsrcA fCsrcL fCsrcC, .bool fHasExt, .int .u16 fProfile, .slice fExtA fExtL fExtC, .slice fPayloadA fPayloadL fPayloadC, .int .i64 fPad] ∧ -9223372036854775808 ≤ fType ∧ fType ≤ 9223372036854775807 ∧ 0 ≤ fSeq ∧ fSeq ≤ 65535 ∧ 0 ≤ fTime ∧ fTime ≤ 4294967295 ∧ 0 ≤ fSsrc ∧ fSsrc ≤ 4294967295 ∧ fCsrcL ≤ fCsrcC ∧ fCsrcC ≤ maxLen ∧ 0 ≤ fProfile ∧ fProfile ≤ 65535 ∧ fExtL ≤ fExtC ∧ fExtC ≤ maxLen ∧ fPayloadL ≤ fPayloadC ∧ fPayloadC ≤ maxLen ∧ -9223372036854775808 ≤ fPad ∧ fPad ≤ 9223372036854775807 := by
  obtain ⟨⟨l⟩, rfl, h'⟩ := arg_struct Try.underlying67 h
  obtain ⟨fMarker, fType, fSeq, fTime, fSsrc, fCsrcA, fCsrcL, fCsrcC, fHasExt, fProfile, fExtA, fExtL, fExtC, fPayloadA, fPayloadL, fPayloadC, fPad, e, k0, k1, k2, k3, k4, k5, k6, k7, k8, k9, k10, k11, k12, k13, k14, k15, k16, k17⟩ := fit_packet h'
  simp only at e
  subst e
  exact ⟨fMarker, fType, fSeq, fTime, fSsrc, fCsrcA, fCsrcL, fCsrcC, fHasExt, fProfile, fExtA, fExtL, fExtC, fPayloadA, fPayloadL, fPayloadC, fPad, rfl, k0, k1, k2, k3, k4, k5, k6, k7, k8, k9, k10, k11, k12, k13, k14, k15, k16, k17⟩

theorem cells_desc : Try.prog.cellsOf 69 = 4 := by kernel_rfl
theorem list_desc {l : List Value} (h : l.length = 4) : ∃ x0 x1 x2 x3, l = [x0, x1, x2, x3] := by
  match l, h with
  | [x0, x1, x2, x3], _ => exact ⟨x0, x1, x2, x3, rfl⟩
theorem fit_desc {w : World} {n : Nat} {cs : List Value} (h : FitW Try.prog w (n + 2) 69 cs) : ∃ (fLayer : Int) (fKey : Bool) (fStart : Bool) (fFrame : Int), cs = [.int .i64 fLayer, .bool fKey, .bool fStart, .int .u16 fFrame] ∧ -9223372036854775808 ≤ fLayer ∧ fLayer ≤ 9223372036854775807 ∧ 0 ≤ fFrame ∧ fFrame ≤ 65535 := by
  obtain ⟨hlen, h⟩ := fit_struct Try.underlying69 h
  rw [cells_desc] at hlen
  obtain ⟨x0, x1, x2, x3, rfl⟩ := list_desc hlen
  clear hlen
  obtain ⟨z0, e0, c0, d0⟩ := fit_i64 Try.underlying3 (h 0 _ rfl)
  simp [(show Try.prog.cellsOf 3 = 1 by kernel_rfl)] at e0
  obtain ⟨z1, e1⟩ := fit_bool Try.underlying4 (h 1 _ rfl)
  simp [(show Try.prog.cellsOf 4 = 1 by kernel_rfl)] at e1
  obtain ⟨z2, e2⟩ := fit_bool Try.underlying4 (h 2 _ rfl)
  simp [(show Try.prog.cellsOf 4 = 1 by kernel_rfl)] at e2
  obtain ⟨z3, e3, c3, d3⟩ := fit_u16 Try.underlying34 (h 3 _ rfl)
  simp [(show Try.prog.cellsOf 34 = 1 by kernel_rfl)] at e3
  subst e0
  subst e1
  subst e2
  subst e3
  exact ⟨z0, z1, z2, z3, rfl, c0, d0, c3, d3⟩
theorem arg_desc {w : World} {v : Value} (h : Arg Try.prog w 69 v) : ∃ (fLayer : Int) (fKey : Bool) (fStart : Bool) (fFrame : Int), v = .agg #[.int .i64 fLayer, .bool fKey, .bool fStart, .int .u16 fFrame] ∧ -9223372036854775808 ≤ fLayer ∧ fLayer ≤ 9223372036854775807 ∧ 0 ≤ fFrame ∧ fFrame ≤ 65535 := by
  obtain ⟨⟨l⟩, rfl, h'⟩ := arg_struct Try.underlying69 h
  obtain ⟨fLayer, fKey, fStart, fFrame, e, k0, k1, k2, k3⟩ := fit_desc h'
  simp only at e
  subst e
  exact ⟨fLayer, fKey, fStart, fFrame, rfl, k0, k1, k2, k3⟩

theorem cells_item : Try.prog.cellsOf 79 = 10 := by kernel_rfl
theorem list_item {l : List Value} (h : l.length = 10) : ∃ x0 x1 x2 x3 x4 x5 x6 x7 x8 x9, l = [x0, x1, x2, x3, x4, x5, x6, x7, x8, x9] := by
  match l, h with
  | [x0, x1, x2, x3, x4, x5, x6, x7, x8, x9], _ => exact ⟨x0, x1, x2, x3, x4, x5, x6, x7, x8, x9, rfl⟩
theorem fit_item {w : World} {n : Nat} {cs : List Value} (h : FitW Try.prog w (n + 2) 79 cs) : ∃ (fKind : Int) (fSsrc : Int) (fNtp : Int) (fTime : Int) (fPackets : Int) (fOctets : Int) (fBlocksA : Option Addr) (fBlocksL : Nat) (fBlocksC : Nat) (fGoneA : Option Addr) (fGoneL : Nat) (fGoneC : Nat) (fMedia : Int) (fPairsA : Option Addr) (fPairsL : Nat) (fPairsC : Nat), cs = [.int .i64 fKind, .int .u32 fSsrc, .int .u64 fNtp, .int .u32 fTime, .int .u32 fPackets, .int .u32 fOctets, .slice fBlocksA fBlocksL fBlocksC, .slice fGoneA fGoneL fGoneC, .int .u32 fMedia, .slice fPairsA fPairsL fPairsC] ∧ -9223372036854775808 ≤ fKind ∧ fKind ≤ 9223372036854775807 ∧ 0 ≤ fSsrc ∧ fSsrc ≤ 4294967295 ∧ 0 ≤ fNtp ∧ fNtp ≤ 18446744073709551615 ∧ 0 ≤ fTime ∧ fTime ≤ 4294967295 ∧ 0 ≤ fPackets ∧ fPackets ≤ 4294967295 ∧ 0 ≤ fOctets ∧ fOctets ≤ 4294967295 ∧ fBlocksL ≤ fBlocksC ∧ fBlocksC ≤ maxLen ∧ fGoneL ≤ fGoneC ∧ fGoneC ≤ maxLen ∧ 0 ≤ fMedia ∧ fMedia ≤ 4294967295 ∧ fPairsL ≤ fPairsC ∧ fPairsC ≤ maxLen := by
  obtain ⟨hlen, h⟩ := fit_struct Try.underlying79 h
  rw [cells_item] at hlen
  obtain ⟨x0, x1, x2, x3, x4, x5, x6, x7, x8, x9, rfl⟩ := list_item hlen
  clear hlen
  obtain ⟨z0, e0, c0, d0⟩ := fit_i64 Try.underlying3 (h 0 _ rfl)
  simp [(show Try.prog.cellsOf 3 = 1 by kernel_rfl)] at e0
  obtain ⟨z1, e1, c1, d1⟩ := fit_u32 Try.underlying22 (h 1 _ rfl)
  simp [(show Try.prog.cellsOf 22 = 1 by kernel_rfl)] at e1
  obtain ⟨z2, e2, c2, d2⟩ := fit_u64 Try.underlying75 (h 2 _ rfl)
  simp [(show Try.prog.cellsOf 75 = 1 by kernel_rfl)] at e2
  obtain ⟨z3, e3, c3, d3⟩ := fit_u32 Try.underlying22 (h 3 _ rfl)
  simp [(show Try.prog.cellsOf 22 = 1 by kernel_rfl)] at e3
  obtain ⟨z4, e4, c4, d4⟩ := fit_u32 Try.underlying22 (h 4 _ rfl)
  simp [(show Try.prog.cellsOf 22 = 1 by kernel_rfl)] at e4
  obtain ⟨z5, e5, c5, d5⟩ := fit_u32 Try.underlying22 (h 5 _ rfl)
  simp [(show Try.prog.cellsOf 22 = 1 by kernel_rfl)] at e5
  obtain ⟨z6A, z6L, z6C, e6, c6, d6, _⟩ := fit_slice0 Try.underlying76 (h 6 _ rfl)
  simp [(show Try.prog.cellsOf 76 = 1 by kernel_rfl)] at e6
  obtain ⟨z7A, z7L, z7C, e7, c7, d7, _⟩ := fit_slice0 Try.underlying31 (h 7 _ rfl)
  simp [(show Try.prog.cellsOf 31 = 1 by kernel_rfl)] at e7
  obtain ⟨z8, e8, c8, d8⟩ := fit_u32 Try.underlying22 (h 8 _ rfl)
  simp [(show Try.prog.cellsOf 22 = 1 by kernel_rfl)] at e8
  obtain ⟨z9A, z9L, z9C, e9, c9, d9, _⟩ := fit_slice0 Try.underlying77 (h 9 _ rfl)
  simp [(show Try.prog.cellsOf 77 = 1 by kernel_rfl)] at e9
  subst e0
  subst e1
  subst e2
  subst e3
  subst e4
  subst e5
  subst e6
  subst e7
  subst e8
  subst e9
  exact ⟨z0, z1, z2, z3, z4, z5, z6A, z6L, z6C, z7A, z7L, z7C, z8, z9A, z9L, z9C, rfl, c0, d0, c1, d1, c2, d2, c3, d3, c4, d4, c5, d5, c6, d6, c7, d7, c8, d8, c9, d9⟩
theorem arg_item {w : World} {v : Value} (h : Arg Try.prog w 79 v) : ∃ (fKind : Int) (fSsrc : Int) (fNtp : Int) (fTime : Int) (fPackets : Int) (fOctets : Int) (fBlocksA : Option Addr) (fBlocksL : Nat) (fBlocksC : Nat) (fGoneA : Option Addr) (fGoneL : Nat) (fGoneC : Nat) (fMedia : Int) (fPairsA : Option Addr) (fPairsL : Nat) (fPairsC : Nat), v = .agg #[.int .i64 fKind, .int .u32 fSsrc, .int .u64 fNtp, .int .u32 fTime, .int .u32 fPackets, .int .u32 fOctets, .slice fBlocksA fBlocksL fBlocksC, .slice fGoneA fGoneL fGoneC, .int .u32 fMedia, .slice fPairsA fPairsL fPairsC] ∧ -9223372036854775808 ≤ fKind ∧ fKind ≤ 9223372036854775807 ∧ 0 ≤ fSsrc ∧ fSsrc ≤ 4294967295 ∧ 0 ≤ fNtp ∧ fNtp ≤ 18446744073709551615 ∧ 0 ≤ fTime ∧ fTime ≤ 4294967295 ∧ 0 ≤ fPackets ∧ fPackets ≤ 4294967295 ∧ 0 ≤ fOctets ∧ fOctets ≤ 4294967295 ∧ fBlocksL ≤ fBlocksC ∧ fBlocksC ≤ maxLen ∧ fGoneL ≤ fGoneC ∧ fGoneC ≤ maxLen ∧ 0 ≤ fMedia ∧ fMedia ≤ 4294967295 ∧ fPairsL ≤ fPairsC ∧ fPairsC ≤ maxLen := by
  obtain ⟨⟨l⟩, rfl, h'⟩ := arg_struct Try.underlying79 h
  obtain ⟨fKind, fSsrc, fNtp, fTime, fPackets, fOctets, fBlocksA, fBlocksL, fBlocksC, fGoneA, fGoneL, fGoneC, fMedia, fPairsA, fPairsL, fPairsC, e, k0, k1, k2, k3, k4, k5, k6, k7, k8, k9, k10, k11, k12, k13, k14, k15, k16, k17, k18, k19⟩ := fit_item h'
  simp only at e
  subst e
  exact ⟨fKind, fSsrc, fNtp, fTime, fPackets, fOctets, fBlocksA, fBlocksL, fBlocksC, fGoneA, fGoneL, fGoneC, fMedia, fPairsA, fPairsL, fPairsC, rfl, k0, k1, k2, k3, k4, k5, k6, k7, k8, k9, k10, k11, k12, k13, k14, k15, k16, k17, k18, k19⟩

theorem cells_sact : Try.prog.cellsOf 91 = 7 := by kernel_rfl
theorem list_sact {l : List Value} (h : l.length = 7) : ∃ x0 x1 x2 x3 x4 x5 x6, l = [x0, x1, x2, x3, x4, x5, x6] := by
  match l, h with
  | [x0, x1, x2, x3, x4, x5, x6], _ => exact ⟨x0, x1, x2, x3, x4, x5, x6, rfl⟩
theorem fit_sact {w : World} {n : Nat} {cs : List Value} (h : FitW Try.prog w (n + 2) 91 cs) : ∃ (fKind : Int) (fLayer : Int) (fOn : Bool) (fSeq : Int) (fTime : Int) (fStart : Bool) (fBytes : Int), cs = [.int .i64 fKind, .int .i64 fLayer, .bool fOn, .int .u16 fSeq, .int .u32 fTime, .bool fStart, .int .i64 fBytes] ∧ -9223372036854775808 ≤ fKind ∧ fKind ≤ 9223372036854775807 ∧ -9223372036854775808 ≤ fLayer ∧ fLayer ≤ 9223372036854775807 ∧ 0 ≤ fSeq ∧ fSeq ≤ 65535 ∧ 0 ≤ fTime ∧ fTime ≤ 4294967295 ∧ -9223372036854775808 ≤ fBytes ∧ fBytes ≤ 9223372036854775807 := by
  obtain ⟨hlen, h⟩ := fit_struct Try.underlying91 h
  rw [cells_sact] at hlen
  obtain ⟨x0, x1, x2, x3, x4, x5, x6, rfl⟩ := list_sact hlen
  clear hlen
  obtain ⟨z0, e0, c0, d0⟩ := fit_i64 Try.underlying3 (h 0 _ rfl)
  simp [(show Try.prog.cellsOf 3 = 1 by kernel_rfl)] at e0
  obtain ⟨z1, e1, c1, d1⟩ := fit_i64 Try.underlying3 (h 1 _ rfl)
  simp [(show Try.prog.cellsOf 3 = 1 by kernel_rfl)] at e1
  obtain ⟨z2, e2⟩ := fit_bool Try.underlying4 (h 2 _ rfl)
  simp [(show Try.prog.cellsOf 4 = 1 by kernel_rfl)] at e2
  obtain ⟨z3, e3, c3, d3⟩ := fit_u16 Try.underlying34 (h 3 _ rfl)
  simp [(show Try.prog.cellsOf 34 = 1 by kernel_rfl)] at e3
  obtain ⟨z4, e4, c4, d4⟩ := fit_u32 Try.underlying22 (h 4 _ rfl)
  simp [(show Try.prog.cellsOf 22 = 1 by kernel_rfl)] at e4
  obtain ⟨z5, e5⟩ := fit_bool Try.underlying4 (h 5 _ rfl)
  simp [(show Try.prog.cellsOf 4 = 1 by kernel_rfl)] at e5
  obtain ⟨z6, e6, c6, d6⟩ := fit_i64 Try.underlying3 (h 6 _ rfl)
  simp [(show Try.prog.cellsOf 3 = 1 by kernel_rfl)] at e6
  subst e0
  subst e1
  subst e2
  subst e3
  subst e4
  subst e5
  subst e6
  exact ⟨z0, z1, z2, z3, z4, z5, z6, rfl, c0, d0, c1, d1, c3, d3, c4, d4, c6, d6⟩
theorem arg_sact {w : World} {v : Value} (h : Arg Try.prog w 91 v) : ∃ (fKind : Int) (fLayer : Int) (fOn : Bool) (fSeq : Int) (fTime : Int) (fStart : Bool) (fBytes : Int), v = .agg #[.int .i64 fKind, .int .i64 fLayer, .bool fOn, .int .u16 fSeq, .int .u32 fTime, .bool fStart, .int .i64 fBytes] ∧ -9223372036854775808 ≤ fKind ∧ fKind ≤ 9223372036854775807 ∧ -9223372036854775808 ≤ fLayer ∧ fLayer ≤ 9223372036854775807 ∧ 0 ≤ fSeq ∧ fSeq ≤ 65535 ∧ 0 ≤ fTime ∧ fTime ≤ 4294967295 ∧ -9223372036854775808 ≤ fBytes ∧ fBytes ≤ 9223372036854775807 := by
  obtain ⟨⟨l⟩, rfl, h'⟩ := arg_struct Try.underlying91 h
  obtain ⟨fKind, fLayer, fOn, fSeq, fTime, fStart, fBytes, e, k0, k1, k2, k3, k4, k5, k6, k7, k8, k9⟩ := fit_sact h'
  simp only at e
  subst e
  exact ⟨fKind, fLayer, fOn, fSeq, fTime, fStart, fBytes, rfl, k0, k1, k2, k3, k4, k5, k6, k7, k8, k9⟩

end Go.Proofs.Ytplhgpeeekjfcaa
