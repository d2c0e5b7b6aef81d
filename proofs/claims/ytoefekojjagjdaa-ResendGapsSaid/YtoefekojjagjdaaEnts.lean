/-
  Entries that came in: what the reading of an argument tells of them. No condition.
-/
import Derived.Test.YtoefekojjagjdaaNackArgs
namespace Go.Proofs.Ytoefekojjagjdaa
open Go.RowKit Go.Sort Go.BigFrame
set_option linter.unusedVariables false
theorem cells_hdr : Try.prog.cellsOf 55 = 2 := by kernel_rfl
theorem list_hdr {l : List Value} (h : l.length = 2) : ∃ x0 x1, l = [x0, x1] := by
  match l, h with
  | [x0, x1], _ => exact ⟨x0, x1, rfl⟩
theorem fit_hdr {w : World} {n : Nat} {cs : List Value} (h : FitW Try.prog w (n + 2) 55 cs) : ∃ (fSlot : Int) (fGen : Int), cs = [.int .i64 fSlot, .int .u32 fGen] ∧ -9223372036854775808 ≤ fSlot ∧ fSlot ≤ 9223372036854775807 ∧ 0 ≤ fGen ∧ fGen ≤ 4294967295 := by
  obtain ⟨hlen, h⟩ := fit_struct Try.underlying55 h
  rw [cells_hdr] at hlen
  obtain ⟨x0, x1, rfl⟩ := list_hdr hlen
  clear hlen
  obtain ⟨z0, e0, c0, d0⟩ := fit_i64 Try.underlying3 (h 0 _ rfl)
  simp [(show Try.prog.cellsOf 3 = 1 by kernel_rfl)] at e0
  obtain ⟨z1, e1, c1, d1⟩ := fit_u32 Try.underlying23 (h 1 _ rfl)
  simp [(show Try.prog.cellsOf 23 = 1 by kernel_rfl)] at e1
  subst e0
  subst e1
  exact ⟨z0, z1, rfl, c0, d0, c1, d1⟩
theorem arg_hdr {w : World} {v : Value} (h : Arg Try.prog w 55 v) : ∃ (fSlot : Int) (fGen : Int), v = .agg #[.int .i64 fSlot, .int .u32 fGen] ∧ -9223372036854775808 ≤ fSlot ∧ fSlot ≤ 9223372036854775807 ∧ 0 ≤ fGen ∧ fGen ≤ 4294967295 := by
  obtain ⟨⟨l⟩, rfl, h'⟩ := arg_struct Try.underlying55 h
  obtain ⟨fSlot, fGen, e, k0, k1, k2, k3⟩ := fit_hdr h'
  simp only at e
  subst e
  exact ⟨fSlot, fGen, rfl, k0, k1, k2, k3⟩

theorem cells_pay : Try.prog.cellsOf 57 = 4 := by kernel_rfl
theorem list_pay {l : List Value} (h : l.length = 4) : ∃ x0 x1 x2 x3, l = [x0, x1, x2, x3] := by
  match l, h with
  | [x0, x1, x2, x3], _ => exact ⟨x0, x1, x2, x3, rfl⟩
theorem fit_pay {w : World} {n : Nat} {cs : List Value} (h : FitW Try.prog w (n + 2) 57 cs) : ∃ (fSeq : Int) (fTime : Int) (fSsrc : Int) (fFrame : Int), cs = [.int .u16 fSeq, .int .u32 fTime, .int .u32 fSsrc, .int .u16 fFrame] ∧ 0 ≤ fSeq ∧ fSeq ≤ 65535 ∧ 0 ≤ fTime ∧ fTime ≤ 4294967295 ∧ 0 ≤ fSsrc ∧ fSsrc ≤ 4294967295 ∧ 0 ≤ fFrame ∧ fFrame ≤ 65535 := by
  obtain ⟨hlen, h⟩ := fit_struct Try.underlying57 h
  rw [cells_pay] at hlen
  obtain ⟨x0, x1, x2, x3, rfl⟩ := list_pay hlen
  clear hlen
  obtain ⟨z0, e0, c0, d0⟩ := fit_u16 Try.underlying22 (h 0 _ rfl)
  simp [(show Try.prog.cellsOf 22 = 1 by kernel_rfl)] at e0
  obtain ⟨z1, e1, c1, d1⟩ := fit_u32 Try.underlying23 (h 1 _ rfl)
  simp [(show Try.prog.cellsOf 23 = 1 by kernel_rfl)] at e1
  obtain ⟨z2, e2, c2, d2⟩ := fit_u32 Try.underlying23 (h 2 _ rfl)
  simp [(show Try.prog.cellsOf 23 = 1 by kernel_rfl)] at e2
  obtain ⟨z3, e3, c3, d3⟩ := fit_u16 Try.underlying22 (h 3 _ rfl)
  simp [(show Try.prog.cellsOf 22 = 1 by kernel_rfl)] at e3
  subst e0
  subst e1
  subst e2
  subst e3
  exact ⟨z0, z1, z2, z3, rfl, c0, d0, c1, d1, c2, d2, c3, d3⟩
theorem arg_pay {w : World} {v : Value} (h : Arg Try.prog w 57 v) : ∃ (fSeq : Int) (fTime : Int) (fSsrc : Int) (fFrame : Int), v = .agg #[.int .u16 fSeq, .int .u32 fTime, .int .u32 fSsrc, .int .u16 fFrame] ∧ 0 ≤ fSeq ∧ fSeq ≤ 65535 ∧ 0 ≤ fTime ∧ fTime ≤ 4294967295 ∧ 0 ≤ fSsrc ∧ fSsrc ≤ 4294967295 ∧ 0 ≤ fFrame ∧ fFrame ≤ 65535 := by
  obtain ⟨⟨l⟩, rfl, h'⟩ := arg_struct Try.underlying57 h
  obtain ⟨fSeq, fTime, fSsrc, fFrame, e, k0, k1, k2, k3, k4, k5, k6, k7⟩ := fit_pay h'
  simp only at e
  subst e
  exact ⟨fSeq, fTime, fSsrc, fFrame, rfl, k0, k1, k2, k3, k4, k5, k6, k7⟩

theorem cells_ent : Try.prog.cellsOf 59 = 7 := by kernel_rfl
theorem list_ent {l : List Value} (h : l.length = 7) : ∃ x0 x1 x2 x3 x4 x5 x6, l = [x0, x1, x2, x3, x4, x5, x6] := by
  match l, h with
  | [x0, x1, x2, x3, x4, x5, x6], _ => exact ⟨x0, x1, x2, x3, x4, x5, x6, rfl⟩
theorem fit_ent {w : World} {n : Nat} {cs : List Value} (h : FitW Try.prog w (n + 3) 59 cs) : ∃ (fSeq : Int) (hSlot : Int) (hGen : Int) (pSeq : Int) (pTime : Int) (pSsrc : Int) (pFrame : Int), cs = [.int .u16 fSeq, .int .i64 hSlot, .int .u32 hGen, .int .u16 pSeq, .int .u32 pTime, .int .u32 pSsrc, .int .u16 pFrame] ∧ 0 ≤ fSeq ∧ fSeq ≤ 65535 ∧ -9223372036854775808 ≤ hSlot ∧ hSlot ≤ 9223372036854775807 ∧ 0 ≤ hGen ∧ hGen ≤ 4294967295 ∧ 0 ≤ pSeq ∧ pSeq ≤ 65535 ∧ 0 ≤ pTime ∧ pTime ≤ 4294967295 ∧ 0 ≤ pSsrc ∧ pSsrc ≤ 4294967295 ∧ 0 ≤ pFrame ∧ pFrame ≤ 65535 := by
  obtain ⟨hlen, h⟩ := fit_struct Try.underlying59 h
  rw [cells_ent] at hlen
  obtain ⟨x0, x1, x2, x3, x4, x5, x6, rfl⟩ := list_ent hlen
  clear hlen
  obtain ⟨z0, e0, c0, d0⟩ := fit_u16 Try.underlying22 (h 0 _ rfl)
  simp [(show Try.prog.cellsOf 22 = 1 by kernel_rfl)] at e0
  obtain ⟨z1_0, z1_1, e1, c1_0, c1_1, c1_2, c1_3⟩ := fit_hdr (h 1 _ rfl)
  simp [(show Try.prog.cellsOf 55 = 2 by kernel_rfl)] at e1
  obtain ⟨z2_0, z2_1, z2_2, z2_3, e2, c2_0, c2_1, c2_2, c2_3, c2_4, c2_5, c2_6, c2_7⟩ := fit_pay (h 2 _ rfl)
  simp [(show Try.prog.cellsOf 57 = 4 by kernel_rfl)] at e2
  subst e0
  obtain ⟨rfl, rfl⟩ := e1
  obtain ⟨rfl, rfl, rfl, rfl⟩ := e2
  exact ⟨z0, z1_0, z1_1, z2_0, z2_1, z2_2, z2_3, rfl, c0, d0, c1_0, c1_1, c1_2, c1_3, c2_0, c2_1, c2_2, c2_3, c2_4, c2_5, c2_6, c2_7⟩
theorem arg_ent {w : World} {v : Value} (h : Arg Try.prog w 59 v) : ∃ (fSeq : Int) (hSlot : Int) (hGen : Int) (pSeq : Int) (pTime : Int) (pSsrc : Int) (pFrame : Int), v = .agg #[.int .u16 fSeq, .int .i64 hSlot, .int .u32 hGen, .int .u16 pSeq, .int .u32 pTime, .int .u32 pSsrc, .int .u16 pFrame] ∧ 0 ≤ fSeq ∧ fSeq ≤ 65535 ∧ -9223372036854775808 ≤ hSlot ∧ hSlot ≤ 9223372036854775807 ∧ 0 ≤ hGen ∧ hGen ≤ 4294967295 ∧ 0 ≤ pSeq ∧ pSeq ≤ 65535 ∧ 0 ≤ pTime ∧ pTime ≤ 4294967295 ∧ 0 ≤ pSsrc ∧ pSsrc ≤ 4294967295 ∧ 0 ≤ pFrame ∧ pFrame ≤ 65535 := by
  obtain ⟨⟨l⟩, rfl, h'⟩ := arg_struct Try.underlying59 h
  obtain ⟨fSeq, hSlot, hGen, pSeq, pTime, pSsrc, pFrame, e, k0, k1, k2, k3, k4, k5, k6, k7, k8, k9, k10, k11, k12, k13⟩ := fit_ent h'
  simp only at e
  subst e
  exact ⟨fSeq, hSlot, hGen, pSeq, pTime, pSsrc, pFrame, rfl, k0, k1, k2, k3, k4, k5, k6, k7, k8, k9, k10, k11, k12, k13⟩
/-- An entry: its number and what else it says. -/
abbrev Ent := Int × Int × Int × Int × Int × Int × Int
def entC (x : Ent) : List Value := [.int .u16 x.1, .int .i64 x.2.1, .int .u32 x.2.2.1, .int .u16 x.2.2.2.1, .int .u32 x.2.2.2.2.1, .int .u32 x.2.2.2.2.2.1, .int .u16 x.2.2.2.2.2.2]
def ents (l : List Ent) : List Value := l.flatMap entC
def e0 : Ent := (0, 0, 0, 0, 0, 0, 0)
def fitsE (l : List Ent) : Prop := ∀ x ∈ l, 0 ≤ x.1 ∧ x.1 ≤ 65535
theorem entC_len (x : Ent) : (entC x).length = 7 := rfl
theorem ents_len (l : List Ent) : (ents l).length = l.length * 7 := by
  induction l with
  | nil => rfl
  | cons x r ih => unfold ents at *; rw [List.flatMap_cons, List.length_append, ih, entC_len, List.length_cons]; omega
theorem ents_app (a b : List Ent) : ents (a ++ b) = ents a ++ ents b := by simp [ents]
theorem ents_snoc (a : List Ent) (x : Ent) : ents (a ++ [x]) = ents a ++ entC x := by simp [ents]
theorem ents_one (l : List Ent) : ∀ u ∈ ents l, u.oneCell' = true := by
  intro u hu
  unfold ents at hu
  obtain ⟨x, _, hx⟩ := List.mem_flatMap.1 hu
  simp only [entC, List.mem_cons, List.not_mem_nil, or_false] at hx
  rcases hx with h | h | h | h | h | h | h <;> subst h <;> simp [Value.oneCell']
theorem ents_at (l : List Ent) (k : Nat) (hk : k < l.length) (j : Nat) (hj : j < 7) : (ents l)[k * 7 + j]? = (entC (l.getD k e0))[j]? := by
  induction l generalizing k with
  | nil => simp at hk
  | cons x r ih =>
    have e : ents (x :: r) = entC x ++ ents r := by simp [ents]
    rw [e]
    cases k with
    | zero => rw [List.getElem?_append_left (by rw [entC_len]; omega)]; simp
    | succ k =>
      rw [List.getElem?_append_right (by rw [entC_len]; omega), entC_len, show (k + 1) * 7 + j - 7 = k * 7 + j by omega, ih k (by simpa using hk)]
      simp
theorem fitsE_getD {l : List Ent} (h : fitsE l) (k : Nat) : 0 ≤ (l.getD k e0).1 ∧ (l.getD k e0).1 ≤ 65535 := by
  rw [List.getD_eq_getElem?_getD]
  cases e : l[k]? with
  | none => simp [e0]
  | some x => exact h x (List.mem_of_getElem? e)
theorem arg_ents {w : World} {v : Value} (h : Arg Try.prog w 48 v) : ∃ l : List Ent, fitsE l ∧ Has w 7 v l.length (ents l) := by
  obtain ⟨a, len, cap, h1, h2, h3, h4, h5⟩ := fit_slice Try.underlying48 (show Try.prog.cellsOf 59 = 7 by kernel_rfl) (by omega) (arg_slice Try.underlying48 h)
  simp only [List.cons.injEq, and_true] at h1
  subst h1
  have hx : ∀ i, ∃ x : Ent, (0 ≤ x.1 ∧ x.1 ≤ 65535) ∧ (i < len → ∃ b off, a = some ⟨b, off, none⟩ ∧ b < w.heap.size ∧ ∀ j, j < 7 → w.cell? ⟨b, off + i * 7 + j, none⟩ = (entC x)[j]?) := by
    intro i
    by_cases hi : i < len
    · obtain ⟨b, off, es, e1, e2, e3, e4, e5⟩ := h5 i hi
      obtain ⟨x0, x1, x2, x3, x4, x5, x6, rfl, c1, c2, _⟩ := fit_ent e5
      refine ⟨(x0, x1, x2, x3, x4, x5, x6), ⟨c1, c2⟩, fun _ => ⟨b, off, e1, e2, fun j hj => ?_⟩⟩
      have := e4 j (by simpa using hj)
      rw [this]
      match j, hj with
      | 0, _ => rfl
      | 1, _ => rfl
      | 2, _ => rfl
      | 3, _ => rfl
      | 4, _ => rfl
      | 5, _ => rfl
      | 6, _ => rfl
    · exact ⟨e0, by decide, fun h => absurd h hi⟩
  obtain ⟨f, hf⟩ := Classical.axiomOfChoice hx
  have hl : ((List.range len).map f).length = len := by simp
  refine ⟨(List.range len).map f, ?_, ?_⟩
  · intro x hx
    simp only [List.mem_map] at hx
    obtain ⟨i, _, rfl⟩ := hx
    exact (hf i).1
  · rw [hl]
    have := Has.of_cells (w := w) (ao := a) (n := len) (cap := cap) (size := 7) (fun i => entC (f i)) (fun _ => rfl) (by decide) h2 h3 h4 (fun i hi => by
      obtain ⟨b, off, e1, e2, e3⟩ := (hf i).2 hi
      refine ⟨b, off, e1, e2, fun j hj => ?_⟩
      rw [e3 j hj])
    have e : (List.range len).flatMap (fun i => entC (f i)) = ents ((List.range len).map f) := by
      unfold ents
      induction List.range len with
      | nil => rfl
      | cons x r ih => rw [List.flatMap_cons, List.map_cons, List.flatMap_cons, ih]
    rwa [e] at this
/-- The k-th entry's cells. -/
theorem ent_cells {w : World} {n : Nat} {v : Value} {l : List Ent} (h : Has w 7 v n (ents l)) (hl : l.length = n) (k : Nat) (hk : k < n) :
    ∃ g off cap, v = .slice (some ⟨g, off, none⟩) n cap ∧ g < w.heap.size ∧ cap ≤ maxLen ∧ ∀ j, j < 7 → w.cell? ⟨g, off + k * 7 + j, none⟩ = (entC (l.getD k e0))[j]? := by
  obtain ⟨ao, cap, rfl, _, hc⟩ := h.shape
  obtain ⟨g, off, rfl, hg, hcell⟩ := h.cell (by omega)
  refine ⟨g, off, cap, rfl, hg, hc, fun j hj => ?_⟩
  have e := ents_at l k (by omega) j hj
  have e2 : (entC (l.getD k e0))[j]? = some (entC (l.getD k e0))[j] := List.getElem?_eq_getElem (by rw [entC_len]; exact hj)
  rw [e2] at e ⊢
  rw [Nat.add_assoc]
  exact hcell _ _ e
end Go.Proofs.Ytoefekojjagjdaa
