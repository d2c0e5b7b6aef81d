/-
  A row of entries whose numbers rise by steps of at most seventeen: what Missing asks for. Plain lists, no program. No condition.
-/
import Derived.Test.YtoefekojjagjdaaResendOnly
namespace Go.Proofs.Ytoefekojjagjdaa
open Go.RowKit
set_option linter.unusedVariables false
/-- Where the entries lie behind the first one. -/
structure PosOK (P : List Nat) : Prop where
  pos : 0 < P.length
  top : P.length ≤ 41
  zero : P.getD 0 0 = 0
  lo : ∀ i, i + 1 < P.length → P.getD i 0 + 1 ≤ P.getD (i + 1) 0
  hi : ∀ i, i + 1 < P.length → P.getD (i + 1) 0 ≤ P.getD i 0 + 17
def rowE (f : Int) (P : List Nat) : List Ent := P.map fun p : Nat => ((f + p) % 65536, 0, 0, 0, 0, 0, 0)
theorem rowE_len (f : Int) (P : List Nat) : (rowE f P).length = P.length := by simp [rowE]
theorem rowE_getD (f : Int) (P : List Nat) (i : Nat) (h : i < P.length) : (rowE f P).getD i e0 = ((f + (P.getD i 0 : Nat)) % 65536, 0, 0, 0, 0, 0, 0) := by
  unfold rowE
  rw [List.getD_eq_getElem?_getD, List.getElem?_map, List.getElem?_eq_getElem h, List.getD_eq_getElem?_getD, List.getElem?_eq_getElem h]
  rfl
theorem rowE_fits (f : Int) (P : List Nat) : fitsE (rowE f P) := by
  intro x hx
  obtain ⟨p, _, rfl⟩ := List.mem_map.1 hx
  dsimp only
  omega
theorem PosOK.one : PosOK [0] := ⟨by simp, by simp, rfl, fun i h => by simp at h, fun i h => by simp at h⟩
theorem getD_snoc (P : List Nat) (x i : Nat) : (P ++ [x]).getD i 0 = if i < P.length then P.getD i 0 else if i = P.length then x else 0 := by
  rw [List.getD_eq_getElem?_getD, List.getD_eq_getElem?_getD]
  split
  · rename_i h; rw [List.getElem?_append_left h]
  · rename_i h
    rw [List.getElem?_append_right (by omega)]
    split
    · rename_i h2; subst h2; simp
    · rw [List.getElem?_eq_none (by simp; omega)]; rfl
theorem PosOK.snoc {P : List Nat} (h : PosOK P) (d : Nat) (h1 : 1 ≤ d) (h2 : d ≤ 17) (hl : P.length ≤ 40) : PosOK (P ++ [P.getD (P.length - 1) 0 + d]) := by
  have hp := h.pos
  refine ⟨by simp, by simp; omega, by rw [getD_snoc, if_pos hp]; exact h.zero, fun i hi => ?_, fun i hi => ?_⟩
  all_goals
    simp only [List.length_append, List.length_singleton] at hi
    have e1 := getD_snoc P (P.getD (P.length - 1) 0 + d) i
    have e2 := getD_snoc P (P.getD (P.length - 1) 0 + d) (i + 1)
    rw [if_pos (by omega)] at e1
    rw [e1, e2]
    by_cases e : i + 1 < P.length
    · rw [if_pos e]; first | exact h.lo i e | exact h.hi i e
    · rw [if_neg e, if_pos (by omega), show P.length - 1 = i by omega]; omega
theorem PosOK.mono {P : List Nat} (h : PosOK P) : ∀ d i, i + d < P.length → P.getD i 0 + d ≤ P.getD (i + d) 0
  | 0, i, _ => by simp
  | d + 1, i, hi => by
    have h1 := PosOK.mono h d i (by omega)
    have h2 := h.lo (i + d) (by omega)
    rw [show i + (d + 1) = i + d + 1 by omega]
    omega
theorem PosOK.le {P : List Nat} (h : PosOK P) : ∀ i, i < P.length → P.getD i 0 ≤ 17 * i
  | 0, _ => by rw [h.zero]; omega
  | i + 1, hi => by
    have h1 := PosOK.le h i (by omega)
    have h2 := h.hi i hi
    omega
theorem PosOK.inj {P : List Nat} (h : PosOK P) {i j : Nat} (hi : i < P.length) (hj : j < P.length) (hij : i < j) : P.getD i 0 < P.getD j 0 := by
  have := h.mono (j - i) i (by omega)
  rw [show i + (j - i) = j by omega] at this
  omega
theorem gapN_getD (a : Int) (j t : Nat) (h : t < j) : (gapN a j).getD t 0 = (a + t + 1) % 65536 := by
  unfold gapN
  rw [List.getD_eq_getElem?_getD, List.getElem?_map, List.getElem?_range h]
  rfl
theorem gap_row {f : Int} {P : List Nat} (h : PosOK P) (k : Nat) (hk : k + 1 < P.length) :
    gap ((rowE f P).getD k e0).1 ((rowE f P).getD (k + 1) e0).1 = gapN ((f + (P.getD k 0 : Nat)) % 65536) (P.getD (k + 1) 0 - P.getD k 0 - 1) := by
  have h1 := h.lo k hk
  have h2 := h.hi k hk
  rw [rowE_getD f P k (by omega), rowE_getD f P (k + 1) hk]
  dsimp only
  have hd : gapD ((f + (P.getD k 0 : Nat)) % 65536) ((f + (P.getD (k + 1) 0 : Nat)) % 65536) = ((P.getD (k + 1) 0 - P.getD k 0 : Nat) : Int) := by
    unfold gapD; omega
  by_cases e : P.getD (k + 1) 0 = P.getD k 0 + 1
  · rw [gap_far (by rw [hd]; omega), show P.getD (k + 1) 0 - P.getD k 0 - 1 = 0 by omega]; rfl
  · rw [gap_near (by rw [hd]; omega) (by rw [hd]; omega), hd]; congr 1
theorem miss_row {f : Int} {P : List Nat} (h : PosOK P) : ∀ k, k < P.length →
    (missTo (rowE f P) (k + 1)).length = P.getD k 0 - k ∧
    (∀ i D, 1 ≤ i → i ≤ k → P.getD (i - 1) 0 < D → D < P.getD i 0 → (missTo (rowE f P) (k + 1)).getD (D - i) 0 = (f + D) % 65536) ∧
    (∀ s ∈ missTo (rowE f P) (k + 1), ∃ i D : Nat, 1 ≤ i ∧ i ≤ k ∧ P.getD (i - 1) 0 < D ∧ D < P.getD i 0 ∧ s = (f + D) % 65536)
  | 0, _ => by
    rw [missTo_one, h.zero]
    exact ⟨rfl, fun i D h1 h2 => by omega, fun s hs => by cases hs⟩
  | k + 1, hk => by
    obtain ⟨i1, i2, i3⟩ := miss_row h k (by omega)
    have hg := gap_row (f := f) h k hk
    have h1 := h.lo k hk
    have hm := h.mono k 0 (by omega)
    rw [h.zero, Nat.zero_add] at hm
    rw [missTo_succ _ _ (by omega), Nat.add_sub_cancel, hg]
    refine ⟨?_, fun i D a1 a2 a3 a4 => ?_, fun s hs => ?_⟩
    · rw [List.length_append, i1, gapN_len]; omega
    · rw [List.getD_eq_getElem?_getD]
      by_cases e : i = k + 1
      · subst e
        rw [Nat.add_sub_cancel] at a3
        rw [List.getElem?_append_right (by rw [i1]; omega), i1, ← List.getD_eq_getElem?_getD, gapN_getD _ _ _ (by omega)]
        omega
      · have hlt : P.getD i 0 + (k - i) ≤ P.getD k 0 := by
          have := h.mono (k - i) i (by omega)
          rwa [show i + (k - i) = k by omega] at this
        have hmi := h.mono (i - 1) 0 (by omega)
        rw [h.zero, Nat.zero_add] at hmi
        rw [List.getElem?_append_left (by rw [i1]; omega), ← List.getD_eq_getElem?_getD]
        exact i2 i D a1 (by omega) a3 a4
    · rcases List.mem_append.1 hs with hs | hs
      · obtain ⟨i, D, a1, a2, a3, a4, a5⟩ := i3 s hs
        exact ⟨i, D, a1, by omega, a3, a4, a5⟩
      · simp only [gapN, List.mem_map, List.mem_range] at hs
        obtain ⟨t, ht, rfl⟩ := hs
        refine ⟨k + 1, P.getD k 0 + t + 1, by omega, by omega, by rw [Nat.add_sub_cancel]; omega, by omega, by omega⟩
theorem miss_all {f : Int} {P : List Nat} (h : PosOK P) : miss (rowE f P) = missTo (rowE f P) (P.length - 1 + 1) := by
  unfold miss
  rw [rowE_len, Nat.sub_add_cancel h.pos]
theorem miss_len {f : Int} {P : List Nat} (h : PosOK P) : (miss (rowE f P)).length = P.getD (P.length - 1) 0 - (P.length - 1) := by
  rw [miss_all h]; exact (miss_row h _ (by have := h.pos; omega)).1
/-- What is missing has no entry. -/
theorem ofL_miss {f : Int} {P : List Nat} (h : PosOK P) : ofL (rowE f P) (miss (rowE f P)) = [] := by
  have hp := h.pos
  unfold ofL
  rw [List.filterMap_eq_nil_iff]
  intro s hs
  rw [miss_all h] at hs
  obtain ⟨i, D, a1, a2, a3, a4, rfl⟩ := (miss_row h _ (by omega)).2.2 s hs
  rw [findE_no]
  intro hm
  unfold seqs at hm
  obtain ⟨x, hx, e⟩ := List.mem_map.1 hm
  obtain ⟨j, hj, rfl⟩ := mem_at hx
  rw [rowE_len] at hj
  rw [rowE_getD f P j hj] at e
  dsimp only at e
  have b1 := h.le j hj
  have b2 := h.le i (by omega)
  have t := h.top
  have hD : P.getD j 0 = D := by omega
  by_cases c : j < i
  · have : P.getD j 0 ≤ P.getD (i - 1) 0 := by
      by_cases c2 : j = i - 1
      · rw [c2]; exact Nat.le_refl _
      · exact Nat.le_of_lt (h.inj hj (by omega) (by omega))
    omega
  · have : P.getD i 0 ≤ P.getD j 0 := by
      by_cases c2 : j = i
      · rw [c2]; exact Nat.le_refl _
      · exact Nat.le_of_lt (h.inj (by omega) hj (by omega))
    omega
/-- Between two entries stands what is asked for. -/
theorem miss_at {f : Int} {P : List Nat} (h : PosOK P) (i D : Nat) (h1 : 1 ≤ i) (h2 : i < P.length) (h3 : P.getD (i - 1) 0 < D) (h4 : D < P.getD i 0) :
    (miss (rowE f P)).getD (D - i) 0 = (f + D) % 65536 ∧ D - i < P.getD (P.length - 1) 0 - (P.length - 1) := by
  have hp := h.pos
  refine ⟨by rw [miss_all h]; exact (miss_row h _ (by omega)).2.1 i D h1 (by omega) h3 h4, ?_⟩
  have := h.mono (P.length - 1 - i) i (by omega)
  rw [show i + (P.length - 1 - i) = P.length - 1 by omega] at this
  have hm := h.mono (i - 1) 0 (by omega)
  rw [h.zero, Nat.zero_add] at hm
  omega
end Go.Proofs.Ytoefekojjagjdaa
