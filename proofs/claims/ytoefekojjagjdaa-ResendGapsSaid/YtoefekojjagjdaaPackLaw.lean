/-
  What Pack does, in plain lists: each number joins the last pair or begins one; the pairs ask for just those numbers. No condition but that the numbers fit their kinds.
-/
import Derived.Test.YtoefekojjagjdaaNackRef
namespace Go.Proofs.Ytoefekojjagjdaa
open Go.RowKit Go.Sort Go.BigFrame
set_option linter.unusedVariables false
/-- A number s behind q joins the pair that begins with p. -/
def joins (p q s : Int) : Bool := decide (0 < d16 s q) && (decide (1 ≤ (s - p) % 65536) && decide ((s - p) % 65536 ≤ 16))
def packTo (m : List Int) : Nat → List (Int × Int)
  | 0 => []
  | k + 1 => match (packTo m k).getLast? with
    | none => [(m.getD k 0, 0)]
    | some x => if joins x.1 (m.getD (k - 1) 0) (m.getD k 0) = true then (packTo m k).dropLast ++ [(x.1, x.2 + 2 ^ (((m.getD k 0 - x.1) % 65536).toNat - 1))] else packTo m k ++ [(m.getD k 0, 0)]
theorem packTo_zero (m : List Int) : packTo m 0 = [] := rfl
theorem packTo_one (m : List Int) : packTo m 1 = [(m.getD 0 0, 0)] := rfl
theorem packTo_step {m : List Int} {k : Nat} {init : List (Int × Int)} {x : Int × Int} (h : packTo m k = init ++ [x]) :
    packTo m (k + 1) = if joins x.1 (m.getD (k - 1) 0) (m.getD k 0) = true then init ++ [(x.1, x.2 + 2 ^ (((m.getD k 0 - x.1) % 65536).toNat - 1))] else init ++ [x] ++ [(m.getD k 0, 0)] := by
  show (match (packTo m k).getLast? with
    | none => [(m.getD k 0, 0)]
    | some x => if joins x.1 (m.getD (k - 1) 0) (m.getD k 0) = true then (packTo m k).dropLast ++ [(x.1, x.2 + 2 ^ (((m.getD k 0 - x.1) % 65536).toNat - 1))] else packTo m k ++ [(m.getD k 0, 0)]) = _
  rw [h]
  simp
theorem packTo_last (m : List Int) (k : Nat) (hk : 0 < k) : ∃ init x, packTo m k = init ++ [x] := by
  obtain ⟨j, rfl⟩ : ∃ j, k = j + 1 := ⟨k - 1, by omega⟩
  induction j with
  | zero => exact ⟨[], _, packTo_one m⟩
  | succ j ih =>
    obtain ⟨init, x, h⟩ := ih (by omega)
    rw [packTo_step h]
    split
    · exact ⟨init, _, rfl⟩
    · exact ⟨init ++ [x], _, rfl⟩
theorem packTo_len (m : List Int) (k : Nat) : (packTo m k).length ≤ k := by
  induction k with
  | zero => simp [packTo]
  | succ k ih =>
    rcases Nat.eq_zero_or_pos k with rfl | hk
    · simp [packTo_one]
    · obtain ⟨init, x, h⟩ := packTo_last m k hk
      rw [packTo_step h]
      rw [h] at ih
      split <;> simp at ih ⊢ <;> omega
theorem pow2_le {a b : Nat} (h : a ≤ b) : (2 : Int) ^ a ≤ 2 ^ b := by
  have h1 := Nat.pow_le_pow_right (by decide : 0 < 2) h
  have e : ∀ n : Nat, (2 : Int) ^ n = ((2 ^ n : Nat) : Int) := fun n => by simp
  rw [e, e]
  exact Int.ofNat_le.2 h1
theorem pow2_succ (e : Nat) : (2 : Int) ^ (e + 1) = 2 ^ e + 2 ^ e := by rw [Int.pow_succ]; omega
/-- The numbers fit. -/
def fits16 (m : List Int) : Prop := ∀ x ∈ m, 0 ≤ x ∧ x ≤ 65535
theorem fits_getD {m : List Int} (h : fits16 m) (k : Nat) : 0 ≤ m.getD k 0 ∧ m.getD k 0 ≤ 65535 := by
  rw [List.getD_eq_getElem?_getD]
  by_cases hk : k < m.length
  · rw [List.getElem?_eq_getElem hk]; exact h _ (List.getElem_mem _)
  · rw [List.getElem?_eq_none (by omega)]; simp
/-- What holds of the last pair. -/
theorem packTo_inv {m : List Int} (hm : fits16 m) (k : Nat) (hk : 0 < k) (init : List (Int × Int)) (x : Int × Int) (h : packTo m k = init ++ [x]) :
    0 ≤ x.1 ∧ x.1 ≤ 65535 ∧ (m.getD (k - 1) 0 - x.1) % 65536 ≤ 16 ∧ 0 ≤ x.2 ∧ x.2 < 2 ^ ((m.getD (k - 1) 0 - x.1) % 65536).toNat := by
  obtain ⟨j, rfl⟩ : ∃ j, k = j + 1 := ⟨k - 1, by omega⟩
  clear hk
  induction j generalizing init x with
  | zero =>
    rw [packTo_one] at h
    have e : init = [] ∧ x = (m.getD 0 0, 0) := by
      cases init with
      | nil => simp at h; exact ⟨rfl, h.symm⟩
      | cons a r => simp at h
    obtain ⟨rfl, rfl⟩ := e
    have := fits_getD hm 0
    simp only [Nat.zero_add, Nat.sub_self, Int.sub_self, Int.zero_emod, Int.toNat_zero, Int.pow_zero]
    omega
  | succ j ih =>
    obtain ⟨init', x', h'⟩ := packTo_last m (j + 1) (by omega)
    obtain ⟨a1, a2, a3, a4, a5⟩ := ih init' x' h'
    rw [packTo_step h'] at h
    simp only [Nat.add_sub_cancel] at h a3 a5 ⊢
    have hs := fits_getD hm (j + 1)
    split at h
    · rename_i hj
      have e := List.append_inj' h rfl
      simp only [List.cons.injEq, and_true] at e
      obtain ⟨rfl, rfl⟩ := e
      simp only [joins, Bool.and_eq_true, decide_eq_true_eq] at hj
      obtain ⟨j1, j2, j3⟩ := hj
      unfold d16 at j1
      have hq := fits_getD hm j
      have hlt : (m.getD j 0 - x'.1) % 65536 < (m.getD (j + 1) 0 - x'.1) % 65536 := by omega
      have hpow : (2 : Int) ^ ((m.getD j 0 - x'.1) % 65536).toNat ≤ 2 ^ (((m.getD (j + 1) 0 - x'.1) % 65536).toNat - 1) := by
        have : ((m.getD j 0 - x'.1) % 65536).toNat ≤ ((m.getD (j + 1) 0 - x'.1) % 65536).toNat - 1 := by omega
        exact pow2_le this
      have hsum : (2 : Int) ^ ((m.getD (j + 1) 0 - x'.1) % 65536).toNat = 2 ^ (((m.getD (j + 1) 0 - x'.1) % 65536).toNat - 1) + 2 ^ (((m.getD (j + 1) 0 - x'.1) % 65536).toNat - 1) := by
        obtain ⟨e, he⟩ : ∃ e, ((m.getD (j + 1) 0 - x'.1) % 65536).toNat = e + 1 := ⟨((m.getD (j + 1) 0 - x'.1) % 65536).toNat - 1, by omega⟩
        rw [he, Nat.add_sub_cancel]; exact pow2_succ e
      dsimp only
      refine ⟨a1, a2, j3, by omega, by omega⟩
    · have e := List.append_inj' h rfl
      simp only [List.cons.injEq, and_true] at e
      obtain ⟨rfl, rfl⟩ := e
      dsimp only
      simp only [Int.sub_self, Int.zero_emod, Int.toNat_zero, Int.pow_zero]
      omega
theorem bit_lo {b : Int} {e i : Nat} (h : i < e) : bitAt (b + 2 ^ e) i = bitAt b i := by
  unfold bitAt
  have hp : (2 : Int) ^ i ≠ 0 := by have := Int.pow_pos (n := 2) (m := i) (by decide); omega
  obtain ⟨c, rfl⟩ : ∃ c, e = c + 1 + i := ⟨e - 1 - i, by omega⟩
  rw [Int.pow_add, Int.add_mul_ediv_right _ _ hp, pow2_succ]
  congr 1
  rw [show b / 2 ^ i + (2 ^ c + 2 ^ c) = b / 2 ^ i + 2 ^ c * 2 by omega, Int.add_mul_emod_self_right]
theorem bit_hi {b : Int} {i : Nat} (h0 : 0 ≤ b) (h : b < 2 ^ i) : bitAt b i = false := by
  unfold bitAt
  rw [Int.ediv_eq_zero_of_lt h0 h]
  rfl
theorem bit_at {b : Int} {e : Nat} (h0 : 0 ≤ b) (h : b < 2 ^ e) : bitAt (b + 2 ^ e) e = true := by
  unfold bitAt
  have hp : (2 : Int) ^ e ≠ 0 := by have := Int.pow_pos (n := 2) (m := e) (by decide); omega
  have := Int.add_mul_ediv_right b 1 hp
  rw [Int.one_mul, Int.ediv_eq_zero_of_lt h0 h] at this
  rw [this]
  rfl
theorem part_ge {p b : Int} {e : Nat} (h0 : 0 ≤ b) (h : b < 2 ^ e) (j : Nat) : part p b (e + j) = part p b e := by
  induction j with
  | zero => rfl
  | succ j ih =>
    rw [← Nat.add_assoc, part_succ, bit_hi h0 (Int.lt_of_lt_of_le h (pow2_le (by omega))), if_neg (by simp), ih]
theorem part_lo {p b : Int} {e : Nat} (i : Nat) (hi : i ≤ e) : part p (b + 2 ^ e) i = part p b i := by
  induction i with
  | zero => rfl
  | succ i ih => rw [part_succ, part_succ, bit_lo (by omega), ih (by omega)]
theorem part_join {p b : Int} {e : Nat} (h0 : 0 ≤ b) (h : b < 2 ^ e) (he : e < 16) : part p (b + 2 ^ e) 16 = part p b 16 ++ [(p + e + 1) % 65536] := by
  have h1 : part p b 16 = part p b e := by
    have := part_ge (p := p) h0 h (16 - e)
    rwa [show e + (16 - e) = 16 by omega] at this
  have h2 : part p (b + 2 ^ e) 16 = part p (b + 2 ^ e) (e + 1) := by
    have hp : (0 : Int) < 2 ^ e := Int.pow_pos (by decide)
    have := part_ge (p := p) (b := b + 2 ^ e) (e := e + 1) (by omega) (by rw [pow2_succ]; omega) (16 - (e + 1))
    rwa [show e + 1 + (16 - (e + 1)) = 16 by omega] at this
  rw [h2, h1, part_succ, bit_at h0 h, if_pos rfl, part_lo e (Nat.le_refl _)]
theorem part_none (s : Int) : part s 0 16 = [s] := part_ge (p := s) (b := 0) (e := 0) (by decide) (by decide) 16
theorem expand_snoc (l : List (Int × Int)) (x : Int × Int) : expand (l ++ [x]) = expand l ++ part x.1 x.2 16 := by simp [expand]
theorem expand_pack {m : List Int} (hm : fits16 m) (k : Nat) (hk : k ≤ m.length) : expand (packTo m k) = m.take k := by
  induction k with
  | zero => rfl
  | succ k ih =>
    have hg : m.getD k 0 = m[k] := by rw [List.getD_eq_getElem?_getD, List.getElem?_eq_getElem (by omega)]; rfl
    rw [List.take_succ_eq_append_getElem (by omega), ← hg]
    rcases Nat.eq_zero_or_pos k with rfl | h0
    · rw [packTo_one]; simp [expand, part_none]
    · obtain ⟨init, x, h⟩ := packTo_last m k h0
      obtain ⟨a1, a2, a3, a4, a5⟩ := packTo_inv hm k h0 init x h
      have ih' := ih (by omega)
      rw [h] at ih'
      rw [packTo_step h]
      split
      · rename_i hj
        simp only [joins, Bool.and_eq_true, decide_eq_true_eq] at hj
        obtain ⟨j1, j2, j3⟩ := hj
        have hs := fits_getD hm k
        have hq := fits_getD hm (k - 1)
        unfold d16 at j1
        have hlt : (m.getD (k - 1) 0 - x.1) % 65536 < (m.getD k 0 - x.1) % 65536 := by omega
        have hb : x.2 < 2 ^ (((m.getD k 0 - x.1) % 65536).toNat - 1) := Int.lt_of_lt_of_le a5 (pow2_le (by omega))
        rw [expand_snoc]
        dsimp only
        rw [part_join a4 hb (by omega), ← List.append_assoc, ← expand_snoc, ih']
        congr 2
        have : (((((m.getD k 0 - x.1) % 65536).toNat - 1 : Nat)) : Int) = (m.getD k 0 - x.1) % 65536 - 1 := by omega
        rw [this]
        omega
      · rw [expand_snoc, ih', part_none]
/-- What Pack tells. -/
def pack (m : List Int) : List (Int × Int) := packTo m m.length
theorem expand_pack_all {m : List Int} (hm : fits16 m) : expand (pack m) = m := by
  unfold pack
  rw [expand_pack hm m.length (Nat.le_refl _), List.take_length]
/-- The pairs fit. -/
theorem packTo_fits {m : List Int} (hm : fits16 m) (k : Nat) : ∀ x ∈ packTo m k, 0 ≤ x.1 ∧ x.1 ≤ 65535 ∧ 0 ≤ x.2 ∧ x.2 ≤ 65535 := by
  induction k with
  | zero => intro x hx; simp [packTo] at hx
  | succ k ih =>
    rcases Nat.eq_zero_or_pos k with rfl | h0
    · intro x hx
      rw [packTo_one] at hx
      simp only [List.mem_singleton] at hx
      subst hx
      have := fits_getD hm 0
      exact ⟨this.1, this.2, Int.le_refl _, (by decide : (0 : Int) ≤ 65535)⟩
    · obtain ⟨init, x, h⟩ := packTo_last m k h0
      obtain ⟨init', x', h'⟩ := packTo_last m (k + 1) (by omega)
      obtain ⟨a1, a2, a3, a4, a5⟩ := packTo_inv hm (k + 1) (by omega) init' x' h'
      have hx2 : x'.2 ≤ 65535 := by
        have : (2 : Int) ^ ((m.getD (k + 1 - 1) 0 - x'.1) % 65536).toNat ≤ 2 ^ 16 := pow2_le (by omega)
        have h16 : (2 : Int) ^ 16 = 65536 := by decide
        omega
      intro y hy
      rw [h'] at hy
      rcases List.mem_append.1 hy with hy | hy
      · refine ih y ?_
        rw [h]
        rw [packTo_step h] at h'
        split at h'
        · have e := List.append_inj' h' rfl
          rw [e.1]
          exact List.mem_append_left _ hy
        · have e := List.append_inj' h' rfl
          rw [e.1]
          exact hy
      · simp only [List.mem_singleton] at hy
        subst hy
        exact ⟨a1, a2, a4, hx2⟩
end Go.Proofs.Ytoefekojjagjdaa
