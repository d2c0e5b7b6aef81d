/-
  The plain law behind AuditRoom: more slots never hurt, more rings, hands or subs never help. No condition but the bounds.
-/
import Derived.Test.YtjlclpdjblicjaaAuditShown
import Derived.Test.YtjlclpdjblicjaaAuditArg
namespace Go.Proofs.Ytjlclpdjblicjaa
open Go.RowKit
set_option linter.unusedVariables false
theorem inB_iff {x : Int} : inB x = true ↔ 0 ≤ x ∧ x ≤ 1048576 := by unfold inB; simp
theorem roomB_iff {sh sl ri ba hi subs : Int} : roomB sh sl ri ba hi subs = true ↔ ((0 ≤ sh ∧ sh ≤ 1048576) ∧ (0 ≤ sl ∧ sl ≤ 1048576) ∧ (0 ≤ ri ∧ ri ≤ 1048576) ∧ (0 ≤ ba ∧ ba ≤ 1048576) ∧ (0 ≤ hi ∧ hi ≤ 1048576) ∧ 8 * ri + sh * (ba + 8) + subsV subs * hi ≤ sl) := by
  unfold roomB
  simp only [Bool.and_eq_true, inB_iff, decide_eq_true_eq]
theorem subsV_bd (s : Int) : 0 ≤ subsV s := by unfold subsV; omega
theorem room_slots {sh sl ri ba hi subs m : Int} (h : roomB sh sl ri ba hi subs = true) (hs : sl ≤ 1000) (h0 : 0 ≤ m) (h1 : m ≤ 1000) : roomB sh (sl + m) ri ba hi subs = true := by
  rw [roomB_iff] at h ⊢
  obtain ⟨a, b, c, d, e, f⟩ := h
  exact ⟨a, ⟨by omega, by omega⟩, c, d, e, by omega⟩
theorem room_rings {sh sl ri ba hi subs m : Int} (h : roomB sh sl (ri + m) ba hi subs = true) (hs : 0 ≤ ri) (h0 : 0 ≤ m) : roomB sh sl ri ba hi subs = true := by
  rw [roomB_iff] at h ⊢
  obtain ⟨a, b, c, d, e, f⟩ := h
  exact ⟨a, b, ⟨by omega, by omega⟩, d, e, by omega⟩
theorem room_hands {sh sl ri ba hi subs m : Int} (h : roomB sh sl ri ba (hi + m) subs = true) (hs : 0 ≤ hi) (h0 : 0 ≤ m) : roomB sh sl ri ba hi subs = true := by
  rw [roomB_iff] at h ⊢
  obtain ⟨a, b, c, d, e, f⟩ := h
  have := Int.mul_le_mul_of_nonneg_left (show hi ≤ hi + m by omega) (subsV_bd subs)
  exact ⟨a, b, c, d, ⟨by omega, by omega⟩, by omega⟩
theorem room_subs {sh sl ri ba hi subs : Int} (h : roomB sh sl ri ba hi (subs + 1) = true) : roomB sh sl ri ba hi subs = true := by
  rw [roomB_iff] at h ⊢
  obtain ⟨a, b, c, d, e, f⟩ := h
  have := Int.mul_le_mul_of_nonneg_right (show subsV subs ≤ subsV (subs + 1) by unfold subsV; omega) e.1
  exact ⟨a, b, c, d, e, by omega⟩
end Go.Proofs.Ytjlclpdjblicjaa
