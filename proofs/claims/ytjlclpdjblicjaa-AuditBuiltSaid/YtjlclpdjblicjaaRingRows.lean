/-
  A row of the call's own behind writes to other blocks. No condition.
-/
import Derived.Test.YtjlclpdjblicjaaRingActs
namespace Go.Proofs.Ytjlclpdjblicjaa
open Go.RowKit Go.Sort Go.BigFrame
set_option linter.unusedVariables false
/-- A row stays where its block stands. -/
theorem own_block {w w' : World} {B e size n : Nat} {v : Value} {xs : List Value} (h : w.ownsRow B e size v n xs) (k : ∀ q, v.ownBlock = some q → w'.heap[q]? = w.heap[q]?) : w'.ownsRow B e size v n xs := by
  refine ⟨h.1, ?_⟩
  rcases h.2 with h1 | ⟨g, cap, cur, hv, hb, hg, r⟩
  · exact Or.inl h1
  · exact Or.inr ⟨g, cap, cur, hv, hb, by rw [k g (by rw [hv]; rfl)]; exact hg, r⟩
/-- The row's block lies in the world, from the base on. -/
theorem own_lt {w : World} {B e size n q : Nat} {v : Value} {xs : List Value} (h : w.ownsRow B e size v n xs) (hq : v.ownBlock = some q) : B ≤ q ∧ q < w.heap.size := by
  rcases h.2 with ⟨h1, _⟩ | ⟨g, cap, cur, hv, hb, hg, r⟩
  · subst h1; simp [Value.ownBlock] at hq
  · subst hv; simp [Value.ownBlock] at hq; subst hq; exact ⟨hb, (Array.getElem?_eq_some_iff.1 hg).1⟩
theorem own_frame2 {w w' : World} {B e size n b g : Nat} {v : Value} {xs : List Value} (h : w.ownsRow B e size v n xs) (k : Frame2 b g w w') (hb : v.ownBlock ≠ some b) (hg : v.ownBlock ≠ some g) : w'.ownsRow B e size v n xs :=
  own_block h fun q hq => k.block q (own_lt h hq).2 (fun e => hb (by rw [hq, e])) (fun e => hg (by rw [hq, e]))
theorem own_grown {w w' : World} {B e size n : Nat} {v : Value} {row : Option Nat} {xs : List Value} (h : w.ownsRow B e size v n xs) (k : w.grownBy w' row) (hr : ∀ q, v.ownBlock = some q → row ≠ some q) : w'.ownsRow B e size v n xs :=
  own_block h fun q hq => k.block q (own_lt h hq).2 (fun e => hr q hq (by first | exact e | exact e.symm))
end Go.Proofs.Ytjlclpdjblicjaa
