/-
  What the bound on the bulk gives: how long a slice that came in may be. No condition.
-/
import Derived.Test.YtjlclpdjblicjaaRows
import Derived.Test.YtjlclpdjblicjaaSmall
import Derived.ChangeArms
namespace Go.Proofs.Ytjlclpdjblicjaa
open Go
set_option linter.unusedVariables false
theorem bulk_one {H : Type} (d : DataW H) : 1 ≤ Rows.uptoBulk d := by
  cases d with
  | lit l => cases l <;> simp [Rows.uptoBulk]
  | nil => simp [Rows.uptoBulk]
  | ptr d => simp [Rows.uptoBulk]
  | slice elems spare => simp [Rows.uptoBulk]
  | agg parts => simp [Rows.uptoBulk]
  | iface t d => simp [Rows.uptoBulk]
  | map entries => simp [Rows.uptoBulk]
  | held h => simp [Rows.uptoBulk]
theorem bulk_mem {H : Type} {d : DataW H} {l : List (DataW H)} (h : d ∈ l) : Rows.uptoBulk d ≤ Rows.uptoBulkAll l := by
  induction l with
  | nil => cases h
  | cons x r ih =>
    simp only [Rows.uptoBulkAll]
    cases List.mem_cons.1 h with
    | inl e => subst e; omega
    | inr e => have := ih e; omega
theorem bulk_len {H : Type} (l : List (DataW H)) : l.length ≤ Rows.uptoBulkAll l := by
  induction l with
  | nil => simp [Rows.uptoBulkAll]
  | cons x r ih => have := bulk_one x; simp only [Rows.uptoBulkAll, List.length_cons]; omega
theorem bulk_all {H : Type} {l : List (DataW H)} (hk : Rows.uptoSmall H l = true) (d : DataW H) (h : d ∈ l) : Rows.uptoBulk d ≤ 1048576 :=
  Nat.le_trans (bulk_mem h) (of_decide_eq_true hk)
theorem small_cells {H : Type} {enc : TypeId × Value → H} {P : Program} {w : World} {base : Nat} {spare : Nat → Bool} {held : Bool} {t e : TypeId} {v : Value} {m : Nat} {x : DataW H × List MemPlace}
    (ht : P.underlying t = some (.slice e)) (hm : DataW.trod enc P w base spare held m t [v] = some x) (hb : Rows.uptoBulk x.1 ≤ 1048576) : Small v := by
  intro ao len cap hv
  subst hv
  rcases DataW.trod_slice ht hm with ⟨h1, _⟩ | ⟨a, len', cap', elems, rest, m', _, h1, h2, _, _, _, hl, _⟩
  · simp at h1; omega
  · simp at h1
    obtain ⟨_, rfl, _⟩ := h1
    subst h2
    have := bulk_len (elems.map (·.1))
    simp only [Rows.uptoBulk, List.length_map] at hb this
    omega
theorem small_slice {H : Type} {enc : TypeId × Value → H} {P : Program} {w : World} {base : Nat} {spare : Nat → Bool} {held : Bool} {t e : TypeId} {v : Value} {d : DataW H} {p : List MemPlace}
    (ht : P.underlying t = some (.slice e)) (h : DataW.Trod enc P w base spare held t v d p) (hb : Rows.uptoBulk d ≤ 1048576) : Small v := by
  obtain ⟨m, hm⟩ := h
  intro ao len cap hv
  subst hv
  rcases DataW.trod_slice ht hm with ⟨h1, _⟩ | ⟨a, len', cap', elems, rest, m', _, h1, h2, _, _, _, hl, _⟩
  · simp [Value.cells] at h1; omega
  · simp [Value.cells] at h1
    obtain ⟨_, rfl, _⟩ := h1
    simp only [Prod.mk.injEq] at h2
    obtain ⟨rfl, _⟩ := h2
    have := bulk_len (elems.map (·.1))
    simp only [Rows.uptoBulk, List.length_map] at hb this
    omega
theorem small_snap {H : Type} {enc : TypeId × Value → H} {P : Program} {w : World} {base : Nat} {spare : Nat → Bool} {held : Bool} {t e0 e1 e2 e3 : TypeId} {f0 f1 f2 f3 : Field} {v : Value} {d : DataW H} {p : List MemPlace}
    (ht : P.underlying t = some (.struct #[f0, f1, f2, f3])) (h0 : P.underlying f0.type = some (.slice e0)) (h1 : P.underlying f1.type = some (.slice e1)) (h2 : P.underlying f2.type = some (.slice e2)) (h3 : P.underlying f3.type = some (.slice e3))
    (ho : f0.offset = 0 ∧ f1.offset = 1 ∧ f2.offset = 2 ∧ f3.offset = 3) (hc : P.cellsOf f0.type = 1 ∧ P.cellsOf f1.type = 1 ∧ P.cellsOf f2.type = 1 ∧ P.cellsOf f3.type = 1)
    (h : DataW.Trod enc P w base spare held t v d p) (hb : Rows.uptoBulk d ≤ 1048576) : SmallSnap v := by
  obtain ⟨m, hm⟩ := h
  intro a b c q hv
  subst hv
  obtain ⟨xs, n, _, e, _, hl, hf⟩ := DataW.trod_struct ht hm
  match xs, hl with
  | [x0, x1, x2, x3], _ =>
    obtain ⟨c0, c1, c2, c3⟩ := hc
    obtain ⟨o0, o1, o2, o3⟩ := ho
    have g0 := hf 0 f0 rfl
    have g1 := hf 1 f1 rfl
    have g2 := hf 2 f2 rfl
    have g3 := hf 3 f3 rfl
    rw [o0, c0] at g0
    rw [o1, c1] at g1
    rw [o2, c2] at g2
    rw [o3, c3] at g3
    simp only [Prod.mk.injEq] at e
    obtain ⟨rfl, _⟩ := e
    simp only [Rows.uptoBulk, List.map_cons, List.map_nil, Rows.uptoBulkAll] at hb
    exact ⟨small_cells h0 g0 (by omega), small_cells h1 g1 (by omega), small_cells h2 g2 (by omega), small_cells h3 g3 (by omega)⟩
end Go.Proofs.Ytjlclpdjblicjaa
