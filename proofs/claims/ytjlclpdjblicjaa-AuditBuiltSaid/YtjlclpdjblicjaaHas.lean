/-
  A slice that may be read: one that came in, or one of the call's own; writing into a slice of the call's own. No condition.
-/
import Derived.Test.YtjlclpdjblicjaaLine
import Derived.Test.YtjlclpdjblicjaaFit
namespace Go.Proofs.Ytjlclpdjblicjaa
open Go Go.RowKit Go.Sort
set_option linter.unusedVariables false

/-- The slice v has n elements of size cells each, which are xs. -/
def Has (w : World) (size : Nat) (v : Value) (n : Nat) (xs : List Value) : Prop :=
  xs.length = n * size ∧ ∃ ao cap, v = .slice ao n cap ∧ n ≤ cap ∧ cap ≤ maxLen ∧ (ao = none → cap = 0) ∧
    (0 < n → ∃ g off, ao = some ⟨g, off, none⟩ ∧ g < w.heap.size ∧ ∀ j u, xs[j]? = some u → w.cell? ⟨g, off + j, none⟩ = some u)
section
variable {w w' : World} {base size n : Nat} {v : Value} {xs : List Value}
theorem Has.of_line (h : Line w base size v n xs) : Has w size v n xs := by
  refine ⟨h.1, ?_⟩
  rcases h.2 with ⟨h1, h2⟩ | ⟨g, off, cap, hv, hb, hg, hn, hm, hc, hf⟩
  · subst h1 h2; exact ⟨none, 0, rfl, Nat.le_refl _, Nat.zero_le _, fun _ => rfl, fun h => absurd h (by omega)⟩
  · exact ⟨_, cap, hv, hn, hm, (fun h => by cases h), fun _ => ⟨g, off, rfl, hg, hc⟩⟩
theorem Has.len (h : Has w size v n xs) : xs.length = n * size := h.1
theorem Has.shape (h : Has w size v n xs) : ∃ ao cap, v = .slice ao n cap ∧ n ≤ cap ∧ cap ≤ maxLen := by
  obtain ⟨_, ao, cap, h1, h2, h3, _⟩ := h
  exact ⟨ao, cap, h1, h2, h3⟩
theorem Has.keep (h : Has w size v n xs) (k : Below w.heap.size w w') : Has w' size v n xs := by
  obtain ⟨h0, ao, cap, h1, h2, h3, h4, h5⟩ := h
  refine ⟨h0, ao, cap, h1, h2, h3, h4, fun hn => ?_⟩
  obtain ⟨g, off, e, hg, hc⟩ := h5 hn
  exact ⟨g, off, e, Nat.lt_of_lt_of_le hg k.size, fun j u hu => by rw [k.cell (p := ⟨g, off + j, none⟩) hg]; exact hc j u hu⟩
theorem Has.cell {ao : Option Addr} {cap : Nat} (h : Has w size (.slice ao n cap) n xs) (hn : 0 < n) : ∃ g off, ao = some ⟨g, off, none⟩ ∧ g < w.heap.size ∧ ∀ j u, xs[j]? = some u → w.cell? ⟨g, off + j, none⟩ = some u := by
  obtain ⟨_, ao', cap', h1, _, _, _, h5⟩ := h
  simp only [Value.slice.injEq, true_and] at h1
  obtain ⟨rfl, rfl⟩ := h1
  exact h5 hn
theorem Has.src (h : Has w size v n xs) (hn : 0 < n) (h1 : ∀ u ∈ xs, u.oneCell' = true) : Src w size v n xs := by
  obtain ⟨h0, ao, cap, rfl, h2, h3, h4, h5⟩ := h
  obtain ⟨g, off, rfl, hg, hc⟩ := h5 hn
  exact ⟨h0, h1, Or.inr ⟨_, cap, rfl, fun j u hu => by rw [Addr.add_lit]; exact hc j u hu⟩⟩
/-- An argument's slice: its elements' cells by a function of the place. -/
theorem Has.of_cells {ao : Option Addr} {cap : Nat} (f : Nat → List Value) (hf : ∀ i, (f i).length = size) (hsz : 0 < size) (hn : n ≤ cap) (hc : cap ≤ maxLen) (h0 : ao = none → cap = 0)
    (h : ∀ i, i < n → ∃ b off, ao = some ⟨b, off, none⟩ ∧ b < w.heap.size ∧ ∀ j, j < size → w.cell? ⟨b, off + i * size + j, none⟩ = (f i)[j]?) : Has w size (.slice ao n cap) n ((List.range n).flatMap f) := by
  have hl : ∀ m, ((List.range m).flatMap f).length = m * size := by
    intro m
    induction m with
    | zero => simp
    | succ m ih => rw [List.range_succ, List.flatMap_append, List.length_append, ih]; simp [hf, Nat.add_mul]
  have hg : ∀ m j u, ((List.range m).flatMap f)[j]? = some u → j < m * size ∧ (f (j / size))[j % size]? = some u := by
    intro m
    induction m with
    | zero => intro j u hu; simp at hu
    | succ m ih =>
      intro j u hu
      rw [List.range_succ, List.flatMap_append] at hu
      by_cases hj : j < m * size
      · rw [List.getElem?_append_left (by rw [hl]; exact hj)] at hu
        have := ih j u hu
        exact ⟨by rw [Nat.add_mul]; omega, this.2⟩
      · rw [List.getElem?_append_right (by rw [hl]; omega), hl] at hu
        simp only [List.flatMap_cons, List.flatMap_nil, List.append_nil] at hu
        have hlt := (List.getElem?_eq_some_iff.1 hu).1
        rw [hf] at hlt
        have e : j = m * size + (j - m * size) := by omega
        have e1 : j / size = m := by
          rw [e, Nat.add_comm, Nat.add_mul_div_right _ _ hsz, Nat.div_eq_of_lt hlt, Nat.zero_add]
        have e2 : j % size = j - m * size := by
          rw [e, Nat.add_comm, Nat.add_mul_mod_self_right, Nat.mod_eq_of_lt hlt]; omega
        exact ⟨by rw [Nat.add_mul]; omega, by rw [e1, e2]; exact hu⟩
  refine ⟨hl n, ao, cap, rfl, hn, hc, h0, fun hpos => ?_⟩
  obtain ⟨b, off, e, hb, _⟩ := h 0 hpos
  refine ⟨b, off, e, hb, fun j u hu => ?_⟩
  obtain ⟨hj, hu'⟩ := hg n j u hu
  have hi : j / size < n := by rw [Nat.div_lt_iff_lt_mul hsz]; exact hj
  obtain ⟨b', off', e', _, hcell⟩ := h (j / size) hi
  rw [e] at e'
  simp only [Option.some.injEq, Addr.mk.injEq, and_true] at e'
  obtain ⟨rfl, rfl⟩ := e'
  have := hcell (j % size) (Nat.mod_lt _ hsz)
  rw [hu'] at this
  rw [← this]
  congr 2
  have := Nat.div_add_mod' j size
  omega
/-- Cells written into a slice of the call's own. -/
theorem Line.put {g off cap i : Nat} {news : List Value} (h : Line w base size (.slice (some ⟨g, off, none⟩) n cap) n xs) (hi : i + news.length ≤ n * size) :
    Line (w.setCells g (off + i) news) base size (.slice (some ⟨g, off, none⟩) n cap) n (xs.take i ++ news ++ xs.drop (i + news.length)) := by
  have hl := h.1
  obtain ⟨_, c', ec, hnc, hcm⟩ := h.shape
  simp only [Value.slice.injEq, true_and] at ec
  obtain ⟨_, rfl⟩ := ec
  have hmul : n * size ≤ cap * size := Nat.mul_le_mul_right _ hnc
  have hin := World.cell?_setCells_in g news (off + i) w (fun j hj => by
    have := (h.free (j := i + j) (by omega)).1
    rwa [← Nat.add_assoc] at this)
  refine ⟨by simp; omega, Or.inr ⟨g, off, cap, rfl, (h.lt rfl).1, ?_, hnc, hcm, fun j u hu => ?_, fun j hj => ?_⟩⟩
  · have hlt : g < w.heap.size := (h.lt rfl).2
    have hz := (grownBy_setCells g news (off + i) w).size
    omega
  · by_cases h1 : j < i
    · rw [World.cell?_setCells_out g _ _ _ _ (fun _ _ => by simp; omega)]
      rw [List.append_assoc, List.getElem?_append_left (by simp; omega), List.getElem?_take_of_lt h1] at hu
      exact h.cell hu
    · by_cases h2 : j < i + news.length
      · have e := hin (j - i) (by omega)
        rw [show off + i + (j - i) = off + j by omega] at e
        rw [e]
        rw [List.append_assoc, List.getElem?_append_right (by simp; omega), List.getElem?_append_left (by simp; omega)] at hu
        have hlen : (xs.take i).length = i := by simp; omega
        rw [hlen] at hu
        rw [← hu, List.getElem?_eq_getElem (by omega)]
      · rw [World.cell?_setCells_out g _ _ _ _ (fun _ _ => by simp; omega)]
        rw [List.getElem?_append_right (by simp; omega)] at hu
        have hlen : (xs.take i ++ news).length = i + news.length := by simp; omega
        rw [hlen, List.getElem?_drop] at hu
        rw [show i + news.length + (j - (i + news.length)) = j by omega] at hu
        exact h.cell hu
  · rw [World.frozen?_setCells]
    refine ⟨?_, (h.free hj).2⟩
    by_cases h2 : i ≤ j ∧ j < i + news.length
    · have e := hin (j - i) (by omega)
      rw [show off + i + (j - i) = off + j by omega] at e
      rw [e]; rfl
    · rw [World.cell?_setCells_out g _ _ _ _ (fun _ _ => by simp; omega)]
      exact (h.free hj).1
end
end Go.Proofs.Ytjlclpdjblicjaa
