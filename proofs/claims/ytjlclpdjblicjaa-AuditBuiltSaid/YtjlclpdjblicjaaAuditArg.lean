/-
  The arguments of the audit's laws: what of a config and of a snap that fit their types is known. No condition.
-/
import Derived.Test.YtjlclpdjblicjaaAuditCount
namespace Go.Proofs.Ytjlclpdjblicjaa
open Go.RowKit Go.Sort Go.BigFrame
set_option linter.unusedVariables false
theorem cells_conf : Try.prog.cellsOf 73 = 5 := by kernel_rfl
theorem list_conf {l : List Value} (h : l.length = 5) : ∃ x0 x1 x2 x3 x4, l = [x0, x1, x2, x3, x4] := by
  match l, h with
  | [x0, x1, x2, x3, x4], _ => exact ⟨x0, x1, x2, x3, x4, rfl⟩
def isI64 (x : Int) : Prop := -9223372036854775808 ≤ x ∧ x ≤ 9223372036854775807
theorem fit_conf {w : World} {n : Nat} {cs : List Value} (h : FitW Try.prog w (n + 2) 73 cs) : ∃ (sh sl ri ba hi : Int), cs = [.int .i64 sh, .int .i64 sl, .int .i64 ri, .int .i64 ba, .int .i64 hi] ∧ isI64 sh ∧ isI64 sl ∧ isI64 ri ∧ isI64 ba ∧ isI64 hi := by
  obtain ⟨hlen, h⟩ := fit_struct Try.underlying73 h
  rw [cells_conf] at hlen
  obtain ⟨x0, x1, x2, x3, x4, rfl⟩ := list_conf hlen
  clear hlen
  obtain ⟨z0, e0, c0⟩ := fit_i64 Try.underlying3 (h 0 _ rfl)
  simp [(show Try.prog.cellsOf 3 = 1 by kernel_rfl)] at e0
  obtain ⟨z1, e1, c1⟩ := fit_i64 Try.underlying3 (h 1 _ rfl)
  simp [(show Try.prog.cellsOf 3 = 1 by kernel_rfl)] at e1
  obtain ⟨z2, e2, c2⟩ := fit_i64 Try.underlying3 (h 2 _ rfl)
  simp [(show Try.prog.cellsOf 3 = 1 by kernel_rfl)] at e2
  obtain ⟨z3, e3, c3⟩ := fit_i64 Try.underlying3 (h 3 _ rfl)
  simp [(show Try.prog.cellsOf 3 = 1 by kernel_rfl)] at e3
  obtain ⟨z4, e4, c4⟩ := fit_i64 Try.underlying3 (h 4 _ rfl)
  simp [(show Try.prog.cellsOf 3 = 1 by kernel_rfl)] at e4
  subst e0
  subst e1
  subst e2
  subst e3
  subst e4
  exact ⟨z0, z1, z2, z3, z4, rfl, c0, c1, c2, c3, c4⟩
theorem arg_conf {w : World} {v : Value} (h : Arg Try.prog w 73 v) : ∃ (sh sl ri ba hi : Int), v = .agg #[.int .i64 sh, .int .i64 sl, .int .i64 ri, .int .i64 ba, .int .i64 hi] ∧ isI64 sh ∧ isI64 sl ∧ isI64 ri ∧ isI64 ba ∧ isI64 hi := by
  obtain ⟨⟨l⟩, rfl, h'⟩ := arg_struct Try.underlying73 h
  obtain ⟨sh, sl, ri, ba, hi, e, k⟩ := fit_conf h'
  simp only at e
  subst e
  exact ⟨sh, sl, ri, ba, hi, rfl, k⟩
theorem fit_slot {w : World} {n : Nat} {cs : List Value} (h : FitW Try.prog w (n + 2) 95 cs) : ∃ x : Int × Int, cs = slC x ∧ (0 ≤ x.1 ∧ x.1 ≤ 4294967295) ∧ isI64 x.2 := by
  obtain ⟨hlen, h⟩ := fit_struct Try.underlying95 h
  rw [show Try.prog.cellsOf 95 = 2 by kernel_rfl] at hlen
  obtain ⟨x0, x1, rfl⟩ := list_handle hlen
  clear hlen
  obtain ⟨z0, e0, c0⟩ := fit_u32 Try.underlying28 (h 0 _ rfl)
  simp [(show Try.prog.cellsOf 28 = 1 by kernel_rfl)] at e0
  obtain ⟨z1, e1, c1⟩ := fit_i64 Try.underlying3 (h 1 _ rfl)
  simp [(show Try.prog.cellsOf 3 = 1 by kernel_rfl)] at e1
  subst e0
  subst e1
  exact ⟨(z0, z1), rfl, c0, c1⟩
theorem fit_hand {w : World} {n : Nat} {cs : List Value} (h : FitW Try.prog w (n + 2) 30 cs) : ∃ x : Int × Int, cs = hdC x ∧ isI64 x.1 ∧ (0 ≤ x.2 ∧ x.2 ≤ 4294967295) := by
  obtain ⟨a, b, rfl, h1, h2, h3, h4⟩ := fit_handle h
  exact ⟨(a, b), rfl, ⟨h1, h2⟩, h3, h4⟩
set_option maxRecDepth 20000 in
/-- A slice of pairs: its cells, and what is known of each. -/
theorem fit_pairs {f : Int × Int → List Value} {K : Int × Int → Prop} {t e : TypeId} (hf : ∀ x, (f x).length = 2) (hK : K (0, 0)) {w : World} {n : Nat} {cs : List Value}
    (ht : Try.prog.underlying t = some (.slice e)) (hc : Try.prog.cellsOf e = 2) (hfit : ∀ es, FitW Try.prog w (n + 2) e es → ∃ x, es = f x ∧ K x) (h : FitW Try.prog w (n + 3) t cs) :
    ∃ v, cs = [v] ∧ ∃ l : List (Int × Int), (∀ x ∈ l, K x) ∧ Has w 2 v l.length (l.flatMap f) := by
  obtain ⟨a, len, cap, h1, h2, h3, h4, h5⟩ := fit_slice (n := n + 2) ht hc (by omega) h
  refine ⟨_, h1, ?_⟩
  have hx : ∀ i, ∃ x : Int × Int, K x ∧ (i < len → ∃ b off, a = some ⟨b, off, none⟩ ∧ b < w.heap.size ∧ ∀ j, j < 2 → w.cell? ⟨b, off + i * 2 + j, none⟩ = (f x)[j]?) := by
    intro i
    by_cases hi : i < len
    · obtain ⟨b, off, es, e1, e2, e3, e4, e5⟩ := h5 i hi
      obtain ⟨x, rfl, k⟩ := hfit _ e5
      exact ⟨x, k, fun _ => ⟨b, off, e1, e2, fun j hj => e4 j hj⟩⟩
    · exact ⟨(0, 0), hK, fun h => absurd h hi⟩
  obtain ⟨g, hg⟩ := Classical.axiomOfChoice hx
  have hl : ((List.range len).map g).length = len := by simp
  refine ⟨(List.range len).map g, ?_, ?_⟩
  · intro x hx
    simp only [List.mem_map] at hx
    obtain ⟨i, _, rfl⟩ := hx
    exact (hg i).1
  · rw [hl]
    have := Has.of_cells (w := w) (ao := a) (n := len) (cap := cap) (size := 2) (fun i => f (g i)) (fun i => hf (g i)) (by decide) h2 h3 h4 (fun i hi => by
      obtain ⟨b, off, e1, e2, e3⟩ := (hg i).2 hi
      exact ⟨b, off, e1, e2, fun j hj => by rw [e3 j hj]⟩)
    have e : (List.range len).flatMap (fun i => f (g i)) = ((List.range len).map g).flatMap f := by
      induction List.range len with
      | nil => rfl
      | cons x r ih => rw [List.flatMap_cons, List.map_cons, List.flatMap_cons, ih]
    rwa [e] at this
def slotOk (x : Int × Int) : Prop := (0 ≤ x.1 ∧ x.1 ≤ 4294967295) ∧ isI64 x.2
def handOk (x : Int × Int) : Prop := isI64 x.1 ∧ (0 ≤ x.2 ∧ x.2 ≤ 4294967295)
theorem list_snap {l : List Value} (h : l.length = 4) : ∃ x0 x1 x2 x3, l = [x0, x1, x2, x3] := by
  match l, h with
  | [x0, x1, x2, x3], _ => exact ⟨x0, x1, x2, x3, rfl⟩
theorem arg_snap {w : World} {v : Value} (h : Arg Try.prog w 71 v) : ∃ (sv rv wv hv : Value) (S R Wr H : List (Int × Int)), v = snapV sv rv wv hv ∧ Has w 2 sv S.length (sls S) ∧ Has w 2 rv R.length (hds R) ∧ Has w 2 wv Wr.length (hds Wr) ∧ Has w 2 hv H.length (hds H) ∧
    (∀ x ∈ S, slotOk x) ∧ (∀ x ∈ R, handOk x) ∧ (∀ x ∈ Wr, handOk x) ∧ (∀ x ∈ H, handOk x) := by
  obtain ⟨⟨l⟩, rfl, h'⟩ := arg_struct Try.underlying71 h
  obtain ⟨hlen, h'⟩ := fit_struct Try.underlying71 h'
  rw [show Try.prog.cellsOf 71 = 4 by kernel_rfl] at hlen
  obtain ⟨x0, x1, x2, x3, e⟩ := list_snap hlen
  simp only at e h'
  subst e
  clear hlen h
  have c68 : Try.prog.cellsOf 68 = 1 := by kernel_rfl
  have c69 : Try.prog.cellsOf 69 = 1 := by kernel_rfl
  have c95 : Try.prog.cellsOf 95 = 2 := by kernel_rfl
  have k1 : slotOk (0, 0) := ⟨⟨by decide, by decide⟩, by decide, by decide⟩
  have k2 : handOk (0, 0) := ⟨⟨by decide, by decide⟩, by decide, by decide⟩
  obtain ⟨v0, e0, S, hS, H0⟩ := fit_pairs (f := slC) (K := slotOk) (n := 5) (fun _ => rfl) k1 Try.underlying68 c95 (fun es h => fit_slot h) (h' 0 _ rfl)
  obtain ⟨v1, e1, R, hR, H1⟩ := fit_pairs (f := hdC) (K := handOk) (n := 5) (fun _ => rfl) k2 Try.underlying69 cells_handle (fun es h => fit_hand h) (h' 1 _ rfl)
  obtain ⟨v2, e2, Q, hQ, H2⟩ := fit_pairs (f := hdC) (K := handOk) (n := 5) (fun _ => rfl) k2 Try.underlying69 cells_handle (fun es h => fit_hand h) (h' 2 _ rfl)
  obtain ⟨v3, e3, H, hH, H3⟩ := fit_pairs (f := hdC) (K := handOk) (n := 5) (fun _ => rfl) k2 Try.underlying69 cells_handle (fun es h => fit_hand h) (h' 3 _ rfl)
  simp [c68] at e0
  simp [c69] at e1 e2 e3
  subst e0
  subst e1
  subst e2
  subst e3
  exact ⟨_, _, _, _, S, R, Q, H, rfl, H0, H1, H2, H3, hS, hR, hQ, hH⟩
end Go.Proofs.Ytjlclpdjblicjaa
