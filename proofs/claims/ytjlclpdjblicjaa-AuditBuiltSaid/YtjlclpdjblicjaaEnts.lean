/-
  Entries that came in: what the reading of an argument tells of them; and some general facts. No condition.
-/
import Derived.Test.YtjlclpdjblicjaaTypes
import Derived.Test.YtjlclpdjblicjaaBlk
import Derived.Test.YtjlclpdjblicjaaHas
import Derived.Test.YtjlclpdjblicjaaLine2
import Derived.Test.YtjlclpdjblicjaaRingRef
namespace Go.Proofs.Ytjlclpdjblicjaa
open Go.RowKit Go.Sort Go.BigFrame
set_option linter.unusedVariables false
set_option maxRecDepth 10000
section
variable {P : Program} (w : World)
/-- append behind a guard that says yes. -/
theorem wpList_append_guard {ops : Array Oper} {rest : List Oper} {o : Oper} {a : Act} {Q : Exit → Act → World → Prop} (hgd : Region.wanted o (yielded ops a.tmps) = true) (s x : Operand) (t : TypeId)
    (ho : o.op = .call { callee := .builtin .append, args := #[s, x], argTypes := #[t, t] })
    (base : Nat) (e : TypeId) (i : TypeInfo) (z : Value) (size bytes : Nat) (ht : P.underlying t = some (.slice e)) (hi : P.info? e = some i) (hz : i.zero = some z)
    (hsize : i.size = size) (hby : i.bytes = bytes) (hzs : z.cells.size = size) (hsz : 0 < size)
    (v y : Value) (n m : Nat) (xs news : List Value) (hs : a.eval s = v) (hx : a.eval x = y) (hown : Line w base size v n xs) (hsrc : Src w size y m news)
    (h63 : n + m ≤ maxLen) (hbytes : (n + m) * bytes ≤ 140737488355328) (hbase : base ≤ w.heap.size) (H : Nat) (hH : w.heap.size = H)
    (h : ∀ v' w', Line w' base size v' (n + m) (xs ++ news) → w.grownBy w' v.ownBlock → (v'.ownBlock = v.ownBlock ∨ v'.ownBlock = some H) → wpList P ops Q rest (a.put o.dst v') w') : wpList P ops Q (o :: rest) a w :=
  wpList_step fun K hK => by
    simp only [hgd, if_true]
    exact wp_append_line w s x t ho base e i z size bytes ht hi hz hsize hby hzs hsz v y n m xs news hs hx hown hsrc h63 hbytes hbase H hH fun v' w' h2 h3 h4 => hK _ _ (h v' w' h2 h3 h4)
end
theorem Has.src' {w : World} {size n : Nat} {v : Value} {xs : List Value} (h : Has w size v n xs) (h1 : ∀ u ∈ xs, u.oneCell' = true) : Src w size v n xs := by
  rcases Nat.eq_zero_or_pos n with rfl | hn
  · obtain ⟨h0, ao, cap, rfl, h2, h3, h4, h5⟩ := h
    have hx : xs = [] := List.eq_nil_of_length_eq_zero (by simpa using h0)
    subst hx
    cases ao with
    | none => rw [h4 rfl]; exact ⟨h0, h1, Or.inl ⟨rfl, rfl⟩⟩
    | some a => exact ⟨h0, h1, Or.inr ⟨a, cap, rfl, fun j u hu => by simp at hu⟩⟩
  · exact h.src hn h1
theorem has_blk {w : World} {b size n : Nat} {cs : Array Value} {t : TypeId} (h : BlkIs w b cs t) (hs : cs.size = n * size) (hn : n ≤ maxLen) (xs : List Value) (hx : cs.toList = xs) : Has w size (.slice (some ⟨b, 0, none⟩) n n) n xs := by
  subst hx
  refine ⟨by simpa using hs, _, _, rfl, Nat.le_refl _, hn, (fun e => by cases e), fun _ => ⟨b, 0, rfl, h.lt, fun j u hu => ?_⟩⟩
  rw [Nat.zero_add, cell_blk (w := w) (b := b)]
  simpa using hu
theorem blk_at {w : World} {b : Nat} {cs : Array Value} {t : TypeId} (h : BlkIs w b cs t) : ∀ j u, cs.toList[j]? = some u → w.cell? ⟨b, j, none⟩ = some u := by
  intro j u hj
  rw [cell_blk (w := w) (b := b)]
  simpa using hj
/-- An entry: its number and what else it says. -/
abbrev Ent := Int × Int × Int × Int × Int × Int × Int
def entC (x : Ent) : List Value := [.int .u16 x.1, .int .i64 x.2.1, .int .u32 x.2.2.1, .int .u16 x.2.2.2.1, .int .u32 x.2.2.2.2.1, .int .u32 x.2.2.2.2.2.1, .int .u16 x.2.2.2.2.2.2]
def ents (l : List Ent) : List Value := l.flatMap entC
def e0 : Ent := (0, 0, 0, 0, 0, 0, 0)
def fitsE (l : List Ent) : Prop := ∀ x ∈ l, 0 ≤ x.1 ∧ x.1 ≤ 65535
theorem entC_len (x : Ent) : (entC x).length = 7 := rfl
theorem ents_len (l : List Ent) : (ents l).length = l.length * 7 := by
  induction l with
  | nil => rfl
  | cons x r ih => unfold ents at *; rw [List.flatMap_cons, List.length_append, ih, entC_len, List.length_cons]; omega
theorem ents_app (a b : List Ent) : ents (a ++ b) = ents a ++ ents b := by simp [ents]
theorem ents_snoc (a : List Ent) (x : Ent) : ents (a ++ [x]) = ents a ++ entC x := by simp [ents]
theorem ents_one (l : List Ent) : ∀ u ∈ ents l, u.oneCell' = true := by
  intro u hu
  unfold ents at hu
  obtain ⟨x, _, hx⟩ := List.mem_flatMap.1 hu
  simp only [entC, List.mem_cons, List.not_mem_nil, or_false] at hx
  rcases hx with h | h | h | h | h | h | h <;> subst h <;> simp [Value.oneCell']
theorem ents_at (l : List Ent) (k : Nat) (hk : k < l.length) (j : Nat) (hj : j < 7) : (ents l)[k * 7 + j]? = (entC (l.getD k e0))[j]? := by
  induction l generalizing k with
  | nil => simp at hk
  | cons x r ih =>
    have e : ents (x :: r) = entC x ++ ents r := by simp [ents]
    rw [e]
    cases k with
    | zero => rw [List.getElem?_append_left (by rw [entC_len]; omega)]; simp
    | succ k =>
      rw [List.getElem?_append_right (by rw [entC_len]; omega), entC_len, show (k + 1) * 7 + j - 7 = k * 7 + j by omega, ih k (by simpa using hk)]
      simp
theorem fitsE_getD {l : List Ent} (h : fitsE l) (k : Nat) : 0 ≤ (l.getD k e0).1 ∧ (l.getD k e0).1 ≤ 65535 := by
  rw [List.getD_eq_getElem?_getD]
  cases e : l[k]? with
  | none => simp [e0]
  | some x => exact h x (List.mem_of_getElem? e)
theorem arg_ents {w : World} {v : Value} (h : Arg Try.prog w 49 v) : ∃ l : List Ent, fitsE l ∧ Has w 7 v l.length (ents l) := by
  obtain ⟨a, len, cap, h1, h2, h3, h4, h5⟩ := fit_slice Try.underlying49 (show Try.prog.cellsOf 54 = 7 by kernel_rfl) (by omega) (arg_slice Try.underlying49 h)
  simp only [List.cons.injEq, and_true] at h1
  subst h1
  have hx : ∀ i, ∃ x : Ent, (0 ≤ x.1 ∧ x.1 ≤ 65535) ∧ (i < len → ∃ b off, a = some ⟨b, off, none⟩ ∧ b < w.heap.size ∧ ∀ j, j < 7 → w.cell? ⟨b, off + i * 7 + j, none⟩ = (entC x)[j]?) := by
    intro i
    by_cases hi : i < len
    · obtain ⟨b, off, es, e1, e2, e3, e4, e5⟩ := h5 i hi
      obtain ⟨x0, x1, x2, x3, x4, x5, x6, rfl, c1, c2, _⟩ := fit_entry e5
      refine ⟨(x0, x1, x2, x3, x4, x5, x6), ⟨c1, c2⟩, fun _ => ⟨b, off, e1, e2, fun j hj => ?_⟩⟩
      have := e4 j (by simpa using hj)
      rw [this]
      match j, hj with
      | 0, _ => rfl
      | 1, _ => rfl
      | 2, _ => rfl
      | 3, _ => rfl
      | 4, _ => rfl
      | 5, _ => rfl
      | 6, _ => rfl
    · exact ⟨e0, by decide, fun h => absurd h hi⟩
  obtain ⟨f, hf⟩ := Classical.axiomOfChoice hx
  have hl : ((List.range len).map f).length = len := by simp
  refine ⟨(List.range len).map f, ?_, ?_⟩
  · intro x hx
    simp only [List.mem_map] at hx
    obtain ⟨i, _, rfl⟩ := hx
    exact (hf i).1
  · rw [hl]
    have := Has.of_cells (w := w) (ao := a) (n := len) (cap := cap) (size := 7) (fun i => entC (f i)) (fun _ => rfl) (by decide) h2 h3 h4 (fun i hi => by
      obtain ⟨b, off, e1, e2, e3⟩ := (hf i).2 hi
      refine ⟨b, off, e1, e2, fun j hj => ?_⟩
      rw [e3 j hj])
    have e : (List.range len).flatMap (fun i => entC (f i)) = ents ((List.range len).map f) := by
      unfold ents
      induction List.range len with
      | nil => rfl
      | cons x r ih => rw [List.flatMap_cons, List.map_cons, List.flatMap_cons, ih]
    rwa [e] at this
/-- The k-th entry's cells. -/
theorem ent_cells {w : World} {n : Nat} {v : Value} {l : List Ent} (h : Has w 7 v n (ents l)) (hl : l.length = n) (k : Nat) (hk : k < n) :
    ∃ g off cap, v = .slice (some ⟨g, off, none⟩) n cap ∧ g < w.heap.size ∧ cap ≤ maxLen ∧ ∀ j, j < 7 → w.cell? ⟨g, off + k * 7 + j, none⟩ = (entC (l.getD k e0))[j]? := by
  obtain ⟨ao, cap, rfl, _, hc⟩ := h.shape
  obtain ⟨g, off, rfl, hg, hcell⟩ := h.cell (by omega)
  refine ⟨g, off, cap, rfl, hg, hc, fun j hj => ?_⟩
  have e := ents_at l k (by omega) j hj
  have e2 : (entC (l.getD k e0))[j]? = some (entC (l.getD k e0))[j] := List.getElem?_eq_getElem (by rw [entC_len]; exact hj)
  rw [e2] at e ⊢
  rw [Nat.add_assoc]
  exact hcell _ _ e
theorem info54 : (Try.prog.info? 54).map (fun i => (i.zero, i.size, i.bytes)) = some (some (.agg #[.int .u16 0, .int .i64 0, .int .u32 0, .int .u16 0, .int .u32 0, .int .u32 0, .int .u16 0]), 7, 40) := by kernel_rfl
end Go.Proofs.Ytjlclpdjblicjaa
