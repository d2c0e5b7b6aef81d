/-
  A slice of the call's own, wherever in its block it begins: how it is read, kept, cut, written, appended to. No condition.
-/
import Derived.Test.YtoipldpekiikjaaGreatDoorMore
import Derived.Laws.IdiomCopy
import Derived.Deep.AppendLies
import Derived.ArgAppend
import Derived.Laws.OwnMore
namespace Go.Proofs.YtoipldpekiikjaaGreatDoor
open Go Go.RowKit Go.Sort

/-- The slice v has n elements of size cells each, which are xs; it lies in a block from base on, whose cells may be written. -/
def Line (w : World) (base size : Nat) (v : Value) (n : Nat) (xs : List Value) : Prop :=
  xs.length = n * size ∧ ((v = .slice none 0 0 ∧ n = 0) ∨ ∃ g off cap, v = .slice (some ⟨g, off, none⟩) n cap ∧ base ≤ g ∧ g < w.heap.size ∧ n ≤ cap ∧ cap ≤ maxLen ∧
    (∀ j u, xs[j]? = some u → w.cell? ⟨g, off + j, none⟩ = some u) ∧ (∀ j, j < cap * size → (w.cell? ⟨g, off + j, none⟩).isSome = true ∧ w.frozen? ⟨g, off + j, none⟩ = false))

section
variable {w w' : World} {base size n : Nat} {v : Value} {xs : List Value}

theorem Line.nil (w : World) (base size : Nat) : Line w base size (.slice none 0 0) 0 [] := ⟨by simp, .inl ⟨rfl, rfl⟩⟩
theorem Line.len (h : Line w base size v n xs) : xs.length = n * size := h.1
theorem Line.of_own {e : TypeId} (h : w.ownsRow base e size v n xs) : Line w base size v n xs := by
  refine ⟨h.1, ?_⟩
  rcases h.2 with h1 | ⟨g, cap, cur, hv, hb, hg, hn, hc, hs, ht⟩
  · exact .inl h1
  · refine .inr ⟨g, 0, cap, hv, hb, (Array.getElem?_eq_some_iff.1 hg).1, hn, hc, fun j u hu => ?_, fun j hj => ?_⟩
    · have := h.cells (g := g) (by rw [hv]; rfl) j u hu
      rw [Addr.add_lit] at this
      exact this
    · rw [Nat.zero_add]
      have hlt : j < cur.size := by omega
      refine ⟨?_, ?_⟩
      · rw [cell_of_row w g j cur e (0, 0) hg]; simp [hlt]
      · simp [World.frozen?, hg]
theorem Line.shape (h : Line w base size v n xs) : ∃ ao cap, v = .slice ao n cap ∧ n ≤ cap ∧ cap ≤ maxLen := by
  rcases h.2 with ⟨h1, h2⟩ | ⟨g, off, cap, hv, hb, hg, hn, hc, _⟩
  · subst h1 h2; exact ⟨none, 0, rfl, Nat.le_refl _, Nat.zero_le _⟩
  · exact ⟨_, cap, hv, hn, hc⟩
theorem Line.form (h : Line w base size v n xs) (hn : 0 < n) : ∃ g off cap, v = .slice (some ⟨g, off, none⟩) n cap ∧ base ≤ g ∧ g < w.heap.size ∧ n ≤ cap ∧ cap ≤ maxLen := by
  rcases h.2 with ⟨h1, h2⟩ | ⟨g, off, cap, hv, hb, hg, hnc, hc, _⟩
  · omega
  · exact ⟨g, off, cap, hv, hb, hg, hnc, hc⟩
theorem Line.cell {g off cap : Nat} (h : Line w base size (.slice (some ⟨g, off, none⟩) n cap) n xs) {j : Nat} {u : Value} (hu : xs[j]? = some u) : w.cell? ⟨g, off + j, none⟩ = some u := by
  rcases h.2 with ⟨h1, h2⟩ | ⟨g', off', cap', hv, _, _, _, _, hc, _⟩
  · simp at h1
  · simp only [Value.slice.injEq, Option.some.injEq, Addr.mk.injEq, and_true, true_and] at hv
    obtain ⟨⟨rfl, rfl⟩, rfl⟩ := hv
    exact hc j u hu
theorem Line.free {g off cap : Nat} (h : Line w base size (.slice (some ⟨g, off, none⟩) n cap) n xs) {j : Nat} (hj : j < cap * size) : (w.cell? ⟨g, off + j, none⟩).isSome = true ∧ w.frozen? ⟨g, off + j, none⟩ = false := by
  rcases h.2 with ⟨h1, h2⟩ | ⟨g', off', cap', hv, _, _, _, _, _, hf⟩
  · simp at h1
  · simp only [Value.slice.injEq, Option.some.injEq, Addr.mk.injEq, and_true, true_and] at hv
    obtain ⟨⟨rfl, rfl⟩, rfl⟩ := hv
    exact hf j hj
theorem Line.lt (h : Line w base size v n xs) {q : Nat} (hq : v.ownBlock = some q) : base ≤ q ∧ q < w.heap.size := by
  rcases h.2 with ⟨h1, _⟩ | ⟨g, off, cap, hv, hb, hg, _⟩
  · subst h1; simp [Value.ownBlock] at hq
  · subst hv; simp [Value.ownBlock] at hq; subst hq; exact ⟨hb, hg⟩
/-- It stays where its block stands. -/
theorem Line.block (h : Line w base size v n xs) (hz : w.heap.size ≤ w'.heap.size) (k : ∀ q, v.ownBlock = some q → w'.heap[q]? = w.heap[q]?) : Line w' base size v n xs := by
  refine ⟨h.1, ?_⟩
  rcases h.2 with h1 | ⟨g, off, cap, hv, hb, hg, hn, hm, hc, hf⟩
  · exact Or.inl h1
  · have kg := k g (by rw [hv]; rfl)
    refine Or.inr ⟨g, off, cap, hv, hb, by omega, hn, hm, fun j u hu => ?_, fun j hj => ?_⟩
    · rw [World.cell?_of_block (w := w) (a := ⟨g, off + j, none⟩) kg]; exact hc j u hu
    · rw [World.cell?_of_block (w := w) (a := ⟨g, off + j, none⟩) kg, World.frozen?_of_block (w := w) (a := ⟨g, off + j, none⟩) kg]; exact hf j hj
theorem Line.keep (h : Line w base size v n xs) (k : Below w.heap.size w w') : Line w' base size v n xs :=
  h.block k.size fun q hq => k.block q (h.lt hq).2
theorem Line.grown {row : Option Nat} (h : Line w base size v n xs) (k : w.grownBy w' row) (hr : ∀ q, v.ownBlock = some q → row ≠ some q) : Line w' base size v n xs :=
  h.block k.size fun q hq => k.block q (h.lt hq).2 (fun e => hr q hq e.symm)
theorem Line.set {b o : Nat} {u : Value} (h : Line w base size v n xs) (hb : v.ownBlock ≠ some b) : Line (w.setCell ⟨b, o, none⟩ u) base size v n xs :=
  h.block (by simp [World.setCell]) fun q hq => Below.heap_setCell _ _ _ _ (fun e => hb (by rw [hq, show q = b from e]))
theorem Line.weak {base' : Nat} (h : Line w base size v n xs) (hb : base' ≤ base) : Line w base' size v n xs := by
  refine ⟨h.1, ?_⟩
  rcases h.2 with h1 | ⟨g, off, cap, hv, hbg, r⟩
  · exact Or.inl h1
  · exact Or.inr ⟨g, off, cap, hv, by omega, r⟩
/-- s[k:] -/
def cutFrom (v : Value) (k size : Nat) : Value := match v with
  | .slice (some a) n cap => .slice (some ⟨a.block, if k = cap then a.off else a.off + k * size, none⟩) (n - k) (cap - k)
  | x => x
theorem Line.from (h : Line w base size v n xs) (k : Nat) (hk : k ≤ n) : Line w base size (cutFrom v k size) (n - k) (xs.drop (k * size)) := by
  refine ⟨by rw [List.length_drop, h.1, Nat.sub_mul], ?_⟩
  rcases h.2 with ⟨h1, h2⟩ | ⟨g, off, cap, hv, hb, hg, hn, hm, hc, hf⟩
  · subst h1 h2; exact Or.inl ⟨rfl, by omega⟩
  · subst hv
    refine Or.inr ⟨g, if k = cap then off else off + k * size, cap - k, rfl, hb, hg, by omega, by omega, fun j u hu => ?_, fun j hj => ?_⟩
    · rw [List.getElem?_drop] at hu
      have hlt : k * size + j < xs.length := (List.getElem?_eq_some_iff.1 hu).1
      by_cases e : k = cap
      · have : n = k := by omega
        rw [h.1, this] at hlt; omega
      · rw [if_neg e, Nat.add_assoc]; exact hc _ u hu
    · by_cases e : k = cap
      · subst e; simp at hj
      · rw [if_neg e, Nat.add_assoc]
        refine hf _ ?_
        rw [Nat.sub_mul] at hj; omega
/-- What an append leaves. -/
theorem Line.room {m g off cap : Nat} {news : List Value} (h : Line w base size (.slice (some ⟨g, off, none⟩) n cap) n xs) (hl : news.length = m * size) (hr : n + m ≤ cap) :
    Line (w.setCells g (off + n * size) news) base size (.slice (some ⟨g, off, none⟩) (n + m) cap) (n + m) (xs ++ news) := by
  have hmul : (n + m) * size ≤ cap * size := Nat.mul_le_mul_right _ hr
  rw [Nat.add_mul] at hmul
  refine ⟨by rw [List.length_append, h.1, hl, Nat.add_mul], Or.inr ⟨g, off, cap, rfl, ?_, ?_, hr, ?_, fun j u hu => ?_, fun j hj => ?_⟩⟩
  · exact (h.lt rfl).1
  · have := (h.lt rfl).2
    have hz : ∀ (vs : List Value) (o : Nat) (w : World), (w.setCells g o vs).heap.size = w.heap.size := by
      intro vs
      induction vs with
      | nil => intro o w; rfl
      | cons x r ih => intro o w; rw [World.setCells, ih]; simp [World.setCell]
    rw [hz]; exact this
  · obtain ⟨_, c, e, _, hm⟩ := h.shape
    simp only [Value.slice.injEq] at e
    omega
  · have hin := World.cell?_setCells_in g news (off + n * size) w (fun j hj => by
      have := (h.free (j := n * size + j) (by omega)).1
      rwa [← Nat.add_assoc] at this)
    by_cases hj : j < n * size
    · rw [World.cell?_setCells_out g _ _ _ _ (fun _ _ => by simp; omega)]
      rw [List.getElem?_append_left (by rw [h.1]; exact hj)] at hu
      exact h.cell hu
    · rw [List.getElem?_append_right (by rw [h.1]; omega), h.1] at hu
      have hlt : j - n * size < news.length := (List.getElem?_eq_some_iff.1 hu).1
      have := hin (j - n * size) hlt
      rw [show off + n * size + (j - n * size) = off + j by omega] at this
      rw [this, ← hu, List.getElem?_eq_getElem hlt]
  · rw [World.frozen?_setCells]
    refine ⟨?_, (h.free hj).2⟩
    by_cases hi : n * size ≤ j ∧ j < n * size + news.length
    · have hin := World.cell?_setCells_in g news (off + n * size) w (fun j hj => by
        have := (h.free (j := n * size + j) (by omega)).1
        rwa [← Nat.add_assoc] at this) (j - n * size) (by omega)
      rw [show off + n * size + (j - n * size) = off + j by omega] at hin
      rw [hin]; rfl
    · rw [World.cell?_setCells_out g _ _ _ _ (fun _ _ => by simp; omega)]
      exact (h.free hj).1
end

section
variable {P : Program} (w : World)
theorem grownBy_setCells (g : Nat) : ∀ (vs : List Value) (o : Nat) (w : World), w.grownBy (w.setCells g o vs) (some g)
  | [], _, w => ⟨rfl, rfl, rfl, Nat.le_refl _, fun _ _ _ => rfl⟩
  | v :: r, o, w => by
    have h := grownBy_setCells g r (o + 1) (w.setCell ⟨g, o, none⟩ v)
    refine ⟨h.os, h.tape, h.output, by have := h.size; simpa [World.setCells, World.setCell] using this, fun k hk hne => ?_⟩
    rw [World.setCells]
    exact (h.block k (by simpa [World.setCell] using hk) hne).trans (Below.heap_setCell _ _ _ _ (fun e => hne (by rw [e])))
/-- What is appended: nothing, or cells that lie somewhere. -/
def Src (w : World) (size : Nat) (x : Value) (m : Nat) (news : List Value) : Prop :=
  news.length = m * size ∧ (∀ u ∈ news, u.oneCell' = true) ∧ ((x = .slice none 0 0 ∧ m = 0) ∨ ∃ ad c, x = .slice (some ad) m c ∧ ∀ j u, news[j]? = some u → w.cell? (ad.add j) = some u)
theorem Src.of_line {w : World} {base size n : Nat} {v : Value} {xs : List Value} (h : Line w base size v n xs) (h1 : ∀ u ∈ xs, u.oneCell' = true) : Src w size v n xs := by
  refine ⟨h.1, h1, ?_⟩
  rcases h.2 with h1 | ⟨g, off, cap, hv, _, _, _, _, hc, _⟩
  · exact Or.inl h1
  · refine Or.inr ⟨_, cap, hv, fun j u hu => ?_⟩
    rw [Addr.add_lit]; exact hc j u hu
theorem Src.one {w : World} {size c : Nat} {b : Nat} {news : List Value} (hl : news.length = 1 * size) (h1 : ∀ u ∈ news, u.oneCell' = true) (hc : ∀ j u, news[j]? = some u → w.cell? ⟨b, j, none⟩ = some u) : Src w size (.slice (some ⟨b, 0, none⟩) 1 c) 1 news := by
  refine ⟨hl, h1, Or.inr ⟨_, c, rfl, fun j u hu => ?_⟩⟩
  rw [Addr.add_lit]; simpa using hc j u hu
/-- append, at the run. -/
theorem run_append_line (t ty : TypeId) (base : Nat) (e : TypeId) (i : TypeInfo) (z : Value) (size bytes : Nat) (ht : P.underlying t = some (.slice e)) (hi : P.info? e = some i) (hz : i.zero = some z)
    (hsize : i.size = size) (hby : i.bytes = bytes) (hzs : z.cells.size = size) (hsz : 0 < size)
    (v x : Value) (n m : Nat) (xs news : List Value) (hown : Line w base size v n xs) (hsrc : Src w size x m news)
    (h63 : n + m ≤ maxLen) (hbytes : (n + m) * bytes ≤ 140737488355328) (hbase : base ≤ w.heap.size) (H : Nat) (hH : w.heap.size = H) :
    ∃ v' w', (Builtin.append_ #[t, t] ty #[v, x]).run P w = .ok v' w' ∧ Line w' base size v' (n + m) (xs ++ news) ∧ w.grownBy w' v.ownBlock ∧ (v'.ownBlock = v.ownBlock ∨ v'.ownBlock = some H) := by
  subst hH
  obtain ⟨hl, h1, hs⟩ := hsrc
  rcases hs with ⟨rfl, rfl⟩ | ⟨ad, c, rfl, hc⟩
  · have hn : news = [] := List.eq_nil_of_length_eq_zero (by simpa using hl)
    subst hn
    refine ⟨v, w, ?_, by simpa using hown, ⟨rfl, rfl, rfl, Nat.le_refl _, fun _ _ _ => rfl⟩, Or.inl rfl⟩
    rcases hown.2 with ⟨rfl, rfl⟩ | ⟨g, off, cap, rfl, _, _, hnc, _⟩
    · simp [Builtin.append_, run_underlying ht, sizeOf, typeInfo, hi, Builtin.lenOf, Builtin.firstCells]
    · simp [Builtin.append_, run_underlying ht, sizeOf, typeInfo, hi, Builtin.lenOf, Builtin.firstCells, hnc, storeCells]
  · rcases hown.2 with ⟨rfl, rfl⟩ | ⟨g, off, cap, rfl, hbg, hg, hnc, hcm, hcs, hf⟩
    · have hx : xs = [] := List.eq_nil_of_length_eq_zero (by simpa using hown.1)
      subst hx
      obtain ⟨v', w', hr, h2, h3, _, h5⟩ := run_append_own_at (P := P) w base t ty e i z size bytes ht hi hz hsize hby hzs hsz (.slice none 0 0) 0 [] (World.ownsRow_nil w _ e size) ad m c news hl hc h1 h63 hbytes hbase
      exact ⟨v', w', hr, Line.of_own h2, h3, h5⟩
    · by_cases hroom : n + m ≤ cap
      · have hmul : (n + m) * size ≤ cap * size := Nat.mul_le_mul_right _ hroom
        rw [Nat.add_mul] at hmul
        have hline := Line.room (m := m) (news := news) hown hl hroom
        subst hsize
        refine ⟨_, _, run_append_room_cells (P := P) w t ty e i ht hi g off n cap ad m c news hl hc h1 hroom (fun j hj => ?_) (fun j hj => ?_), hline, grownBy_setCells g _ _ _, Or.inl rfl⟩
        · have := (hown.free (j := n * i.size + j) (by omega)).1
          rwa [← Nat.add_assoc] at this
        · have := (hown.free (j := n * i.size + j) (by omega)).2
          rwa [← Nat.add_assoc] at this
      · subst hsize
        subst hby
        have hsmall : n + m ≤ 9223372036854775807 := by simp only [maxLen] at h63; omega
        have hlen : (xs ++ news).length = (n + m) * i.size := by rw [List.length_append, hown.1, hl, Nat.add_mul]
        have hge := grownCap_ge w (n + m) cap e
        have hcm' : grownCap w (n + m) cap e ≤ maxLen := grownCap_le_maxLen w (n + m) cap e h63
        have hr := run_append_grow (P := P) w t ty e i z ht hi hz ⟨g, off, none⟩ n cap xs hown.1 (fun j u hj => by rw [Addr.add_lit]; exact hcs j u hj) ad m c news hl hc (by omega) (by omega) (growslice_fits (by omega) hbytes)
        refine ⟨_, _, hr, Line.of_own (e := e) ⟨hlen, .inr ⟨w.heap.size, _, _, rfl, hbase, heap_alloc_new w.drew _, hge, hcm', ?_, ?_⟩⟩, ⟨rfl, rfl, rfl, by simp, fun k hk _ => Below.heap_alloc w.drew _ k hk⟩, Or.inr rfl⟩
        · simp only [Array.size_append, List.size_toArray, size_zeroCells, hzs, hown.1, hl, ← Nat.add_mul]
          congr 1
          omega
        · simp only [Array.toList_append, List.append_assoc]
          rw [← List.append_assoc, ← hlen]
          exact List.take_left
/-- append, at the operation. -/
theorem wp_append_line {o : Oper} {a : Act} {K : Act → World → Prop} {Q : Exit → Act → World → Prop} (s x : Operand) (t : TypeId)
    (ho : o.op = .call { callee := .builtin .append, args := #[s, x], argTypes := #[t, t] })
    (base : Nat) (e : TypeId) (i : TypeInfo) (z : Value) (size bytes : Nat) (ht : P.underlying t = some (.slice e)) (hi : P.info? e = some i) (hz : i.zero = some z)
    (hsize : i.size = size) (hby : i.bytes = bytes) (hzs : z.cells.size = size) (hsz : 0 < size)
    (v y : Value) (n m : Nat) (xs news : List Value) (hs : a.eval s = v) (hx : a.eval x = y) (hown : Line w base size v n xs) (hsrc : Src w size y m news)
    (h63 : n + m ≤ maxLen) (hbytes : (n + m) * bytes ≤ 140737488355328) (hbase : base ≤ w.heap.size) (H : Nat) (hH : w.heap.size = H)
    (h : ∀ v' w', Line w' base size v' (n + m) (xs ++ news) → w.grownBy w' v.ownBlock → (v'.ownBlock = v.ownBlock ∨ v'.ownBlock = some H) → K (a.put o.dst v') w') : o.wp P a w K Q := by
  obtain ⟨v', w', hr, h2, h3, h4⟩ := run_append_line (P := P) w t o.type base e i z size bytes ht hi hz hsize hby hzs hsz v y n m xs news hown hsrc h63 hbytes hbase H hH
  unfold Oper.wp execOp
  simp only [ho, resolve, invoke, builtin, Sem.run_bind, Sem.run_pure, Result.andThen_ok, List.map_toArray, List.map_cons, List.map_nil, hs, hx, hr]
  exact h v' w' h2 h3 h4
theorem wpList_append_line {ops : Array Oper} {rest : List Oper} {o : Oper} {a : Act} {Q : Exit → Act → World → Prop} (hgd : o.guard = none) (s x : Operand) (t : TypeId)
    (ho : o.op = .call { callee := .builtin .append, args := #[s, x], argTypes := #[t, t] })
    (base : Nat) (e : TypeId) (i : TypeInfo) (z : Value) (size bytes : Nat) (ht : P.underlying t = some (.slice e)) (hi : P.info? e = some i) (hz : i.zero = some z)
    (hsize : i.size = size) (hby : i.bytes = bytes) (hzs : z.cells.size = size) (hsz : 0 < size)
    (v y : Value) (n m : Nat) (xs news : List Value) (hs : a.eval s = v) (hx : a.eval x = y) (hown : Line w base size v n xs) (hsrc : Src w size y m news)
    (h63 : n + m ≤ maxLen) (hbytes : (n + m) * bytes ≤ 140737488355328) (hbase : base ≤ w.heap.size) (H : Nat) (hH : w.heap.size = H)
    (h : ∀ v' w', Line w' base size v' (n + m) (xs ++ news) → w.grownBy w' v.ownBlock → (v'.ownBlock = v.ownBlock ∨ v'.ownBlock = some H) → wpList P ops Q rest (a.put o.dst v') w') : wpList P ops Q (o :: rest) a w :=
  wpList_plain hgd fun _ hK => wp_append_line w s x t ho base e i z size bytes ht hi hz hsize hby hzs hsz v y n m xs news hs hx hown hsrc h63 hbytes hbase H hH fun v' w' h2 h3 h4 => hK _ _ (h v' w' h2 h3 h4)
theorem step_append_line {ops : Array Oper} {o : Oper} {a : Act} {K : Act → World → Prop} {Q : Exit → Act → World → Prop} {E : Prop} (hgd : o.guard = none) (s x : Operand) (t : TypeId)
    (ho : o.op = .call { callee := .builtin .append, args := #[s, x], argTypes := #[t, t] })
    (base : Nat) (e : TypeId) (i : TypeInfo) (z : Value) (size bytes : Nat) (ht : P.underlying t = some (.slice e)) (hi : P.info? e = some i) (hz : i.zero = some z)
    (hsize : i.size = size) (hby : i.bytes = bytes) (hzs : z.cells.size = size) (hsz : 0 < size)
    (v y : Value) (n m : Nat) (xs news : List Value) (hs : a.eval s = v) (hx : a.eval x = y) (hown : Line w base size v n xs) (hsrc : Src w size y m news)
    (h63 : n + m ≤ maxLen) (hbytes : (n + m) * bytes ≤ 140737488355328) (hbase : base ≤ w.heap.size) (H : Nat) (hH : w.heap.size = H)
    (h : ∀ v' w', Line w' base size v' (n + m) (xs ++ news) → w.grownBy w' v.ownBlock → (v'.ownBlock = v.ownBlock ∨ v'.ownBlock = some H) → K (a.put o.dst v') w') :
    if Region.wanted o (yielded ops a.tmps) = true then Oper.wp P o a w K Q else E := by
  have hw : Region.wanted o (yielded ops a.tmps) = true := by simp [Region.wanted, hgd]
  rw [if_pos hw]
  exact wp_append_line w s x t ho base e i z size bytes ht hi hz hsize hby hzs hsz v y n m xs news hs hx hown hsrc h63 hbytes hbase H hH h
end
end Go.Proofs.YtoipldpekiikjaaGreatDoor
