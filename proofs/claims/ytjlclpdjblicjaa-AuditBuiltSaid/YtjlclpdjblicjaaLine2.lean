/-
  append onto a slice of the call's own, once more: what the slice held before still stands. No condition.
-/
import Derived.Test.YtjlclpdjblicjaaLine
namespace Go.Proofs.Ytjlclpdjblicjaa
open Go Go.RowKit Go.Sort
/-- The first elements of a slice of the call's own. -/
theorem Line.pre {w : World} {base size n m g off cap : Nat} {xs news : List Value} (h : Line w base size (.slice (some ⟨g, off, none⟩) (n + m) cap) (n + m) (xs ++ news)) (hn : n ≤ cap) (hx : xs.length = n * size) :
    Line w base size (.slice (some ⟨g, off, none⟩) n cap) n xs := by
  have hcm : cap ≤ maxLen := by
    obtain ⟨_, c, e, _, hc⟩ := h.shape
    simp only [Value.slice.injEq, true_and] at e
    obtain ⟨_, rfl⟩ := e
    exact hc
  refine ⟨hx, Or.inr ⟨g, off, cap, rfl, (h.lt rfl).1, (h.lt rfl).2, hn, hcm, fun j u hu => ?_, fun j hj => h.free hj⟩⟩
  refine h.cell ?_
  have hlt := (List.getElem?_eq_some_iff.1 hu).1
  rw [List.getElem?_append_left hlt]; exact hu
section
variable {P : Program} (w : World)
/-- append, at the run. -/
theorem run_append_line2 (t ty : TypeId) (base : Nat) (e : TypeId) (i : TypeInfo) (z : Value) (size bytes : Nat) (ht : P.underlying t = some (.slice e)) (hi : P.info? e = some i) (hz : i.zero = some z)
    (hsize : i.size = size) (hby : i.bytes = bytes) (hzs : z.cells.size = size) (hsz : 0 < size)
    (v x : Value) (n m : Nat) (xs news : List Value) (hown : Line w base size v n xs) (hsrc : Src w size x m news)
    (h63 : n + m ≤ maxLen) (hbytes : (n + m) * bytes ≤ 140737488355328) (hbase : base ≤ w.heap.size) (H : Nat) (hH : w.heap.size = H) :
    ∃ v' w', (Builtin.append_ #[t, t] ty #[v, x]).run P w = .ok v' w' ∧ Line w' base size v' (n + m) (xs ++ news) ∧ w.grownBy w' v.ownBlock ∧ (v'.ownBlock = v.ownBlock ∨ v'.ownBlock = some H) ∧ Line w' base size v n xs := by
  subst hH
  obtain ⟨hl, h1, hs⟩ := hsrc
  rcases hs with ⟨rfl, rfl⟩ | ⟨ad, c, rfl, hc⟩
  · have hn : news = [] := List.eq_nil_of_length_eq_zero (by simpa using hl)
    subst hn
    refine ⟨v, w, ?_, by simpa using hown, ⟨rfl, rfl, rfl, Nat.le_refl _, fun _ _ _ => rfl⟩, Or.inl rfl, hown⟩
    rcases hown.2 with ⟨rfl, rfl⟩ | ⟨g, off, cap, rfl, _, _, hnc, _⟩
    · simp [Builtin.append_, run_underlying ht, sizeOf, typeInfo, hi, Builtin.lenOf, Builtin.firstCells]
    · simp [Builtin.append_, run_underlying ht, sizeOf, typeInfo, hi, Builtin.lenOf, Builtin.firstCells, hnc, storeCells]
  · rcases hown.2 with ⟨rfl, rfl⟩ | ⟨g, off, cap, rfl, hbg, hg, hnc, hcm, hcs, hf⟩
    · have hx : xs = [] := List.eq_nil_of_length_eq_zero (by simpa using hown.1)
      subst hx
      obtain ⟨v', w', hr, h2, h3, _, h5⟩ := run_append_own_at (P := P) w base t ty e i z size bytes ht hi hz hsize hby hzs hsz (.slice none 0 0) 0 [] (World.ownsRow_nil w _ e size) ad m c news hl hc h1 h63 hbytes hbase
      exact ⟨v', w', hr, Line.of_own h2, h3, h5, Line.nil _ _ _⟩
    · by_cases hroom : n + m ≤ cap
      · have hmul : (n + m) * size ≤ cap * size := Nat.mul_le_mul_right _ hroom
        rw [Nat.add_mul] at hmul
        have hline := Line.room (m := m) (news := news) hown hl hroom
        subst hsize
        refine ⟨_, _, run_append_room_cells (P := P) w t ty e i ht hi g off n cap ad m c news hl hc h1 hroom (fun j hj => ?_) (fun j hj => ?_), hline, grownBy_setCells g _ _ _, Or.inl rfl, hline.pre hnc hown.1⟩
        · have := (hown.free (j := n * i.size + j) (by omega)).1
          rwa [← Nat.add_assoc] at this
        · have := (hown.free (j := n * i.size + j) (by omega)).2
          rwa [← Nat.add_assoc] at this
      · subst hsize
        subst hby
        have hsmall : n + m ≤ 9223372036854775807 := by simp only [maxLen] at h63; omega
        have hlen : (xs ++ news).length = (n + m) * i.size := by rw [List.length_append, hown.1, hl, Nat.add_mul]
        have hge := grownCap_ge w (n + m) cap e
        have hcm' : grownCap w (n + m) cap e ≤ maxLen := grownCap_le_maxLen w (n + m) cap e h63
        have hr := run_append_grow (P := P) w t ty e i z ht hi hz ⟨g, off, none⟩ n cap xs hown.1 (fun j u hj => by rw [Addr.add_lit]; exact hcs j u hj) ad m c news hl hc (by omega) (by omega) (growslice_fits (by omega) hbytes)
        refine ⟨_, _, hr, Line.of_own (e := e) ⟨hlen, .inr ⟨w.heap.size, _, _, rfl, hbase, heap_alloc_new w.drew _, hge, hcm', ?_, ?_⟩⟩, ⟨rfl, rfl, rfl, by simp, fun k hk _ => Below.heap_alloc w.drew _ k hk⟩, Or.inr rfl, hown.keep ⟨rfl, rfl, rfl, by simp, fun k hk => Below.heap_alloc w.drew _ k hk⟩⟩
        · simp only [Array.size_append, List.size_toArray, size_zeroCells, hzs, hown.1, hl, ← Nat.add_mul]
          congr 1
          omega
        · simp only [Array.toList_append, List.append_assoc]
          rw [← List.append_assoc, ← hlen]
          exact List.take_left
/-- append, at the operation. -/
theorem wp_append_line2 {o : Oper} {a : Act} {K : Act → World → Prop} {Q : Exit → Act → World → Prop} (s x : Operand) (t : TypeId)
    (ho : o.op = .call { callee := .builtin .append, args := #[s, x], argTypes := #[t, t] })
    (base : Nat) (e : TypeId) (i : TypeInfo) (z : Value) (size bytes : Nat) (ht : P.underlying t = some (.slice e)) (hi : P.info? e = some i) (hz : i.zero = some z)
    (hsize : i.size = size) (hby : i.bytes = bytes) (hzs : z.cells.size = size) (hsz : 0 < size)
    (v y : Value) (n m : Nat) (xs news : List Value) (hs : a.eval s = v) (hx : a.eval x = y) (hown : Line w base size v n xs) (hsrc : Src w size y m news)
    (h63 : n + m ≤ maxLen) (hbytes : (n + m) * bytes ≤ 140737488355328) (hbase : base ≤ w.heap.size) (H : Nat) (hH : w.heap.size = H)
    (h : ∀ v' w', Line w' base size v' (n + m) (xs ++ news) → w.grownBy w' v.ownBlock → (v'.ownBlock = v.ownBlock ∨ v'.ownBlock = some H) → Line w' base size v n xs → K (a.put o.dst v') w') : o.wp P a w K Q := by
  obtain ⟨v', w', hr, h2, h3, h4, h5⟩ := run_append_line2 (P := P) w t o.type base e i z size bytes ht hi hz hsize hby hzs hsz v y n m xs news hown hsrc h63 hbytes hbase H hH
  unfold Oper.wp execOp
  simp only [ho, resolve, invoke, builtin, Sem.run_bind, Sem.run_pure, Result.andThen_ok, List.map_toArray, List.map_cons, List.map_nil, hs, hx, hr]
  exact h v' w' h2 h3 h4 h5
theorem wpList_append_line2 {ops : Array Oper} {rest : List Oper} {o : Oper} {a : Act} {Q : Exit → Act → World → Prop} (hgd : o.guard = none) (s x : Operand) (t : TypeId)
    (ho : o.op = .call { callee := .builtin .append, args := #[s, x], argTypes := #[t, t] })
    (base : Nat) (e : TypeId) (i : TypeInfo) (z : Value) (size bytes : Nat) (ht : P.underlying t = some (.slice e)) (hi : P.info? e = some i) (hz : i.zero = some z)
    (hsize : i.size = size) (hby : i.bytes = bytes) (hzs : z.cells.size = size) (hsz : 0 < size)
    (v y : Value) (n m : Nat) (xs news : List Value) (hs : a.eval s = v) (hx : a.eval x = y) (hown : Line w base size v n xs) (hsrc : Src w size y m news)
    (h63 : n + m ≤ maxLen) (hbytes : (n + m) * bytes ≤ 140737488355328) (hbase : base ≤ w.heap.size) (H : Nat) (hH : w.heap.size = H)
    (h : ∀ v' w', Line w' base size v' (n + m) (xs ++ news) → w.grownBy w' v.ownBlock → (v'.ownBlock = v.ownBlock ∨ v'.ownBlock = some H) → Line w' base size v n xs → wpList P ops Q rest (a.put o.dst v') w') : wpList P ops Q (o :: rest) a w :=
  wpList_plain hgd fun _ hK => wp_append_line2 w s x t ho base e i z size bytes ht hi hz hsize hby hzs hsz v y n m xs news hs hx hown hsrc h63 hbytes hbase H hH fun v' w' h2 h3 h4 h5 => hK _ _ (h v' w' h2 h3 h4 h5)
theorem step_append_line2 {ops : Array Oper} {o : Oper} {a : Act} {K : Act → World → Prop} {Q : Exit → Act → World → Prop} {E : Prop} (hgd : o.guard = none) (s x : Operand) (t : TypeId)
    (ho : o.op = .call { callee := .builtin .append, args := #[s, x], argTypes := #[t, t] })
    (base : Nat) (e : TypeId) (i : TypeInfo) (z : Value) (size bytes : Nat) (ht : P.underlying t = some (.slice e)) (hi : P.info? e = some i) (hz : i.zero = some z)
    (hsize : i.size = size) (hby : i.bytes = bytes) (hzs : z.cells.size = size) (hsz : 0 < size)
    (v y : Value) (n m : Nat) (xs news : List Value) (hs : a.eval s = v) (hx : a.eval x = y) (hown : Line w base size v n xs) (hsrc : Src w size y m news)
    (h63 : n + m ≤ maxLen) (hbytes : (n + m) * bytes ≤ 140737488355328) (hbase : base ≤ w.heap.size) (H : Nat) (hH : w.heap.size = H)
    (h : ∀ v' w', Line w' base size v' (n + m) (xs ++ news) → w.grownBy w' v.ownBlock → (v'.ownBlock = v.ownBlock ∨ v'.ownBlock = some H) → Line w' base size v n xs → K (a.put o.dst v') w') :
    if Region.wanted o (yielded ops a.tmps) = true then Oper.wp P o a w K Q else E := by
  have hw : Region.wanted o (yielded ops a.tmps) = true := by simp [Region.wanted, hgd]
  rw [if_pos hw]
  exact wp_append_line2 w s x t ho base e i z size bytes ht hi hz hsize hby hzs hsz v y n m xs news hs hx hown hsrc h63 hbytes hbase H hH h
theorem wpList_append_guard2 {ops : Array Oper} {rest : List Oper} {o : Oper} {a : Act} {Q : Exit → Act → World → Prop} (hgd : Region.wanted o (yielded ops a.tmps) = true) (s x : Operand) (t : TypeId)
    (ho : o.op = .call { callee := .builtin .append, args := #[s, x], argTypes := #[t, t] })
    (base : Nat) (e : TypeId) (i : TypeInfo) (z : Value) (size bytes : Nat) (ht : P.underlying t = some (.slice e)) (hi : P.info? e = some i) (hz : i.zero = some z)
    (hsize : i.size = size) (hby : i.bytes = bytes) (hzs : z.cells.size = size) (hsz : 0 < size)
    (v y : Value) (n m : Nat) (xs news : List Value) (hs : a.eval s = v) (hx : a.eval x = y) (hown : Line w base size v n xs) (hsrc : Src w size y m news)
    (h63 : n + m ≤ maxLen) (hbytes : (n + m) * bytes ≤ 140737488355328) (hbase : base ≤ w.heap.size) (H : Nat) (hH : w.heap.size = H)
    (h : ∀ v' w', Line w' base size v' (n + m) (xs ++ news) → w.grownBy w' v.ownBlock → (v'.ownBlock = v.ownBlock ∨ v'.ownBlock = some H) → Line w' base size v n xs → wpList P ops Q rest (a.put o.dst v') w') : wpList P ops Q (o :: rest) a w :=
  wpList_step fun K hK => by
    simp only [hgd, if_true]
    exact wp_append_line2 w s x t ho base e i z size bytes ht hi hz hsize hby hzs hsz v y n m xs news hs hx hown hsrc h63 hbytes hbase H hH fun v' w' h2 h3 h4 h5 => hK _ _ (h v' w' h2 h3 h4 h5)
end
end Go.Proofs.Ytjlclpdjblicjaa
