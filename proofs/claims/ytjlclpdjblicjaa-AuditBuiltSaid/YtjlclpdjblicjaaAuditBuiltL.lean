/-
  Four slices of the call's own, apart from each other: how they are kept, counted up, appended to; the arguments of AuditBuilt. No condition.
-/
import Derived.Test.YtjlclpdjblicjaaAuditBuiltI
import Derived.Laws.BitsLemmas
namespace Go.Proofs.Ytjlclpdjblicjaa
open Go.RowKit Go.Sort Go.BigFrame
set_option linter.unusedVariables false
theorem low16 (x : Int) : bits BinOp.and IntKind.i64 x 65535 = x % 65536 := by
  have e : (BitVec.ofInt 64 65535).toNat = 2 ^ 16 - 1 := by decide
  have h : bits BinOp.and IntKind.i64 x 65535 = IntKind.i64.wrap ((BitVec.ofInt 64 x &&& BitVec.ofInt 64 65535).toNat : Nat) := rfl
  rw [h, BitVec.toNat_and, e, Nat.and_two_pow_sub_one_eq_mod, BitVec.toNat_ofInt, IntKind.wrap_i64]
  omega
/-- The two lie in blocks of their own. -/
def Ap (v u : Value) : Prop := ∀ q, v.ownBlock = some q → u.ownBlock ≠ some q
theorem Ap.symm {v u : Value} (h : Ap v u) : Ap u v := fun q hq e => h q e hq
theorem Ap.nil (v : Value) : Ap v (.slice none 0 0) := fun q _ e => by simp [Value.ownBlock] at e
structure Four (w : World) (base : Nat) (sv rv wv hv : Value) (n nr nw nh : Nat) (S R Wr H : List (Int × Int)) : Prop where
  s : Line w base 2 sv n (sls S)
  r : Line w base 2 rv nr (hds R)
  p : Line w base 2 wv nw (hds Wr)
  h : Line w base 2 hv nh (hds H)
  a1 : Ap sv rv
  a2 : Ap sv wv
  a3 : Ap sv hv
  a4 : Ap rv wv
  a5 : Ap rv hv
  a6 : Ap wv hv
section
variable {w w' : World} {base : Nat} {sv rv wv hv : Value} {n nr nw nh : Nat} {S R Wr H : List (Int × Int)}
theorem Four.keep (f : Four w base sv rv wv hv n nr nw nh S R Wr H) (k : Below w.heap.size w w') : Four w' base sv rv wv hv n nr nw nh S R Wr H :=
  ⟨f.s.keep k, f.r.keep k, f.p.keep k, f.h.keep k, f.a1, f.a2, f.a3, f.a4, f.a5, f.a6⟩
theorem Four.turn (f : Four w base sv rv wv hv n nr nw nh S R Wr H) : Four w base sv wv hv rv n nw nh nr S Wr H R :=
  ⟨f.s, f.p, f.h, f.r, f.a2, f.a3, f.a1, f.a6, f.a4.symm, f.a5.symm⟩
theorem Four.put (f : Four w base sv rv wv hv n nr nw nh S R Wr H) {b o : Nat} {u : Value} (hb : b < base) : Four (w.setCell ⟨b, o, none⟩ u) base sv rv wv hv n nr nw nh S R Wr H := by
  have z : ∀ (v : Value) (m : Nat) (xs : List Value), Line w base 2 v m xs → v.ownBlock ≠ some b := fun v m xs h e => by have := (h.lt e).1; omega
  exact ⟨f.s.set (z _ _ _ f.s), f.r.set (z _ _ _ f.r), f.p.set (z _ _ _ f.p), f.h.set (z _ _ _ f.h), f.a1, f.a2, f.a3, f.a4, f.a5, f.a6⟩
theorem Four.putB (f : Four w base sv rv wv hv n nr nw nh S R Wr H) {b : Nat} {cs : Array Value} {t : TypeId} (hb : b < base) : Four (putB w b cs t) base sv rv wv hv n nr nw nh S R Wr H := by
  have z : ∀ (v : Value) (m : Nat) (xs : List Value), Line w base 2 v m xs → Line (Ytjlclpdjblicjaa.putB w b cs t) base 2 v m xs := fun v m xs h => h.block (by simp) fun q hq => putB_other (by have := (h.lt hq).1; omega)
  exact ⟨z _ _ _ f.s, z _ _ _ f.r, z _ _ _ f.p, z _ _ _ f.h, f.a1, f.a2, f.a3, f.a4, f.a5, f.a6⟩
/-- An append to the second one. -/
theorem Four.app {v' : Value} {m Hs : Nat} {X : List (Int × Int)} (f : Four w base sv rv wv hv n nr nw nh S R Wr H) (hl : Line w' base 2 v' (nr + m) (hds R ++ hds X)) (hg : w.grownBy w' rv.ownBlock)
    (ha : v'.ownBlock = rv.ownBlock ∨ v'.ownBlock = some Hs) (hH : w.heap.size = Hs) : Four w' base sv v' wv hv n (nr + m) nw nh S (R ++ X) Wr H := by
  subst hH
  have far : ∀ {v : Value} {k : Nat} {xs : List Value}, Line w base 2 v k xs → Ap rv v → Ap v' v := fun {v k xs} h a q hq e => by
    rcases ha with ha | ha
    · exact a q (by rw [← ha, hq]) e
    · rw [ha] at hq
      simp only [Option.some.injEq] at hq
      have := (h.lt e).2
      omega
  have stay : ∀ {v : Value} {k : Nat} {xs : List Value}, Line w base 2 v k xs → Ap rv v → Line w' base 2 v k xs := fun {v k xs} h a => h.grown hg fun q hq e => a q e hq
  exact ⟨stay f.s f.a1.symm, by rw [hds_app]; exact hl, stay f.p f.a4, stay f.h f.a5, (far f.s f.a1.symm).symm, f.a2, f.a3, far f.p f.a4, far f.h f.a5, f.a6⟩
/-- A slot counts one more. -/
theorem Four.up {g off c k : Nat} {x : Int} (f : Four w base (.slice (some ⟨g, off, none⟩) n c) rv wv hv n nr nw nh S R Wr H) (hk : k < n) (hn : S.length = n) :
    Four (w.setCell ⟨g, off + k * 2 + 1, none⟩ (.int .i64 x)) base (.slice (some ⟨g, off, none⟩) n c) rv wv hv n nr nw nh (S.set k ((S.getD k (0, 0)).1, x)) R Wr H := by
  have hp := f.s.put (i := k * 2 + 1) (news := [.int .i64 x]) (by simp; omega)
  have e : (sls S).take (k * 2 + 1) ++ [.int .i64 x] ++ (sls S).drop (k * 2 + 1 + 1) = sls (S.set k ((S.getD k (0, 0)).1, x)) := by
    have hs : S = S.take k ++ S.getD k (0, 0) :: S.drop (k + 1) := by
      rw [List.getD_eq_getElem?_getD, List.getElem?_eq_getElem (by omega), Option.getD_some, List.getElem_cons_drop, List.take_append_drop]
    rw [List.set_eq_take_append_cons_drop, if_pos (by omega)]
    generalize S.getD k (0, 0) = y at hs ⊢
    have hl : (sls (S.take k)).length = k * 2 := by rw [sls_len, List.length_take]; omega
    have e1 : sls S = sls (S.take k) ++ (.int .u32 y.1 :: .int .i64 y.2 :: sls (S.drop (k + 1))) := by
      conv => lhs; rw [hs]
      rw [sls_app]; rfl
    have t1 : (sls (S.take k)).take (k * 2 + 1) = sls (S.take k) := List.take_of_length_le (by omega)
    have d1 : (sls (S.take k)).drop (k * 2 + 1 + 1) = [] := List.drop_eq_nil_of_le (by omega)
    rw [e1, List.take_append, List.drop_append, hl, t1, d1, show k * 2 + 1 - k * 2 = 1 by omega, show k * 2 + 1 + 1 - k * 2 = 2 by omega, sls_app]
    simp only [sls, List.flatMap_cons, slC, List.take_succ_cons, List.take_zero, List.drop_succ_cons, List.drop_zero, List.nil_append, List.append_assoc, List.cons_append]
  rw [List.length_singleton, e, ← Nat.add_assoc] at hp
  have far : ∀ {v : Value} {m : Nat} {xs : List Value}, Line w base 2 v m xs → Ap (.slice (some ⟨g, off, none⟩) n c) v → Line (w.setCell ⟨g, off + k * 2 + 1, none⟩ (.int .i64 x)) base 2 v m xs := fun h a => h.set (a g rfl)
  exact ⟨hp, far f.r f.a1, far f.p f.a2, far f.h f.a3, f.a1, f.a2, f.a3, f.a4, f.a5, f.a6⟩
theorem Four.snap (f : Four w base sv rv wv hv n nr nw nh S R Wr H) (h1 : S.length = n) (h2 : R.length = nr) (h3 : Wr.length = nw) (h4 : H.length = nh) (b1 : n ≤ 30) (b2 : nr + nw + nh ≤ 60) : SnapW w sv rv wv hv n nr nw nh S R Wr H :=
  ⟨Has.of_line f.s, Has.of_line f.r, Has.of_line f.p, Has.of_line f.h, h1, h2, h3, h4, by omega, by omega, by omega, by omega⟩
end
theorem keep_cell {w w' : World} {B g o : Nat} {v : Value} (h : Below B w w') (hg : g < B) (hc : w.cell? ⟨g, o, none⟩ = some v) : w'.cell? ⟨g, o, none⟩ = some v := by rw [h.cell (p := ⟨g, o, none⟩) hg]; exact hc
theorem two_src {w : World} {b : Nat} {x y : Value} (h0 : w.cell? ⟨b, 0, none⟩ = some x) (h1 : w.cell? ⟨b, 1, none⟩ = some y) : ∀ j u, [x, y][j]? = some u → w.cell? ⟨b, j, none⟩ = some u := by
  intro j u hu
  match j, hu with
  | 0, hu => simp at hu; subst hu; exact h0
  | 1, hu => simp at hu; subst hu; exact h1
set_option maxRecDepth 20000 in
/-- A slice of numbers: its cells, and what is known of each. -/
theorem fit_ones {f : Int → Value} {K : Int → Prop} {t e : TypeId} (hK : K 0) {w : World} {n : Nat} {cs : List Value}
    (ht : Try.prog.underlying t = some (.slice e)) (hc : Try.prog.cellsOf e = 1) (hfit : ∀ es, FitW Try.prog w (n + 1) e es → ∃ x, es = [f x] ∧ K x) (h : FitW Try.prog w (n + 2) t cs) :
    ∃ v, cs = [v] ∧ ∃ l : List Int, (∀ x ∈ l, K x) ∧ Has w 1 v l.length (l.map f) := by
  obtain ⟨a, len, cap, h1, h2, h3, h4, h5⟩ := fit_slice (n := n + 1) ht hc (by omega) h
  refine ⟨_, h1, ?_⟩
  have hx : ∀ i, ∃ x : Int, K x ∧ (i < len → ∃ b off, a = some ⟨b, off, none⟩ ∧ b < w.heap.size ∧ w.cell? ⟨b, off + i, none⟩ = some (f x)) := by
    intro i
    by_cases hi : i < len
    · obtain ⟨b, off, es, e1, e2, e3, e4, e5⟩ := h5 i hi
      obtain ⟨x, rfl, k⟩ := hfit _ e5
      exact ⟨x, k, fun _ => ⟨b, off, e1, e2, by simpa using e4 0 (by omega)⟩⟩
    · exact ⟨0, hK, fun h => absurd h hi⟩
  obtain ⟨g, hg⟩ := Classical.axiomOfChoice hx
  have hl : ((List.range len).map g).length = len := by simp
  refine ⟨(List.range len).map g, ?_, ?_⟩
  · intro x hx
    simp only [List.mem_map] at hx
    obtain ⟨i, _, rfl⟩ := hx
    exact (hg i).1
  · rw [hl]
    have := Has.of_cells (w := w) (ao := a) (n := len) (cap := cap) (size := 1) (fun i => [f (g i)]) (fun i => rfl) (by decide) h2 h3 h4 (fun i hi => by
      obtain ⟨b, off, e1, e2, e3⟩ := (hg i).2 hi
      exact ⟨b, off, e1, e2, fun j hj => by obtain rfl : j = 0 := by omega
                                            simpa using e3⟩)
    have e : (List.range len).flatMap (fun i => [f (g i)]) = ((List.range len).map g).map f := by
      induction List.range len with
      | nil => rfl
      | cons x r ih => rw [List.flatMap_cons, List.map_cons, List.map_cons, ih]; rfl
    rwa [e] at this
def u32s (l : List Int) : List Value := l.map (Value.int .u32 ·)
def isU32 (x : Int) : Prop := 0 ≤ x ∧ x ≤ 4294967295
theorem arg_u32s {w : World} {v : Value} (h : Arg Try.prog w 80 v) : ∃ l : List Int, (∀ x ∈ l, isU32 x) ∧ Has w 1 v l.length (u32s l) := by
  obtain ⟨v', e, l, k, hl⟩ := fit_ones (f := (Value.int .u32 ·)) (K := isU32) (n := 7) ⟨by decide, by decide⟩ Try.underlying80 (show Try.prog.cellsOf 28 = 1 by kernel_rfl) (fun es h => by
    obtain ⟨x, rfl, hx⟩ := fit_u32 Try.underlying28 h
    exact ⟨x, rfl, hx⟩) (arg_slice Try.underlying80 h)
  simp only [List.cons.injEq, and_true] at e
  subst e
  exact ⟨l, k, hl⟩
theorem arg_ints {w : World} {v : Value} (h : Arg Try.prog w 75 v) : ∃ l : List Int, (∀ x ∈ l, isI64 x) ∧ Has w 1 v l.length (ints l) := by
  obtain ⟨v', e, l, k, hl⟩ := fit_ones (f := (Value.int .i64 ·)) (K := isI64) (n := 7) ⟨by decide, by decide⟩ Try.underlying75 (show Try.prog.cellsOf 3 = 1 by kernel_rfl) (fun es h => by
    obtain ⟨x, rfl, hx⟩ := fit_i64 Try.underlying3 h
    exact ⟨x, rfl, hx⟩) (arg_slice Try.underlying75 h)
  simp only [List.cons.injEq, and_true] at e
  subst e
  exact ⟨l, k, hl⟩
theorem u32_cells {w : World} {n : Nat} {v : Value} {l : List Int} (h : Has w 1 v n (u32s l)) (hl : l.length = n) (k : Nat) (hk : k < n) :
    ∃ g off cap, v = .slice (some ⟨g, off, none⟩) n cap ∧ g < w.heap.size ∧ cap ≤ maxLen ∧ w.cell? ⟨g, off + k, none⟩ = some (.int .u32 (l.getD k 0)) := by
  obtain ⟨ao, cap, rfl, _, hc⟩ := h.shape
  obtain ⟨g, off, rfl, hg, hcell⟩ := h.cell (by omega)
  refine ⟨g, off, cap, rfl, hg, hc, hcell _ _ ?_⟩
  unfold u32s
  rw [List.getElem?_map, List.getD_eq_getElem?_getD, List.getElem?_eq_getElem (by omega)]; rfl
end Go.Proofs.Ytjlclpdjblicjaa
