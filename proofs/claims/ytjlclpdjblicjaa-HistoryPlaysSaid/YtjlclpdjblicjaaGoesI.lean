/-
  What holds in the rounds of the law HistoryGoes. No condition.
-/
import Derived.Test.YtjlclpdjblicjaaHistMid
namespace Go.Proofs.Ytjlclpdjblicjaa
open Go.RowKit Go.Sort Go.BigFrame
set_option linter.unusedVariables false
theorem HistJ.grown {W w w' : World} {hb m : Nat} {v : Value} {l : List Ent} {row : Option Nat} (h : HistJ W w hb m v l) (hg : w.grownBy w' row) (h1 : row ≠ some hb) (h2 : ∀ q, v.ownBlock = some q → row ≠ some q) (h3 : ∀ q, row = some q → W.heap.size ≤ q) : HistJ W w' hb m v l :=
  ⟨⟨h.H.blk.grown hg h1, h.H.line.grown hg h2, h.H.ne, h.H.len, h.H.top⟩, h.lo, Below.grown h.bel hg h.bel.size h3⟩
theorem Has.pre {w : World} {size n k cap : Nat} {ao : Option Addr} {xs ys : List Value} (h : Has w size (.slice ao n cap) n (xs ++ ys)) (hk : k ≤ n) (hx : xs.length = k * size) : Has w size (.slice ao k cap) k xs := by
  obtain ⟨h0, ao', cap', e, h2, h3, h4, h5⟩ := h
  simp only [Value.slice.injEq, true_and] at e
  obtain ⟨rfl, rfl⟩ := e
  refine ⟨hx, ao, cap, rfl, by omega, h3, h4, fun hp => ?_⟩
  obtain ⟨g, off, e, hg, hc⟩ := h5 (by omega)
  refine ⟨g, off, e, hg, fun j u hu => hc j u ?_⟩
  rw [List.getElem?_append_left (List.getElem?_eq_some_iff.1 hu).1]; exact hu
theorem Has.takeE {w : World} {n k cap : Nat} {ao : Option Addr} {L : List Ent} (h : Has w 7 (.slice ao n cap) n (ents L)) (hl : L.length = n) (hk : k ≤ n) : Has w 7 (.slice ao k cap) k (ents (L.take k)) := by
  have e : ents L = ents (L.take k) ++ ents (L.drop k) := by rw [← ents_app, List.take_append_drop]
  rw [e] at h
  exact h.pre hk (by rw [ents_len, List.length_take]; congr 1; omega)
/-- In the k-th round: what has gone, what is kept. -/
structure GoesJ (W w : World) (hb M k : Nat) (v g : Value) (L : List Ent) : Prop where
  J : HistJ W w hb M v (lastE (L.take k) M)
  G : Line w W.heap.size 7 g (k - M) (ents (L.take (k - M)))
  gh : g.ownBlock ≠ some hb
  gv : ∀ q, g.ownBlock = some q → v.ownBlock ≠ some q
theorem GoesJ.keep {W w w' : World} {hb M k : Nat} {v g : Value} {L : List Ent} (h : GoesJ W w hb M k v g L) (b : Below w.heap.size w w') : GoesJ W w' hb M k v g L :=
  ⟨h.J.keep b, h.G.keep b, h.gh, h.gv⟩
/-- Behind a Push by which nothing goes. -/
theorem GoesJ.pushed {W w w' : World} {hb M k : Nat} {v v' g : Value} {L : List Ent} (h : GoesJ W w hb M k v g L) (hk : k < M) (J' : HistJ W w' hb M v' (lastE (L.take (k + 1)) M)) (F : FrameS (PushS hb v) w w') (hat : v'.ownBlock = v.ownBlock ∨ ∃ q, w.heap.size ≤ q ∧ v'.ownBlock = some q) : GoesJ W w' hb M (k + 1) v' g L := by
  refine ⟨J', ?_, h.gh, fun q hq e => ?_⟩
  · have := F.line h.G (fun q hq e => by rcases e with e | e; exact h.gh (by rw [hq, e]); exact h.gv q hq e)
    rw [show k - M = 0 by omega] at this
    rwa [show k + 1 - M = 0 by omega]
  · rcases hat with e' | ⟨q', hq', e'⟩
    · exact h.gv q hq (by rw [← e']; exact e)
    · rw [e] at e'; simp only [Option.some.injEq] at e'
      have := (h.G.lt hq).2; omega
/-- Behind a Push by which one goes: what is kept; what has gone still stands. -/
structure GoesK (W w : World) (hb M k : Nat) (v g : Value) (L : List Ent) : Prop where
  J : HistJ W w hb M v (lastE (L.take (k + 1)) M)
  G : Line w W.heap.size 7 g (k - M) (ents (L.take (k - M)))
  gh : g.ownBlock ≠ some hb
  gv : ∀ q, g.ownBlock = some q → v.ownBlock ≠ some q
theorem GoesK.keep {W w w' : World} {hb M k : Nat} {v g : Value} {L : List Ent} (h : GoesK W w hb M k v g L) (b : Below w.heap.size w w') : GoesK W w' hb M k v g L :=
  ⟨h.J.keep b, h.G.keep b, h.gh, h.gv⟩
theorem GoesJ.turned {W w w' : World} {hb M k : Nat} {v v' g : Value} {L : List Ent} (h : GoesJ W w hb M k v g L) (J' : HistJ W w' hb M v' (lastE (L.take (k + 1)) M)) (F : FrameS (PushS hb v) w w') (hat : v'.ownBlock = v.ownBlock ∨ ∃ q, w.heap.size ≤ q ∧ v'.ownBlock = some q) : GoesK W w' hb M k v' g L := by
  refine ⟨J', F.line h.G (fun q hq e => by rcases e with e | e; exact h.gh (by rw [hq, e]); exact h.gv q hq e), h.gh, fun q hq e => ?_⟩
  rcases hat with e' | ⟨q', hq', e'⟩
  · exact h.gv q hq (by rw [← e']; exact e)
  · rw [e] at e'; simp only [Option.some.injEq] at e'
    have := (h.G.lt hq).2; omega
theorem GoesK.gone {W w w' : World} {hb M k H : Nat} {v g g' : Value} {L : List Ent} (h : GoesK W w hb M k v g L) (hk : M ≤ k) (hG : Line w' W.heap.size 7 g' (k - M + 1) (ents (L.take (k - M)) ++ entC (L.getD (k - M) e0))) (hkl : k < L.length) (hg : w.grownBy w' g.ownBlock) (hat : g'.ownBlock = g.ownBlock ∨ g'.ownBlock = some H) (hH : w.heap.size ≤ H) : GoesJ W w' hb M (k + 1) v g' L := by
  refine ⟨h.J.grown hg h.gh (fun q hq e => h.gv q e hq) (fun q hq => (h.G.lt hq).1), ?_, ?_, ?_⟩
  · rw [show k + 1 - M = k - M + 1 by omega]
    have e : L.take (k - M + 1) = L.take (k - M) ++ [L.getD (k - M) e0] := by
      rw [List.take_succ_eq_append_getElem (by omega), List.getD_eq_getElem?_getD, List.getElem?_eq_getElem (by omega)]; rfl
    rw [e, ents_snoc]; exact hG
  · rcases hat with e' | e'
    · rw [e']; exact h.gh
    · rw [e']; intro e; simp only [Option.some.injEq] at e; have := h.J.lt; omega
  · intro q hq e
    rcases hat with e' | e'
    · exact h.gv q (by rw [← e']; exact hq) e
    · rw [e'] at hq; simp only [Option.some.injEq] at hq; have := (h.J.H.line.lt e).2; omega
theorem take_snoc (L : List Ent) (k : Nat) (h : k < L.length) : L.take (k + 1) = L.take k ++ [L.getD k e0] := by
  rw [List.take_succ_eq_append_getElem h, List.getD_eq_getElem?_getD, List.getElem?_eq_getElem h]; rfl
theorem goes_in (L : List Ent) (k M : Nat) (h : k < L.length) (hk : k < M) : lastE (L.take k) M ++ [L.getD k e0] = lastE (L.take (k + 1)) M := by
  rw [take_snoc L k h, lastE_in _ _ _ (by rw [List.length_take]; omega)]
theorem goes_out (L : List Ent) (k M : Nat) (h : k < L.length) (hk : M ≤ k) : lastE (L.take k) M ++ [L.getD k e0] = L.getD (k - M) e0 :: lastE (L.take (k + 1)) M := by
  have hl : (L.take k).length = k := by rw [List.length_take]; omega
  obtain ⟨y, hy⟩ := lastE_out (L.take k) M (L.getD k e0) (by rw [hl]; exact hk)
  rw [take_snoc L k h]
  rw [hy]
  have h0 := congrArg (fun l => l.getD 0 e0) hy
  have e1 : lastE (L.take k) M ++ [L.getD k e0] = (L.take (k + 1)).drop (k - M) := by
    rw [take_snoc L k h]
    unfold lastE
    rw [hl, List.drop_append_of_le_length (by rw [hl]; omega)]
  rw [e1] at h0
  simp only [List.getD_cons_zero] at h0
  rw [List.getD_eq_getElem?_getD, List.getElem?_drop, List.getElem?_take_of_lt (by omega), Nat.add_zero, ← List.getD_eq_getElem?_getD] at h0
  rw [h0]
theorem goes_all (L : List Ent) (k M : Nat) (h : k ≤ L.length) : ents (L.take (k - M)) ++ ents (lastE (L.take k) M) = ents (L.take k) := by
  have hl : (L.take k).length = k := by rw [List.length_take]; omega
  unfold lastE
  rw [hl, ← ents_app]
  have e : L.take (k - M) = (L.take k).take (k - M) := by rw [List.take_take, Nat.min_eq_left (by omega)]
  rw [e, List.take_append_drop]
theorem goes_len (L : List Ent) (k M : Nat) (h : k ≤ L.length) : (lastE (L.take k) M).length = k - (k - M) := by
  rw [lastE_len, List.length_take, Nat.min_eq_left h]
end Go.Proofs.Ytjlclpdjblicjaa
