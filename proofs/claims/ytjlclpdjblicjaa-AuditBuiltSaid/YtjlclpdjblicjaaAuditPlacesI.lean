/-
  What is counted, held, lost does not hang on the order of the handles: plain law. No condition.
-/
import Derived.Test.YtjlclpdjblicjaaAuditAll
namespace Go.Proofs.Ytjlclpdjblicjaa
open Go.RowKit Go.Sort Go.BigFrame
set_option linter.unusedVariables false
theorem cntL_perm (S : List (Int × Int)) {L M : List (Int × Int)} (h : L.Perm M) (n : Nat) : cntL S L n L.length = cntL S M n M.length := by
  unfold cntL
  rw [List.take_length, List.take_length]
  apply List.map_congr_left
  intro i _
  rw [h.countP_eq]
theorem holdsB_perm (S : List (Int × Int)) {L M : List (Int × Int)} (h : L.Perm M) (n : Nat) : holdsB S L n = holdsB S M n := by
  unfold holdsB cntB
  rw [cntL_perm S h]
  congr 1
  rw [Bool.eq_iff_iff, List.all_eq_true, List.all_eq_true]
  exact ⟨fun H x hx => H x (h.mem_iff.2 hx), fun H x hx => H x (h.mem_iff.1 hx)⟩
theorem leaksL_perm (S : List (Int × Int)) {L M : List (Int × Int)} (h : L.Perm M) (n k : Nat) : leaksL S L n k = leaksL S M n k := by
  unfold leaksL
  rw [cntL_perm S h]
theorem turn3 (R W H : List (Int × Int)) : (R ++ W ++ H).Perm (H ++ R ++ W) := by
  rw [List.append_assoc H R W]
  exact List.perm_append_comm
/-- Four slices that are nil. -/
def nil4 : Array Value := #[.slice none 0 0, .slice none 0 0, .slice none 0 0, .slice none 0 0]
/-- A world behind W, and a slice of the call's own in it. -/
structure PlI (W wx : World) (v : Value) (n : Nat) (xs : List Value) : Prop where
  below : Below W.heap.size W wx
  line : Line wx W.heap.size 2 v n xs
/-- The same, beside a new block of four slices. -/
structure PlZ (W wx : World) (b : Nat) (v : Value) (n : Nat) (xs : List Value) : Prop extends PlI W wx v n xs where
  blk : BlkIs wx b nil4 71
  ge : W.heap.size ≤ b
  ne : v.ownBlock ≠ some b
theorem PlI.nil {W wx : World} (h : Below W.heap.size W wx) : PlI W wx (.slice none 0 0) 0 [] := ⟨h, Line.nil _ _ _⟩
theorem PlI.append {W wx w' : World} {v v' : Value} {n m n' H : Nat} {xs news xs' : List Value} (h : PlI W wx v n xs) (hl : Line w' W.heap.size 2 v' (n + m) (xs ++ news)) (hg : wx.grownBy w' v.ownBlock)
    (ha : v'.ownBlock = v.ownBlock ∨ v'.ownBlock = some H) (hH : wx.heap.size = H) (hn : n + m = n') (hx : xs ++ news = xs') : PlI W w' v' n' xs' := by
  subst hn hx
  exact ⟨RowKit.Below.grown h.below hg h.below.size (fun q hq => (h.line.lt hq).1), hl⟩
theorem PlZ.append {W wx w' : World} {b : Nat} {v v' : Value} {n m n' H : Nat} {xs news xs' : List Value} (h : PlZ W wx b v n xs) (hl : Line w' W.heap.size 2 v' (n + m) (xs ++ news)) (hg : wx.grownBy w' v.ownBlock)
    (ha : v'.ownBlock = v.ownBlock ∨ v'.ownBlock = some H) (hH : wx.heap.size = H) (hn : n + m = n') (hx : xs ++ news = xs') : PlZ W w' b v' n' xs' := by
  refine ⟨h.toPlI.append hl hg ha hH hn hx, ⟨by rw [hg.block b h.blk.lt (fun e => h.ne e.symm)]; exact h.blk.eq⟩, h.ge, fun e => ?_⟩
  rcases ha with ha | ha
  · rw [ha] at e; exact h.ne e
  · rw [ha] at e
    simp only [Option.some.injEq] at e
    have := h.blk.lt
    omega
theorem PlI.alloc {W wx : World} {v : Value} {n : Nat} {xs : List Value} (h : PlI W wx v n xs) : PlZ W (wx.alloc (.cells nil4 71)) wx.heap.size v n xs := by
  have hb : Below wx.heap.size wx (wx.alloc (.cells nil4 71)) := (Below.refl _ _).alloc (Nat.le_refl _) _
  refine ⟨⟨h.below.trans (hb.mono h.below.size), h.line.keep hb⟩, inferInstance, h.below.size, fun e => ?_⟩
  have := (h.line.lt e).2
  omega
theorem PlZ.put_line {W wx : World} {b : Nat} {v : Value} {n : Nat} {xs : List Value} {cs : Array Value} {t : TypeId} (h : PlZ W wx b v n xs) : Line (putB wx b cs t) W.heap.size 2 v n xs :=
  h.line.block (by simp) fun q hq => putB_other fun e => h.ne (by rw [hq, e])
theorem PlZ.put_below {W wx : World} {b : Nat} {v : Value} {n : Nat} {xs : List Value} {cs : Array Value} {t : TypeId} (h : PlZ W wx b v n xs) : Below W.heap.size W (putB wx b cs t) :=
  below_putB h.below h.ge
/-- A snapshot whose handles lie in other places. -/
theorem SnapW.turned {w : World} {sv rv wv hv : Value} {n nr nw nh : Nat} {S R Wr H : List (Int × Int)} (h : SnapW w sv rv wv hv n nr nw nh S R Wr H) : SnapW w sv hv rv wv n nh nr nw S H R Wr :=
  ⟨h.s, h.h, h.r, h.p, h.ls, h.lh, h.lr, h.lw, h.bs, h.bh, h.br, h.bw⟩
theorem SnapW.len {w : World} {sv rv wv hv : Value} {n nr nw nh : Nat} {S R Wr H : List (Int × Int)} (h : SnapW w sv rv wv hv n nr nw nh S R Wr H) : nr + nw + nh = (R ++ Wr ++ H).length := by
  rw [List.length_append, List.length_append, h.lr, h.lw, h.lh]
theorem small_le2 {w : World} {size n : Nat} {v : Value} {xs : List Value} (h : Has w size v n xs) (s : Small v) : n ≤ 1048576 := by
  obtain ⟨ao, cap, rfl, _, _⟩ := h.shape
  exact s _ _ _ rfl
theorem snap_of2 {w : World} {v : Value} (h0 : Arg Try.prog w 71 v) (s0 : SmallSnap v) : ∃ sa n sc ra nr rc wa nw wc ha nh hc S R Wr H, v = .agg #[.slice sa n sc, .slice ra nr rc, .slice wa nw wc, .slice ha nh hc] ∧
    SnapW w (.slice sa n sc) (.slice ra nr rc) (.slice wa nw wc) (.slice ha nh hc) n nr nw nh S R Wr H ∧ nr ≤ 1048576 ∧ nw ≤ 1048576 ∧ nh ≤ 1048576 := by
  obtain ⟨sa, n, sc, ra, nr, rc, wa, nw, wc, ha, nh, hc, S, R, Wr, H, rfl, h⟩ := snap_of h0 s0
  obtain ⟨z0, z1, z2, z3⟩ := s0 _ _ _ _ rfl
  exact ⟨sa, n, sc, ra, nr, rc, wa, nw, wc, ha, nh, hc, S, R, Wr, H, rfl, h, small_le2 h.r z1, small_le2 h.p z2, small_le2 h.h z3⟩
end Go.Proofs.Ytjlclpdjblicjaa
