/-
  What stands at the head of a round of the law RingPlays, and what a round makes of it. No condition.
-/
import Derived.Test.YtjlclpdjblicjaaRingRef
namespace Go.Proofs.Ytjlclpdjblicjaa
open Go.RowKit Go.Sort Go.BigFrame
set_option linter.unusedVariables false
structure PlayI (W wr : World) (b g c rb f n : Nat) (A : Nat → Int × Int × Int × Int) (v : Value) : Prop where
  H : RingH wr b g c f n
  HA : RingA wr g c A
  R : RefR wr rb c v
  L : Line wr W.heap.size 4 v n (cells4 (ringL A f c n))
  nb : v.ownBlock ≠ some b
  ng : v.ownBlock ≠ some g
  nr : v.ownBlock ≠ some rb
  hrb : rb ≠ b
  hrg : rb ≠ g
  bel : RowKit.Below W.heap.size W wr
theorem PlayI.idle {W wr w' : World} {b g c rb f n : Nat} {A : Nat → Int × Int × Int × Int} {v : Value} (h : PlayI W wr b g c rb f n A v) (k : Below wr.heap.size wr w') : PlayI W w' b g c rb f n A v :=
  ⟨h.H.keep k, h.HA.keep h.H.lg k, h.R.keep k, h.L.keep k, h.nb, h.ng, h.nr, h.hrb, h.hrg, h.bel.trans (k.mono h.bel.size)⟩
theorem ownBlock_cut (v : Value) (k size : Nat) : (cutFrom v k size).ownBlock = v.ownBlock := by
  unfold cutFrom
  split <;> rfl
theorem Line.frame2 {w w' : World} {base size n b g : Nat} {v : Value} {xs : List Value} (h : Line w base size v n xs) (k : Frame2 b g w w') (hb : v.ownBlock ≠ some b) (hg : v.ownBlock ≠ some g) : Line w' base size v n xs :=
  h.block k.size fun q hq => k.block q (h.lt hq).2 (fun e => hb (by rw [hq, e])) (fun e => hg (by rw [hq, e]))
theorem PlayI.frame {W wr X w3 : World} {b g c rb f f' n n' : Nat} {A A' : Nat → Int × Int × Int × Int} {v : Value} (h : PlayI W wr b g c rb f n A v) (hX : Below wr.heap.size wr X) (F : Frame2 b g X w3) :
    RefR w3 rb c v ∧ Line w3 W.heap.size 4 v n (cells4 (ringL A f c n)) := by
  have hz := hX.size
  exact ⟨(h.R.keep hX).block (F.block rb (by have := h.R.lt; omega) h.hrb h.hrg) F.size, (h.L.keep hX).frame2 F h.nb h.ng⟩
theorem PlayI.pop {W wr X w3 w3' w4 : World} {b g c rb f n : Nat} {A : Nat → Int × Int × Int × Int} {v : Value} (h : PlayI W wr b g c rb f n A v) (hlb : W.heap.size ≤ b) (hlg : W.heap.size ≤ g) (hlr : W.heap.size ≤ rb) (hn : 0 < n)
    (hX : Below wr.heap.size wr X) (F : Frame2 b g X w3) (H3 : RingH w3 b g c ((f + 1) % c) (n - 1)) (A3 : RingA w3 g c A) (hb : Below w3.heap.size w3 w3') (R4 : RefR w4 rb c (cutFrom v 1 4)) (F4 : FrameS (fun k => k = rb) w3' w4) :
    PlayI W w4 b g c rb ((f + 1) % c) (n - 1) A (cutFrom v 1 4) := by
  obtain ⟨R3, L3⟩ := h.frame (f' := 0) (n' := 0) (A' := A) hX F
  have hz := hX.size
  have hz1 := F.size
  have hz2 := hb.size
  have hz3 := F4.size
  have hzW := h.bel.size
  have L4 : Line w4 W.heap.size 4 v n (cells4 (ringL A f c n)) := F4.line (L3.keep hb) fun q hq e => h.nr (by rw [hq, e])
  have L5 := L4.from 1 (by omega)
  refine ⟨(H3.keep hb).of_block (F4.block b (by have := h.H.lb; omega) (Ne.symm h.hrb)) hz3, (A3.keep H3.lg hb).of_block (F4.block g (by have := h.H.lg; omega) (Ne.symm h.hrg)), R4, ?_, by rw [ownBlock_cut]; exact h.nb, by rw [ownBlock_cut]; exact h.ng, by rw [ownBlock_cut]; exact h.nr, h.hrb, h.hrg, ?_⟩
  · rw [ringL_head A f c n h.H.lf hn] at L5
    exact L5
  · exact h.bel.trans ((hX.mono hzW).trans ((F.below hlb hlg (by omega)).trans ((hb.mono (by omega)).trans (F4.below (fun k e => by omega) (by omega)))))
theorem PlayI.push {W wr X w3 w3' w4 : World} {b g c rb f n : Nat} {A : Nat → Int × Int × Int × Int} {v v' : Value} {x : Int × Int × Int × Int} (h : PlayI W wr b g c rb f n A v) (hlb : W.heap.size ≤ b) (hlg : W.heap.size ≤ g) (hlr : W.heap.size ≤ rb) (hn : n < c)
    (hX : Below wr.heap.size wr X) (F : Frame2 b g X w3) (H3 : RingH w3 b g c f (n + 1)) (A3 : RingA w3 g c (fun i => if i = (f + n) % c then x else A i)) (hb : Below w3.heap.size w3 w3') (R4 : RefR w4 rb c v')
    (L4 : Line w4 W.heap.size 4 v' (n + 1) (cells4 (ringL A f c n) ++ four x)) (F4 : FrameS (fun k => k = rb ∨ v.ownBlock = some k) w3' w4) (hat : v'.ownBlock = v.ownBlock ∨ ∃ q, w3'.heap.size ≤ q ∧ v'.ownBlock = some q) :
    PlayI W w4 b g c rb f (n + 1) (fun i => if i = (f + n) % c then x else A i) v' := by
  have hz := hX.size
  have hz1 := F.size
  have hz2 := hb.size
  have hz3 := F4.size
  have hzW := h.bel.size
  have lb := h.H.lb
  have lg := h.H.lg
  have lr := h.R.lt
  have far : ∀ q, q < w3'.heap.size → v.ownBlock ≠ some q → v'.ownBlock ≠ some q := by
    intro q hq hne e
    rcases hat with e' | ⟨r, hr, e'⟩
    · exact hne (by rw [← e', e])
    · rw [e] at e'; simp only [Option.some.injEq] at e'; omega
  refine ⟨(H3.keep hb).of_block (F4.block b (by omega) ?_) hz3, (A3.keep H3.lg hb).of_block (F4.block g (by omega) ?_), R4, ?_, far b (by omega) h.nb, far g (by omega) h.ng, far rb (by omega) h.nr, h.hrb, h.hrg, ?_⟩
  · exact fun e => e.elim (Ne.symm h.hrb) h.nb
  · exact fun e => e.elim (Ne.symm h.hrg) h.ng
  · rw [ringL_put A f c n h.H.lf hn x, cells4_append]; exact L4
  · refine h.bel.trans ((hX.mono hzW).trans ((F.below hlb hlg (by omega)).trans ((hb.mono (by omega)).trans (F4.below (fun k e => ?_) (by omega)))))
    rcases e with e | e
    · omega
    · exact (h.L.lt e).1
/-- Between the two calls of Push. -/
structure PlayM (W w3 : World) (b g c rb f n : Nat) (A : Nat → Int × Int × Int × Int) (v : Value) (x : Int × Int × Int × Int) : Prop where
  hn : n < c
  hf : f < c
  H : RingH w3 b g c f (n + 1)
  HA : RingA w3 g c (fun i => if i = (f + n) % c then x else A i)
  R : RefR w3 rb c v
  L : Line w3 W.heap.size 4 v n (cells4 (ringL A f c n))
  nb : v.ownBlock ≠ some b
  ng : v.ownBlock ≠ some g
  nr : v.ownBlock ≠ some rb
  hrb : rb ≠ b
  hrg : rb ≠ g
  hlr : W.heap.size ≤ rb
  bel : RowKit.Below W.heap.size W w3
theorem pushMid {W wr X : World} {b g c rb f n : Nat} {A : Nat → Int × Int × Int × Int} {v : Value} {x y z u : Int} (h : PlayI W wr b g c rb f n A v) (hlb : W.heap.size ≤ b) (hlg : W.heap.size ≤ g) (hlr : W.heap.size ≤ rb) (hn : n < c) (k : Below wr.heap.size wr X) :
    Calls Try.prog 20 #[.pointer (some ⟨b, 0, none⟩), .agg #[.int .i64 x, .int .i64 y, .int .i64 z, .int .u32 u]] X fun e w3 => e = .returned (.bool true) ∧ RowKit.Below W.heap.size W w3 ∧ wr.heap.size ≤ w3.heap.size ∧ PlayM W w3 b g c rb f n A v (x, y, z, u) :=
  (pushR (h.H.keep k) (h.HA.keep h.H.lg k) hn).mono fun e w3 ⟨he, F, H3, A3⟩ => by
    obtain ⟨R3, L3⟩ := h.frame (f' := 0) (n' := 0) (A' := A) k F
    have hz := k.size
    have hz1 := F.size
    have hzW := h.bel.size
    have hb : RowKit.Below W.heap.size W w3 := h.bel.trans ((k.mono hzW).trans (F.below hlb hlg (by omega)))
    exact ⟨he, hb, by omega, hn, h.H.lf, H3, A3, R3, L3, h.nb, h.ng, h.nr, h.hrb, h.hrg, hlr, hb⟩
theorem refPushMid {W w3 X : World} {b g c rb f n : Nat} {A : Nat → Int × Int × Int × Int} {v : Value} {x y z u : Int} (h : PlayM W w3 b g c rb f n A v (x, y, z, u)) (hc : c ≤ 256) (k : Below w3.heap.size w3 X) :
    Calls Try.prog 21 #[.pointer (some ⟨rb, 0, none⟩), .agg #[.int .i64 x, .int .i64 y, .int .i64 z, .int .u32 u]] X fun e w4 => e = .returned (.bool true) ∧ RowKit.Below W.heap.size W w4 ∧ w3.heap.size ≤ w4.heap.size ∧ ∃ v', PlayI W w4 b g c rb f (n + 1) (fun i => if i = (f + n) % c then (x, y, z, u) else A i) v' := by
  have hz := k.size
  have hzW := h.bel.size
  refine (refPushR (h.R.keep k) (h.L.keep k) h.hn hc h.nr (by omega)).mono fun e w4 ⟨he, v', R4, L4, F4, hat⟩ => ?_
  have hz4 := F4.size
  have lb := h.H.lb
  have lg := h.H.lg
  have lr := h.R.lt
  have far : ∀ q, q < w3.heap.size → v.ownBlock ≠ some q → v'.ownBlock ≠ some q := by
    intro q hq hne e
    rcases hat with e' | ⟨r, hr, e'⟩
    · exact hne (by rw [← e', e])
    · rw [e] at e'; simp only [Option.some.injEq] at e'; omega
  have hb : RowKit.Below W.heap.size W w4 := h.bel.trans ((k.mono hzW).trans (F4.below (fun q e => by
    rcases e with e | e
    · have := h.hlr; omega
    · exact (h.L.lt e).1) (by omega)))
  refine ⟨he, hb, by omega, v', (h.H.keep k).of_block (F4.block b (by omega) ?_) hz4, (h.HA.keep h.H.lg k).of_block (F4.block g (by omega) ?_), R4, ?_, far b (by omega) h.nb, far g (by omega) h.ng, far rb (by omega) h.nr, h.hrb, h.hrg, hb⟩
  · exact fun e => e.elim (Ne.symm h.hrb) h.nb
  · exact fun e => e.elim (Ne.symm h.hrg) h.ng
  · rw [ringL_put A f c n h.hf h.hn, cells4_append]; exact L4
end Go.Proofs.Ytjlclpdjblicjaa
