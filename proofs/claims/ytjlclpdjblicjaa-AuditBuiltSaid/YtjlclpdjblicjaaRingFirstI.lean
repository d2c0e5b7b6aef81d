/-
  What stands at the head of a round of the law RingFirst, and what a round makes of it. No condition.
-/
import Derived.Test.YtjlclpdjblicjaaRingNone
import Derived.Test.YtjlclpdjblicjaaRingEmpty
import Derived.Laws.AppendOwnNone
namespace Go.Proofs.Ytjlclpdjblicjaa
open Go.RowKit Go.Sort Go.BigFrame
set_option linter.unusedVariables false
attribute [local go_sem ↓] Go.wp_at_zero Go.wp_at_succ
theorem cells4_join (l m : List (Int × Int × Int × Int)) : cells4 (l ++ m) = cells4 l ++ cells4 m := by simp [cells4]
theorem cells4_one (l : List (Int × Int × Int × Int)) : ∀ u ∈ cells4 l, u.oneCell' = true := by
  intro u hu
  simp only [cells4, List.mem_flatMap] at hu
  obtain ⟨x, _, hx⟩ := hu
  exact four_one x u hx
theorem ringL_length (A : Nat → Int × Int × Int × Int) (f c n : Nat) : (ringL A f c n).length = n := by simp [ringL]
theorem ringL_head (A : Nat → Int × Int × Int × Int) (f c n : Nat) (hf : f < c) (hn : 0 < n) : ringL A f c n = A f :: ringL A ((f + 1) % c) c (n - 1) := by
  obtain ⟨m, rfl⟩ : ∃ m, n = m + 1 := ⟨n - 1, by omega⟩
  simp only [ringL, List.range_succ_eq_map, List.map_cons, List.map_map, Nat.add_zero, Nat.mod_eq_of_lt hf, Nat.add_sub_cancel]
  congr 1
  apply List.map_congr_left
  intro i _
  simp only [Function.comp_apply, Nat.mod_add_mod]
  congr 2
  omega
theorem mod_two {a c : Nat} (h : a < c + c) : a % c = if a < c then a else a - c := by
  split
  · exact Nat.mod_eq_of_lt ‹_›
  · rw [Nat.mod_eq_sub_mod (by omega), Nat.mod_eq_of_lt (by omega)]
theorem ringL_put (A : Nat → Int × Int × Int × Int) (f c n : Nat) (hf : f < c) (hn : n < c) (x : Int × Int × Int × Int) : ringL (fun i => if i = (f + n) % c then x else A i) f c (n + 1) = ringL A f c n ++ [x] := by
  rw [ringL_succ]
  simp only [if_true]
  congr 1
  simp only [ringL]
  apply List.map_congr_left
  intro i hi
  have hi' : i < n := by simpa using hi
  rw [if_neg]
  intro e
  rw [mod_two (by omega), mod_two (by omega)] at e
  split at e <;> split at e <;> omega
/-- What stands at the head of a round. -/
structure FirstI (W wr : World) (b g c : Nat) (s6 s7 : Value) (k f n : Nat) (A : Nat → Int × Int × Int × Int) (I O : List (Int × Int × Int × Int)) : Prop where
  H : RingH wr b g c f n
  HA : RingA wr g c A
  eq : I = O ++ ringL A f c n
  len : I.length ≤ k
  own6 : wr.ownsRow W.heap.size 32 4 s6 I.length (cells4 I)
  own7 : wr.ownsRow W.heap.size 32 4 s7 O.length (cells4 O)
  o6b : s6.ownBlock ≠ some b
  o6g : s6.ownBlock ≠ some g
  o7b : s7.ownBlock ≠ some b
  o7g : s7.ownBlock ≠ some g
  apart : ∀ q, s6.ownBlock = some q → s7.ownBlock ≠ some q
  bel : RowKit.Below W.heap.size W wr
theorem FirstI.idle {W wr w' : World} {b g c k f n : Nat} {s6 s7 : Value} {A : Nat → Int × Int × Int × Int} {I O : List (Int × Int × Int × Int)} (h : FirstI W wr b g c s6 s7 k f n A I O) (hb : RowKit.Below wr.heap.size wr w') : FirstI W w' b g c s6 s7 (k + 1) f n A I O :=
  ⟨h.H.keep hb, h.HA.keep h.H.lg hb, h.eq, by have := h.len; omega, own_keep h.own6 hb, own_keep h.own7 hb, h.o6b, h.o6g, h.o7b, h.o7g, h.apart, h.bel.trans (hb.mono h.bel.size)⟩
/-- A cell is taken and put behind the others that came out. -/
theorem FirstI.pop {W wr w3 w4 w5 : World} {b g c k f n p q : Nat} {cap : Nat} {s6 s7 : Value} {A : Nat → Int × Int × Int × Int} {I O : List (Int × Int × Int × Int)} (h : FirstI W wr b g c s6 s7 k f n A I O)
    (hlb : W.heap.size ≤ b) (hlg : W.heap.size ≤ g) (hn : 0 < n) (F : Frame2 b g wr w3) (H3 : RingH w3 b g c ((f + 1) % c) (n - 1)) (A3 : RingA w3 g c A) (hb : RowKit.Below w3.heap.size w3 w4)
    (own : w5.ownsRow W.heap.size 32 4 (.slice (some ⟨p, 0, none⟩) (O.length + 1) cap) (O.length + 1) (cells4 O ++ four (A f))) (gr : w4.grownBy w5 s7.ownBlock) (hat : s7.ownBlock = some p ∨ p = q) (hq : q = w4.heap.size) :
    FirstI W w5 b g c s6 (.slice (some ⟨p, 0, none⟩) (O.length + 1) cap) (k + 1) ((f + 1) % c) (n - 1) A I (O ++ [A f]) := by
  have hsz := F.size
  have hs4 := hb.size
  have l1 := h.H.lb
  have l2 := h.H.lg
  have k4b : w5.heap[b]? = w4.heap[b]? := gr.block b (by omega) (Ne.symm h.o7b)
  have k4g : w5.heap[g]? = w4.heap[g]? := gr.block g (by omega) (Ne.symm h.o7g)
  have H4 := H3.keep hb
  have A4 := A3.keep H3.lg hb
  have own6' : w4.ownsRow W.heap.size 32 4 s6 I.length (cells4 I) := own_keep (own_frame2 h.own6 F h.o6b h.o6g) hb
  have hpn : p ≠ b ∧ p ≠ g := by
    rcases hat with e | e
    · exact ⟨fun e' => h.o7b (by rw [e, e']), fun e' => h.o7g (by rw [e, e'])⟩
    · omega
  refine ⟨H4.of_block k4b gr.size, A4.of_block k4g, ?_, by have := h.len; omega, own_grown own6' gr (fun r hr e => h.apart r hr e), ?_, h.o6b, h.o6g, ?_, ?_, ?_, ?_⟩
  · rw [h.eq, ringL_head A f c n h.H.lf hn]; simp
  · rw [cells4_append]; simpa using own
  · simpa [Value.ownBlock] using hpn.1
  · simpa [Value.ownBlock] using hpn.2
  · intro r hr e
    simp only [Value.ownBlock, Option.some.injEq] at e
    subst e
    rcases hat with e | e
    · exact h.apart _ hr e
    · have := (own_lt own6' hr).2; omega
  · refine (h.bel.trans ((F.below hlb hlg (by have := h.bel.size; omega)).trans (hb.mono (by have := h.bel.size; omega)))).grown gr (by have := h.bel.size; omega) (fun r hr => ?_)
    exact (own_lt h.own7 hr).1
/-- A cell goes in. -/
theorem FirstI.push {W wr w3 w4 w5 : World} {b g c k f n p q : Nat} {cap : Nat} {s6 s7 : Value} {A : Nat → Int × Int × Int × Int} {I O : List (Int × Int × Int × Int)} {x : Int × Int × Int × Int} (h : FirstI W wr b g c s6 s7 k f n A I O)
    (hlb : W.heap.size ≤ b) (hlg : W.heap.size ≤ g) (hn : n < c) (F : Frame2 b g wr w3) (H3 : RingH w3 b g c f (n + 1)) (A3 : RingA w3 g c (fun i => if i = (f + n) % c then x else A i)) (hb : RowKit.Below w3.heap.size w3 w4)
    (own : w5.ownsRow W.heap.size 32 4 (.slice (some ⟨p, 0, none⟩) (I.length + 1) cap) (I.length + 1) (cells4 I ++ four x)) (gr : w4.grownBy w5 s6.ownBlock) (hat : s6.ownBlock = some p ∨ p = q) (hq : q = w4.heap.size) :
    FirstI W w5 b g c (.slice (some ⟨p, 0, none⟩) (I.length + 1) cap) s7 (k + 1) f (n + 1) (fun i => if i = (f + n) % c then x else A i) (I ++ [x]) O := by
  have hsz := F.size
  have hs4 := hb.size
  have l1 := h.H.lb
  have l2 := h.H.lg
  have k4b : w5.heap[b]? = w4.heap[b]? := gr.block b (by omega) (Ne.symm h.o6b)
  have k4g : w5.heap[g]? = w4.heap[g]? := gr.block g (by omega) (Ne.symm h.o6g)
  have H4 := H3.keep hb
  have A4 := A3.keep H3.lg hb
  have own7' : w4.ownsRow W.heap.size 32 4 s7 O.length (cells4 O) := own_keep (own_frame2 h.own7 F h.o7b h.o7g) hb
  have hpn : p ≠ b ∧ p ≠ g := by
    rcases hat with e | e
    · exact ⟨fun e' => h.o6b (by rw [e, e']), fun e' => h.o6g (by rw [e, e'])⟩
    · omega
  refine ⟨H4.of_block k4b gr.size, A4.of_block k4g, ?_, by have := h.len; simp; omega, ?_, own_grown own7' gr (fun r hr e => h.apart r e hr), ?_, ?_, h.o7b, h.o7g, ?_, ?_⟩
  · rw [ringL_put A f c n h.H.lf hn x, h.eq, List.append_assoc]
  · rw [cells4_append]; simpa using own
  · simpa [Value.ownBlock] using hpn.1
  · simpa [Value.ownBlock] using hpn.2
  · intro r hr e
    simp only [Value.ownBlock, Option.some.injEq] at hr
    subst hr
    rcases hat with e' | e'
    · exact h.apart _ e' e
    · have := (own_lt own7' e).2; omega
  · refine (h.bel.trans ((F.below hlb hlg (by have := h.bel.size; omega)).trans (hb.mono (by have := h.bel.size; omega)))).grown gr (by have := h.bel.size; omega) (fun r hr => ?_)
    exact (own_lt h.own6 hr).1
end Go.Proofs.Ytjlclpdjblicjaa
