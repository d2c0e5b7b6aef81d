/-
  A history in the midst of a law: what its calls leave. No condition.
-/
import Derived.Test.YtjlclpdjblicjaaHistFind
namespace Go.Proofs.Ytjlclpdjblicjaa
open Go.RowKit Go.Sort Go.BigFrame
set_option linter.unusedVariables false
attribute [local go_sem ↓] Go.wp_at_zero Go.wp_at_succ
/-- The last m of a list. -/
def lastE (A : List Ent) (m : Nat) : List Ent := A.drop (A.length - m)
theorem lastE_len (A : List Ent) (m : Nat) : (lastE A m).length = A.length - (A.length - m) := by unfold lastE; rw [List.length_drop]
theorem lastE_le (A : List Ent) (m : Nat) : (lastE A m).length ≤ m := by rw [lastE_len]; omega
theorem lastE_in (A : List Ent) (m : Nat) (e : Ent) (h : A.length < m) : lastE (A ++ [e]) m = lastE A m ++ [e] := by
  unfold lastE
  rw [List.length_append, List.length_singleton, show A.length + 1 - m = 0 by omega, show A.length - m = 0 by omega]; simp
theorem lastE_out (A : List Ent) (m : Nat) (e : Ent) (h : m ≤ A.length) : ∃ y, lastE A m ++ [e] = y :: lastE (A ++ [e]) m := by
  unfold lastE
  rw [List.length_append, List.length_singleton]
  have h1 : A.drop (A.length - m) ++ [e] = (A ++ [e]).drop (A.length - m) := by rw [List.drop_append_of_le_length (by omega)]
  rw [h1, show A.length + 1 - m = A.length - m + 1 by omega]
  have hlt : A.length - m < (A ++ [e]).length := by simp; omega
  exact ⟨_, List.drop_eq_getElem_cons hlt⟩
/-- A history of a law's own: W is the world from which on all is the law's. -/
structure HistJ (W w : World) (hb m : Nat) (v : Value) (l : List Ent) : Prop where
  H : HistH w W.heap.size hb v l m
  lo : W.heap.size ≤ hb
  bel : Below W.heap.size W w
theorem HistJ.keep {W w w' : World} {hb m : Nat} {v : Value} {l : List Ent} (h : HistJ W w hb m v l) (k : Below w.heap.size w w') : HistJ W w' hb m v l :=
  ⟨h.H.keep k, h.lo, h.bel.trans (k.mono h.bel.size)⟩
theorem HistJ.lt {W w : World} {hb m : Nat} {v : Value} {l : List Ent} (h : HistJ W w hb m v l) : hb < w.heap.size := h.H.blk.lt
theorem newJ (W : World) (n : Int) (h0 : -9223372036854775808 ≤ n) (h1 : n ≤ 9223372036854775807) :
    Calls Try.prog 28 #[.int .i64 n] W fun e w' => e = .returned (.pointer (some ⟨W.heap.size, 0, none⟩)) ∧ HistJ W w' W.heap.size (mostN n) (.slice none 0 0) [] ∧ w'.heap.size = W.heap.size + 1 := by
  refine (newH n W h0 h1).mono fun e w' ⟨he, hw⟩ => ?_
  subst hw
  refine ⟨he, ⟨⟨inferInstance, by simpa [ents] using Line.nil _ W.heap.size 7, by simp [Value.ownBlock], by simp, mostN_le n⟩, Nat.le_refl _, (by repeat (first | with_reducible exact Below.refl _ _ | (with_reducible refine Below.alloc ?_ ?_ _; rotate_left; focus ((try simp) <;> omega)) | (with_reducible refine Below.setCell ?_ ?_ _; rotate_left; focus ((try simp) <;> omega)) | (with_reducible refine below_grow ?_ ?_; rotate_left; focus ((try simp) <;> omega)) | (with_reducible refine below_putB ?_ ?_; rotate_left; focus ((try simp) <;> omega)) | with_reducible refine Below.drew ?_ | with_reducible refine below_drewN ?_ | with_reducible assumption | (with_reducible refine below_step (by assumption) ?_ ?_; rotate_left; focus ((try simp) <;> omega))))⟩, by simp⟩
/-- Behind Push: the blocks that may have turned. -/
def PushS (hb : Nat) (v : Value) (k : Nat) : Prop := k = hb ∨ v.ownBlock = some k
theorem HistJ.below {W X w' : World} {hb m : Nat} {v : Value} {l : List Ent} (h : HistJ W X hb m v l) (F : FrameS (PushS hb v) X w') : Below W.heap.size W w' :=
  h.bel.trans (F.below (fun k e => by rcases e with e | e; have := h.lo; omega; exact (h.H.line.lt e).1) h.bel.size)
theorem pushInJ {W w X : World} {hb m : Nat} {v : Value} {l : List Ent} {e : Ent} (J : HistJ W w hb m v l) (hlt : l.length < m) (k : Below w.heap.size w X) :
    Calls Try.prog 30 #[.pointer (some ⟨hb, 0, none⟩), .agg (entC e).toArray] X fun z w' => z = .returned (.tuple #[ent0, .bool false]) ∧ ∃ v', HistJ W w' hb m v' (l ++ [e]) ∧ FrameS (PushS hb v) X w' ∧ (v'.ownBlock = v.ownBlock ∨ ∃ q, X.heap.size ≤ q ∧ v'.ownBlock = some q) := by
  have K := J.keep k
  refine (pushIn K.H hlt K.bel.size).mono fun z w' ⟨hz, v', H', F, hat⟩ => ⟨hz, v', ⟨H', K.lo, K.below F⟩, F, hat⟩
theorem pushOutJ {W w X : World} {hb m : Nat} {v : Value} {l r : List Ent} {e y : Ent} (J : HistJ W w hb m v l) (hlt : l.length = m) (hyr : l ++ [e] = y :: r) (k : Below w.heap.size w X) :
    Calls Try.prog 30 #[.pointer (some ⟨hb, 0, none⟩), .agg (entC e).toArray] X fun z w' => z = .returned (.tuple #[.agg (entC y).toArray, .bool true]) ∧ ∃ v', HistJ W w' hb m v' r ∧ FrameS (PushS hb v) X w' ∧ (v'.ownBlock = v.ownBlock ∨ ∃ q, X.heap.size ≤ q ∧ v'.ownBlock = some q) := by
  have K := J.keep k
  refine (pushOut K.H hlt hyr K.bel.size).mono fun z w' ⟨hz, v', H', F, hat⟩ => ⟨hz, v', ⟨H', K.lo, K.below F⟩, F, hat⟩
theorem findJ {W w X : World} {hb m : Nat} {v : Value} {l : List Ent} {s : Int} (J : HistJ W w hb m v l) (k : Below w.heap.size w X) :
    Calls Try.prog 31 #[.pointer (some ⟨hb, 0, none⟩), .int .u16 s] X (Gives (findV l s) X) := findH (J.keep k).H
theorem allJ {W w X : World} {hb m : Nat} {v : Value} {l : List Ent} (J : HistJ W w hb m v l) (k : Below w.heap.size w X) :
    Calls Try.prog 35 #[.pointer (some ⟨hb, 0, none⟩)] X fun e w' => ∃ v', e = .returned v' ∧ Line w' X.heap.size 7 v' l.length (ents l) ∧ Below X.heap.size X w' := allH (J.keep k).H
theorem clearJ {W w X : World} {hb m : Nat} {v : Value} {l : List Ent} (J : HistJ W w hb m v l) (k : Below w.heap.size w X) :
    Calls Try.prog 34 #[.pointer (some ⟨hb, 0, none⟩)] X fun e w' => ∃ v', e = .returned v' ∧ Line w' X.heap.size 7 v' l.length (ents l) ∧ HistJ W w' hb m (.slice none 0 0) [] ∧ FrameS (fun k => k = hb) X w' := by
  have K := J.keep k
  refine (clearH K.H).mono fun z w' ⟨v', hz, hL, H', F⟩ => ⟨v', hz, hL, ⟨H', K.lo, K.below (F.weak fun k e => .inl e)⟩, F⟩
set_option maxRecDepth 100000 in
set_option maxHeartbeats 4000000 in
theorem shown18 (w : World) : Calls Try.prog 27 #[] w (Gives (.bool true) w) := by
  have hf1 : findV [(2, 0, 0, 0, 0, 0, 0), (3, 0, 0, 0, 0, 0, 0)] 2 = .tuple #[.agg #[.int .u16 2, .int .i64 0, .int .u32 0, .int .u16 0, .int .u32 0, .int .u32 0, .int .u16 0], .bool true] := by rfl
  have hf2 : findV [(2, 0, 0, 0, 0, 0, 0), (3, 0, 0, 0, 0, 0, 0)] 1 = .tuple #[ent0, .bool false] := by rfl
  have HF1 := Lib.hid hf1
  have HF2 := Lib.hid hf2
  clear hf1 hf2
  go_enter Try.func27, Try.ntmps27
  go_wp2_with fail
  refine (newJ _ 2 (by omega) (by omega)).mono ?_; rintro e w1 ⟨rfl, J1, hz1⟩
  obtain ⟨hb, hhb⟩ : ∃ hb, hb = w.heap.size := ⟨_, rfl⟩
  rw [← hhb] at J1 ⊢
  have J1' := Lib.hid J1
  clear J1 hhb
  go_wp2_with fail
  refine (pushInJ (e := (1, 0, 0, 0, 0, 0, 0)) J1'.out (by decide) (Below.refl _ _)).mono ?_; rintro e w2 ⟨rfl, v2, J2, F2, _⟩
  have J2' := Lib.hid J2
  clear J2 F2
  simp only [ent0]
  go_wp2_with fail
  refine (pushInJ (e := (2, 0, 0, 0, 0, 0, 0)) J2'.out (by decide) (by repeat (first | with_reducible exact Below.refl _ _ | (with_reducible refine Below.alloc ?_ ?_ _; rotate_left; focus ((try simp) <;> omega)) | (with_reducible refine Below.setCell ?_ ?_ _; rotate_left; focus ((try simp) <;> omega)) | (with_reducible refine below_grow ?_ ?_; rotate_left; focus ((try simp) <;> omega)) | (with_reducible refine below_putB ?_ ?_; rotate_left; focus ((try simp) <;> omega)) | with_reducible refine Below.drew ?_ | with_reducible refine below_drewN ?_ | with_reducible assumption | (with_reducible refine below_step (by assumption) ?_ ?_; rotate_left; focus ((try simp) <;> omega))))).mono ?_; rintro e w3 ⟨rfl, v3, J3, F3, _⟩
  have J3' := Lib.hid J3
  clear J3 F3
  simp only [ent0]
  go_wp2_with fail
  refine (pushOutJ (e := (3, 0, 0, 0, 0, 0, 0)) (y := (1, 0, 0, 0, 0, 0, 0)) (r := [(2, 0, 0, 0, 0, 0, 0), (3, 0, 0, 0, 0, 0, 0)]) J3'.out (by decide) rfl (by repeat (first | with_reducible exact Below.refl _ _ | (with_reducible refine Below.alloc ?_ ?_ _; rotate_left; focus ((try simp) <;> omega)) | (with_reducible refine Below.setCell ?_ ?_ _; rotate_left; focus ((try simp) <;> omega)) | (with_reducible refine below_grow ?_ ?_; rotate_left; focus ((try simp) <;> omega)) | (with_reducible refine below_putB ?_ ?_; rotate_left; focus ((try simp) <;> omega)) | with_reducible refine Below.drew ?_ | with_reducible refine below_drewN ?_ | with_reducible assumption | (with_reducible refine below_step (by assumption) ?_ ?_; rotate_left; focus ((try simp) <;> omega))))).mono ?_; rintro e w4 ⟨rfl, v4, J4, F4, _⟩
  have J4' := Lib.hid J4
  clear J4 F4
  simp only [entC]
  go_wp2_with fail
  refine (findJ J4'.out (by repeat (first | with_reducible exact Below.refl _ _ | (with_reducible refine Below.alloc ?_ ?_ _; rotate_left; focus ((try simp) <;> omega)) | (with_reducible refine Below.setCell ?_ ?_ _; rotate_left; focus ((try simp) <;> omega)) | (with_reducible refine below_grow ?_ ?_; rotate_left; focus ((try simp) <;> omega)) | (with_reducible refine below_putB ?_ ?_; rotate_left; focus ((try simp) <;> omega)) | with_reducible refine Below.drew ?_ | with_reducible refine below_drewN ?_ | with_reducible assumption | (with_reducible refine below_step (by assumption) ?_ ?_; rotate_left; focus ((try simp) <;> omega))))).mono ?_; rintro e w5 ⟨rfl, hb5⟩; have ha5 : After _ w5 := ⟨hb5⟩; obtain ⟨hc5, hf5⟩ := after hb5; have hz5 := hb5.size; try simp at hz5
  rw [HF1.out]
  go_wp2_with fail
  refine (findJ J4'.out (by repeat (first | with_reducible exact Below.refl _ _ | (with_reducible refine Below.alloc ?_ ?_ _; rotate_left; focus ((try simp) <;> omega)) | (with_reducible refine Below.setCell ?_ ?_ _; rotate_left; focus ((try simp) <;> omega)) | (with_reducible refine below_grow ?_ ?_; rotate_left; focus ((try simp) <;> omega)) | (with_reducible refine below_putB ?_ ?_; rotate_left; focus ((try simp) <;> omega)) | with_reducible refine Below.drew ?_ | with_reducible refine below_drewN ?_ | with_reducible assumption | (with_reducible refine below_step (by assumption) ?_ ?_; rotate_left; focus ((try simp) <;> omega))))).mono ?_; rintro e w6 ⟨rfl, hb6⟩; have ha6 : After _ w6 := ⟨hb6⟩; obtain ⟨hc6, hf6⟩ := after hb6; have hz6 := hb6.size; try simp at hz6
  rw [HF2.out]
  simp only [ent0]
  go_wp2_with fail
  refine (allJ J4'.out (by repeat (first | with_reducible exact Below.refl _ _ | (with_reducible refine Below.alloc ?_ ?_ _; rotate_left; focus ((try simp) <;> omega)) | (with_reducible refine Below.setCell ?_ ?_ _; rotate_left; focus ((try simp) <;> omega)) | (with_reducible refine below_grow ?_ ?_; rotate_left; focus ((try simp) <;> omega)) | (with_reducible refine below_putB ?_ ?_; rotate_left; focus ((try simp) <;> omega)) | with_reducible refine Below.drew ?_ | with_reducible refine below_drewN ?_ | with_reducible assumption | (with_reducible refine below_step (by assumption) ?_ ?_; rotate_left; focus ((try simp) <;> omega))))).mono ?_; rintro e w7 ⟨v7, rfl, hL7, hb7⟩; have ha7 : After _ w7 := ⟨hb7⟩; obtain ⟨hc7, hf7⟩ := after hb7; have hz7 := hb7.size; try simp at hz7
  obtain ⟨a7, c7, rfl, _, _⟩ := hL7.shape
  clear hL7
  go_wp2_with fail
  refine (clearJ J4'.out (by repeat (first | with_reducible exact Below.refl _ _ | (with_reducible refine Below.alloc ?_ ?_ _; rotate_left; focus ((try simp) <;> omega)) | (with_reducible refine Below.setCell ?_ ?_ _; rotate_left; focus ((try simp) <;> omega)) | (with_reducible refine below_grow ?_ ?_; rotate_left; focus ((try simp) <;> omega)) | (with_reducible refine below_putB ?_ ?_; rotate_left; focus ((try simp) <;> omega)) | with_reducible refine Below.drew ?_ | with_reducible refine below_drewN ?_ | with_reducible assumption | (with_reducible refine below_step (by assumption) ?_ ?_; rotate_left; focus ((try simp) <;> omega))))).mono ?_; rintro e w8 ⟨v8, rfl, hL8, J8, F8⟩
  obtain ⟨a8, c8, rfl, _, _⟩ := hL8.shape
  have J8' := Lib.hid J8
  clear hL8 J8 F8
  go_wp2_with fail
  refine (allJ J8'.out (by repeat (first | with_reducible exact Below.refl _ _ | (with_reducible refine Below.alloc ?_ ?_ _; rotate_left; focus ((try simp) <;> omega)) | (with_reducible refine Below.setCell ?_ ?_ _; rotate_left; focus ((try simp) <;> omega)) | (with_reducible refine below_grow ?_ ?_; rotate_left; focus ((try simp) <;> omega)) | (with_reducible refine below_putB ?_ ?_; rotate_left; focus ((try simp) <;> omega)) | with_reducible refine Below.drew ?_ | with_reducible refine below_drewN ?_ | with_reducible assumption | (with_reducible refine below_step (by assumption) ?_ ?_; rotate_left; focus ((try simp) <;> omega))))).mono ?_; rintro e w9 ⟨v9, rfl, hL9, hb9⟩
  obtain ⟨a9, c9, rfl, _, _⟩ := hL9.shape
  clear hL9
  go_wp2_with fail
  refine ret_any ⟨_, by simp [results, Try.results27, go_sem, *]; rfl, ?_⟩ rfl
  exact gives_of rfl (J8'.out.bel.trans (hb9.mono J8'.out.bel.size))
end Go.Proofs.Ytjlclpdjblicjaa
