/-
  What a ring that is new shows; the law RingNone as a walk. No condition but that the argument fits its type.
-/
import Derived.Test.YtjlclpdjblicjaaRingNew
import Derived.Test.YtjlclpdjblicjaaTypes
namespace Go.Proofs.Ytjlclpdjblicjaa
open Go.RowKit Go.Sort Go.BigFrame
set_option linter.unusedVariables false
attribute [local go_sem ↓] Go.wp_at_zero Go.wp_at_succ
theorem Frame2.below {b g B : Nat} {w w' : World} (h : Frame2 b g w w') (hb : B ≤ b) (hg : B ≤ g) (hB : B ≤ w.heap.size) : Below B w w' :=
  ⟨h.os, h.tape, h.output, h.size, fun k hk => h.block k (by omega) (by omega) (by omega)⟩
set_option maxRecDepth 100000 in
theorem shown13 (w : World) : Calls Try.prog 15 #[] w (Gives (.bool true) w) := by
  go_enter Try.func15, Try.ntmps15
  go_wp2_with fail
  refine (newMid 2 w 2 (by omega) (by omega) (by omega) (by omega) (by omega)).mono ?_; rintro e w1 ⟨b, rfl, hlb, H1, A1, B1⟩
  obtain ⟨g, hg⟩ : ∃ g, g = w.heap.size := ⟨_, rfl⟩
  have k0 : w.heap.size ≤ g := Nat.le_of_eq hg.symm
  have BB1 := B1
  rw [← hg] at H1 A1
  have z1 := B1.size
  clear hg B1
  go_wp2_with fail
  refine (pushR (x := 1) (y := 0) (z := 0) (u := 0) H1 A1 (by omega)).mono ?_; rintro e w2 ⟨rfl, F2, H2, A2⟩
  have B2 : RowKit.Below w.heap.size w w2 := BB1.trans (F2.below hlb k0 z1)
  have z2 := B2.size
  clear H1 A1 F2 BB1
  go_wp2_with fail
  refine (pushR (x := 2) (y := 0) (z := 0) (u := 0) H2 A2 (by omega)).mono ?_; rintro e w3 ⟨rfl, F3, H3, A3⟩
  have B3 : RowKit.Below w.heap.size w w3 := B2.trans (F3.below hlb k0 z2)
  have z3 := B3.size
  clear H2 A2 F3 B2
  go_wp2_with fail
  refine (pushFull H3 (by omega)).mono ?_; rintro e w4 ⟨rfl, b4⟩
  have B4 : RowKit.Below w.heap.size w w4 := B3.trans (b4.mono z3)
  have z4 := B4.size
  have H4 := H3.keep b4
  have A4 := A3.keep H3.lg b4
  clear H3 A3 b4 B3
  go_wp2_with fail
  have P : Calls Try.prog 18 #[.pointer (some ⟨b, 0, none⟩)] w4 fun e w' => e = .returned (.tuple #[.agg #[.int .i64 1, .int .i64 0, .int .i64 0, .int .u32 0], .bool true]) ∧ Frame2 b g w4 w' ∧ RingH w' b g 2 1 1 ∧ RingA w' g 2 _ := popR H4 A4 (by omega)
  refine P.mono ?_; clear P; rintro e w5 ⟨rfl, F5, H5, A5⟩
  have B5 : RowKit.Below w.heap.size w w5 := B4.trans (F5.below hlb k0 z4)
  have z5 := B5.size
  have y5 := H5.lb
  have y6 := H5.lg
  clear H4 A4 F5 B4
  go_wp2_with fail
  have P := fun (w' : World) (k : RowKit.Below w5.heap.size w5 w') => (show Calls Try.prog 22 #[.pointer (some ⟨b, 0, none⟩)] w' (Gives (.tuple #[.agg #[.int .i64 2, .int .i64 0, .int .i64 0, .int .u32 0], .bool true]) w') from headR (H5.keep k) (A5.keep H5.lg k) (by omega))
  refine (P _ (by repeat (first | with_reducible exact Below.refl _ _ | (with_reducible refine Below.alloc ?_ ?_ _; rotate_left; focus ((try simp) <;> omega)) | (with_reducible refine Below.setCell ?_ ?_ _; rotate_left; focus ((try simp) <;> omega)) | (with_reducible refine below_grow ?_ ?_; rotate_left; focus ((try simp) <;> omega)) | (with_reducible refine below_putB ?_ ?_; rotate_left; focus ((try simp) <;> omega)) | with_reducible refine Below.drew ?_ | with_reducible refine below_drewN ?_ | with_reducible assumption | (with_reducible refine below_step (by assumption) ?_ ?_; rotate_left; focus ((try simp) <;> omega))))).mono ?_; clear P; rintro e w6 ⟨rfl, b6⟩; have ha6 : After _ w6 := ⟨b6⟩; obtain ⟨hc6, hf6⟩ := after b6; have hz6 := b6.size; try simp at hz6
  have L := H5.keep (w' := w6) (by repeat (first | with_reducible exact Below.refl _ _ | (with_reducible refine Below.alloc ?_ ?_ _; rotate_left; focus ((try simp) <;> omega)) | (with_reducible refine Below.setCell ?_ ?_ _; rotate_left; focus ((try simp) <;> omega)) | (with_reducible refine below_grow ?_ ?_; rotate_left; focus ((try simp) <;> omega)) | (with_reducible refine below_putB ?_ ?_; rotate_left; focus ((try simp) <;> omega)) | with_reducible refine Below.drew ?_ | with_reducible refine below_drewN ?_ | with_reducible assumption | (with_reducible refine below_step (by assumption) ?_ ?_; rotate_left; focus ((try simp) <;> omega))))
  have B6 : RowKit.Below w.heap.size w w6 := (by repeat (first | with_reducible exact Below.refl _ _ | (with_reducible refine Below.alloc ?_ ?_ _; rotate_left; focus ((try simp) <;> omega)) | (with_reducible refine Below.setCell ?_ ?_ _; rotate_left; focus ((try simp) <;> omega)) | (with_reducible refine below_grow ?_ ?_; rotate_left; focus ((try simp) <;> omega)) | (with_reducible refine below_putB ?_ ?_; rotate_left; focus ((try simp) <;> omega)) | with_reducible refine Below.drew ?_ | with_reducible refine below_drewN ?_ | with_reducible assumption | (with_reducible refine below_step (by assumption) ?_ ?_; rotate_left; focus ((try simp) <;> omega))))
  go_wp2_with (first | (go_at_call 23; refine (lenR (L.keep (by repeat (first | with_reducible exact Below.refl _ _ | (with_reducible refine Below.alloc ?_ ?_ _; rotate_left; focus ((try simp) <;> omega)) | (with_reducible refine Below.setCell ?_ ?_ _; rotate_left; focus ((try simp) <;> omega)) | (with_reducible refine below_grow ?_ ?_; rotate_left; focus ((try simp) <;> omega)) | (with_reducible refine below_putB ?_ ?_; rotate_left; focus ((try simp) <;> omega)) | with_reducible refine Below.drew ?_ | with_reducible refine below_drewN ?_ | with_reducible assumption | (with_reducible refine below_step (by assumption) ?_ ?_; rotate_left; focus ((try simp) <;> omega)))))).mono ?_; rintro e w' ⟨rfl, rfl⟩) | (go_at_call 24; refine (roomR (L.keep (by repeat (first | with_reducible exact Below.refl _ _ | (with_reducible refine Below.alloc ?_ ?_ _; rotate_left; focus ((try simp) <;> omega)) | (with_reducible refine Below.setCell ?_ ?_ _; rotate_left; focus ((try simp) <;> omega)) | (with_reducible refine below_grow ?_ ?_; rotate_left; focus ((try simp) <;> omega)) | (with_reducible refine below_putB ?_ ?_; rotate_left; focus ((try simp) <;> omega)) | with_reducible refine Below.drew ?_ | with_reducible refine below_drewN ?_ | with_reducible assumption | (with_reducible refine below_step (by assumption) ?_ ?_; rotate_left; focus ((try simp) <;> omega)))))).mono ?_; rintro e w1 ⟨rfl, hb1⟩; have ha1 : After _ w1 := ⟨hb1⟩; obtain ⟨hc1, hf1⟩ := after hb1; have hz1 := hb1.size; try simp at hz1))
  refine ret_any ⟨_, by simp [results, Try.results15, go_sem, *]; rfl, ?_⟩ rfl
  refine gives_of ?_ (by repeat (first | with_reducible exact Below.refl _ _ | (with_reducible refine Below.alloc ?_ ?_ _; rotate_left; focus ((try simp) <;> omega)) | (with_reducible refine Below.setCell ?_ ?_ _; rotate_left; focus ((try simp) <;> omega)) | (with_reducible refine below_grow ?_ ?_; rotate_left; focus ((try simp) <;> omega)) | (with_reducible refine below_putB ?_ ?_; rotate_left; focus ((try simp) <;> omega)) | with_reducible refine Below.drew ?_ | with_reducible refine below_drewN ?_ | with_reducible assumption | (with_reducible refine below_step (by assumption) ?_ ?_; rotate_left; focus ((try simp) <;> omega))))
  all_goals rfl
set_option maxRecDepth 100000 in
theorem ringNone_ok (v0 : Value) (w : World) (h0 : Arg Try.prog w 32 v0) : Calls Try.prog 6 #[v0] w (Gives (.bool true) w) := by
  obtain ⟨x, y, z, u, rfl, _⟩ := arg_cell h0
  clear h0
  go_enter Try.func6, Try.ntmps6
  go_wp2_with (first | (go_at_call 15; refine (shown13 _).mono ?_; rintro e w1 ⟨rfl, hb1⟩; have ha1 : After _ w1 := ⟨hb1⟩; obtain ⟨hc1, hf1⟩ := after hb1; have hz1 := hb1.size; try simp at hz1) | (go_at_call 18; refine (popNil _).mono ?_; rintro e w1 ⟨rfl, hb1⟩; have ha1 : After _ w1 := ⟨hb1⟩; obtain ⟨hc1, hf1⟩ := after hb1; have hz1 := hb1.size; try simp at hz1) | (go_at_call 22; refine (headNil _).mono ?_; rintro e w1 ⟨rfl, hb1⟩; have ha1 : After _ w1 := ⟨hb1⟩; obtain ⟨hc1, hf1⟩ := after hb1; have hz1 := hb1.size; try simp at hz1) | (go_at_call 20; refine (pushNil _ _ _ _ _ rfl _).mono ?_; rintro e w1 ⟨rfl, hb1⟩; have ha1 : After _ w1 := ⟨hb1⟩; obtain ⟨hc1, hf1⟩ := after hb1; have hz1 := hb1.size; try simp at hz1) | (go_at_call 26; refine (allNil _).mono ?_; rintro e w1 ⟨rfl, hb1⟩; have ha1 : After _ w1 := ⟨hb1⟩; obtain ⟨hc1, hf1⟩ := after hb1; have hz1 := hb1.size; try simp at hz1) | (go_at_call 23; refine (lenNil _).mono ?_; rintro e w' ⟨rfl, rfl⟩) | (go_at_call 24; refine (roomNil _).mono ?_; rintro e w' ⟨rfl, rfl⟩))
  refine ret_any ⟨_, by simp [results, Try.results6, go_sem, *]; rfl, ?_⟩ rfl
  refine gives_of rfl (by repeat (first | with_reducible exact Below.refl _ _ | (with_reducible refine Below.alloc ?_ ?_ _; rotate_left; focus ((try simp) <;> omega)) | (with_reducible refine Below.setCell ?_ ?_ _; rotate_left; focus ((try simp) <;> omega)) | (with_reducible refine below_grow ?_ ?_; rotate_left; focus ((try simp) <;> omega)) | (with_reducible refine below_putB ?_ ?_; rotate_left; focus ((try simp) <;> omega)) | with_reducible refine Below.drew ?_ | with_reducible refine below_drewN ?_ | with_reducible assumption | (with_reducible refine below_step (by assumption) ?_ ?_; rotate_left; focus ((try simp) <;> omega))))
end Go.Proofs.Ytjlclpdjblicjaa
