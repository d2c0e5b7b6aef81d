/-
  Push and Pop of a ring, each by its contract. No condition but that the numbers fit their kinds.
-/
import Derived.Test.YtjlclpdjblicjaaRing
namespace Go.Proofs.Ytjlclpdjblicjaa
open Go.RowKit Go.Sort Go.BigFrame
set_option linter.unusedVariables false
attribute [local go_sem ↓] Go.wp_at_zero Go.wp_at_succ
theorem pushFull {b g c f n : Nat} {x y z u : Value} {w : World} (h : RingH w b g c f n) (hn : n = c) : Calls Try.prog 20 #[.pointer (some ⟨b, 0, none⟩), .agg #[x, y, z, u]] w (Gives (.bool false) w) := by
  subst hn
  have H := h
  obtain ⟨h0, h1, h2, h3, h4, h5, h6, h7, h8, h9, h10, h11⟩ := h
  have ob : Old b w := ⟨h6⟩
  have og : Old g w := ⟨h7⟩
  go_enter Try.func20, Try.ntmps20
  go_wp2_with (first | (go_at_call 24; refine (roomR (H.keep (by repeat (first | with_reducible exact Below.refl _ _ | (with_reducible refine Below.alloc ?_ ?_ _; rotate_left; focus ((try simp) <;> omega)) | (with_reducible refine Below.setCell ?_ ?_ _; rotate_left; focus ((try simp) <;> omega)) | (with_reducible refine below_grow ?_ ?_; rotate_left; focus ((try simp) <;> omega)) | (with_reducible refine below_putB ?_ ?_; rotate_left; focus ((try simp) <;> omega)) | with_reducible refine Below.drew ?_ | with_reducible refine below_drewN ?_ | with_reducible assumption | (with_reducible refine below_step (by assumption) ?_ ?_; rotate_left; focus ((try simp) <;> omega)))))).mono ?_; rintro e w1 ⟨rfl, hb1⟩; have ha1 : After _ w1 := ⟨hb1⟩; obtain ⟨hc1, hf1⟩ := after hb1; have hz1 := hb1.size; try simp at hz1))
  refine ret_any ⟨_, by simp [results, Try.results20, go_sem, *]; rfl, ?_⟩ rfl
  refine gives_of rfl (by repeat (first | with_reducible exact Below.refl _ _ | (with_reducible refine Below.alloc ?_ ?_ _; rotate_left; focus ((try simp) <;> omega)) | (with_reducible refine Below.setCell ?_ ?_ _; rotate_left; focus ((try simp) <;> omega)) | (with_reducible refine below_grow ?_ ?_; rotate_left; focus ((try simp) <;> omega)) | (with_reducible refine below_putB ?_ ?_; rotate_left; focus ((try simp) <;> omega)) | with_reducible refine Below.drew ?_ | with_reducible refine below_drewN ?_ | with_reducible assumption | (with_reducible refine below_step (by assumption) ?_ ?_; rotate_left; focus ((try simp) <;> omega))))
theorem pushR {b g c f n : Nat} {x y z u : Int} {A : Nat → Int × Int × Int × Int} {w : World} (h : RingH w b g c f n) (ha : RingA w g c A) (hn : n < c) :
    Calls Try.prog 20 #[.pointer (some ⟨b, 0, none⟩), .agg #[.int .i64 x, .int .i64 y, .int .i64 z, .int .u32 u]] w fun e w' => e = .returned (.bool true) ∧ Frame2 b g w w' ∧ RingH w' b g c f (n + 1) ∧ RingA w' g c (fun i => if i = (f + n) % c then (x, y, z, u) else A i) := by
  have H := h
  obtain ⟨h0, h1, h2, h3, h4, h5, h6, h7, h8, h9, h10, h11⟩ := h
  have hk : (f + n) % c < c := Nat.mod_lt _ h8
  obtain ⟨k, hkk⟩ : ∃ k, k = (f + n) % c := ⟨_, rfl⟩
  rw [← hkk] at hk ⊢
  have HK := Lib.hid hkk
  clear hkk
  have hne : ((c : Int) - (n : Int) == 0) = false := by simp; omega
  have p0 := ha.c0 k hk
  have p1 := ha.c1 k hk
  have p2 := ha.c2 k hk
  have p3 := ha.c3 k hk
  have q0 := ha.f0 (k * 4) (by omega)
  have q1 := ha.f0 (k * 4 + 1) (by omega)
  have q2 := ha.f0 (k * 4 + 2) (by omega)
  have q3 := ha.f0 (k * 4 + 3) (by omega)
  have ob : Old b w := ⟨h6⟩
  have og : Old g w := ⟨h7⟩
  have HA := Lib.hid ha
  clear ha
  go_enter Try.func20, Try.ntmps20
  go_wp2_with (first | (go_at_call 24; refine (roomR (H.keep (by repeat (first | with_reducible exact Below.refl _ _ | (with_reducible refine Below.alloc ?_ ?_ _; rotate_left; focus ((try simp) <;> omega)) | (with_reducible refine Below.setCell ?_ ?_ _; rotate_left; focus ((try simp) <;> omega)) | (with_reducible refine below_grow ?_ ?_; rotate_left; focus ((try simp) <;> omega)) | (with_reducible refine below_putB ?_ ?_; rotate_left; focus ((try simp) <;> omega)) | with_reducible refine Below.drew ?_ | with_reducible refine below_drewN ?_ | with_reducible assumption | (with_reducible refine below_step (by assumption) ?_ ?_; rotate_left; focus ((try simp) <;> omega)))))).mono ?_; rintro e w1 ⟨rfl, hb1⟩; have ha1 : After _ w1 := ⟨hb1⟩; obtain ⟨hc1, hf1⟩ := after hb1; have hz1 := hb1.size; try simp at hz1))
  refine wp_region_below_tail 11 (by kernel_rfl) (by kernel_rfl) ?_
  simp only [List.take_succ_cons, List.take_zero, List.drop_succ_cons, List.drop_zero]
  repeat (first | go_big_quiet_step ((go_at_call 47; exact Calls.regrown_gives (atR' _ (H.keep (by repeat (first | with_reducible exact Below.refl _ _ | (with_reducible refine Below.alloc ?_ ?_ _; rotate_left; focus ((try simp) <;> omega)) | (with_reducible refine Below.setCell ?_ ?_ _; rotate_left; focus ((try simp) <;> omega)) | (with_reducible refine below_grow ?_ ?_; rotate_left; focus ((try simp) <;> omega)) | (with_reducible refine below_putB ?_ ?_; rotate_left; focus ((try simp) <;> omega)) | with_reducible refine Below.drew ?_ | with_reducible refine below_drewN ?_ | with_reducible assumption | (with_reducible refine below_step (by assumption) ?_ ?_; rotate_left; focus ((try simp) <;> omega))))) h11 HK.out))) | quiet_step ((go_at_call 47; exact Calls.regrown_gives (atR' _ (H.keep (by repeat (first | with_reducible exact Below.refl _ _ | (with_reducible refine Below.alloc ?_ ?_ _; rotate_left; focus ((try simp) <;> omega)) | (with_reducible refine Below.setCell ?_ ?_ _; rotate_left; focus ((try simp) <;> omega)) | (with_reducible refine below_grow ?_ ?_; rotate_left; focus ((try simp) <;> omega)) | (with_reducible refine below_putB ?_ ?_; rotate_left; focus ((try simp) <;> omega)) | with_reducible refine Below.drew ?_ | with_reducible refine below_drewN ?_ | with_reducible assumption | (with_reducible refine below_step (by assumption) ?_ ?_; rotate_left; focus ((try simp) <;> omega))))) h11 HK.out))))
  refine wpQuiet_nil ?_
  intro _ hw'
  obtain ⟨⟨dq, osq⟩, hw''⟩ := hw'
  subst hw''
  go_wp2
  refine ret_any ⟨_, by simp [results, Try.results20, go_sem, *]; rfl, ?_⟩ rfl
  refine ⟨rfl, ?_⟩
  have HB : RowKit.Below w.heap.size w (grow (redrawn w1 dq) osq) := (by repeat (first | with_reducible exact Below.refl _ _ | (with_reducible refine Below.alloc ?_ ?_ _; rotate_left; focus ((try simp) <;> omega)) | (with_reducible refine Below.setCell ?_ ?_ _; rotate_left; focus ((try simp) <;> omega)) | (with_reducible refine below_grow ?_ ?_; rotate_left; focus ((try simp) <;> omega)) | (with_reducible refine below_putB ?_ ?_; rotate_left; focus ((try simp) <;> omega)) | with_reducible refine Below.drew ?_ | with_reducible refine below_drewN ?_ | with_reducible assumption | (with_reducible refine below_step (by assumption) ?_ ?_; rotate_left; focus ((try simp) <;> omega))))
  have E := pushEnd HB H HA.out hk hn x y z u
  simp only [World.setCells, Nat.add_assoc, Nat.reduceAdd] at E
  exact E
/-- Pop of a ring that holds cells. -/
theorem popR {b g c f n : Nat} {A : Nat → Int × Int × Int × Int} {w : World} (h : RingH w b g c f n) (ha : RingA w g c A) (hn : 0 < n) :
    Calls Try.prog 18 #[.pointer (some ⟨b, 0, none⟩)] w fun e w' => e = .returned (.tuple #[cellV (A f), .bool true]) ∧ Frame2 b g w w' ∧ RingH w' b g c ((f + 1) % c) (n - 1) ∧ RingA w' g c A := by
  have H := h
  have HA := Lib.hid ha
  obtain ⟨h0, h1, h2, h3, h4, h5, h6, h7, h8, h9, h10, h11⟩ := h
  have hm : (f + 1) % c < c := Nat.mod_lt _ h8
  obtain ⟨m, hmm⟩ : ∃ m, m = (f + 1) % c := ⟨_, rfl⟩
  rw [← hmm] at hm ⊢
  have HM := Lib.hid hmm
  have ob : Old b w := ⟨h6⟩
  have og : Old g w := ⟨h7⟩
  have hd := fun (w' : World) (k : Below w.heap.size w w') => headR (H.keep k) (ha.keep h7 k) hn
  clear ha hmm
  unfold cellV at hd ⊢
  go_enter Try.func18, Try.ntmps18
  go_wp2_with (first | (go_at_call 22; refine (hd _ (by repeat (first | with_reducible exact Below.refl _ _ | (with_reducible refine Below.alloc ?_ ?_ _; rotate_left; focus ((try simp) <;> omega)) | (with_reducible refine Below.setCell ?_ ?_ _; rotate_left; focus ((try simp) <;> omega)) | (with_reducible refine below_grow ?_ ?_; rotate_left; focus ((try simp) <;> omega)) | (with_reducible refine below_putB ?_ ?_; rotate_left; focus ((try simp) <;> omega)) | with_reducible refine Below.drew ?_ | with_reducible refine below_drewN ?_ | with_reducible assumption | (with_reducible refine below_step (by assumption) ?_ ?_; rotate_left; focus ((try simp) <;> omega))))).mono ?_; rintro e w1 ⟨rfl, hb1⟩; have ha1 : After _ w1 := ⟨hb1⟩; obtain ⟨hc1, hf1⟩ := after hb1; have hz1 := hb1.size; try simp at hz1))
  go_region_with ((first | (go_at_call 47; refine (atR' 1 (H.keep (by repeat (first | with_reducible exact Below.refl _ _ | (with_reducible refine Below.alloc ?_ ?_ _; rotate_left; focus ((try simp) <;> omega)) | (with_reducible refine Below.setCell ?_ ?_ _; rotate_left; focus ((try simp) <;> omega)) | (with_reducible refine below_grow ?_ ?_; rotate_left; focus ((try simp) <;> omega)) | (with_reducible refine below_putB ?_ ?_; rotate_left; focus ((try simp) <;> omega)) | with_reducible refine Below.drew ?_ | with_reducible refine below_drewN ?_ | with_reducible assumption | (with_reducible refine below_step (by assumption) ?_ ?_; rotate_left; focus ((try simp) <;> omega))))) (by omega) HM.out).mono ?_; rintro e w2 ⟨rfl, hb2⟩; have ha2 : After _ w2 := ⟨hb2⟩; obtain ⟨hc2, hf2⟩ := after hb2; have hz2 := hb2.size; try simp at hz2)))
  all_goals go_wp2
  all_goals refine ret_any ⟨_, by simp [results, Try.results18, go_sem, *]; rfl, ?_⟩ rfl
  all_goals refine ⟨rfl, ?_⟩
  all_goals have HB : RowKit.Below w.heap.size w w2 := (by repeat (first | with_reducible exact Below.refl _ _ | (with_reducible refine Below.alloc ?_ ?_ _; rotate_left; focus ((try simp) <;> omega)) | (with_reducible refine Below.setCell ?_ ?_ _; rotate_left; focus ((try simp) <;> omega)) | (with_reducible refine below_grow ?_ ?_; rotate_left; focus ((try simp) <;> omega)) | (with_reducible refine below_putB ?_ ?_; rotate_left; focus ((try simp) <;> omega)) | with_reducible refine Below.drew ?_ | with_reducible refine below_drewN ?_ | with_reducible assumption | (with_reducible refine below_step (by assumption) ?_ ?_; rotate_left; focus ((try simp) <;> omega))))
  all_goals have E := popEnd2 HB H HA.out hm hn rfl [.int .i64 (A f).1, .int .i64 (A f).2.1, .int .i64 (A f).2.2.1, .int .u32 (A f).2.2.2]
  all_goals simp only [World.setCells, Nat.zero_add, Nat.reduceAdd] at E
  all_goals exact E
theorem headEmpty {b g c f : Nat} {w : World} (h : RingH w b g c f 0) : Calls Try.prog 22 #[.pointer (some ⟨b, 0, none⟩)] w (Gives (.tuple #[.agg #[.int .i64 0, .int .i64 0, .int .i64 0, .int .u32 0], .bool false]) w) := by
  have H := h
  obtain ⟨h0, h1, h2, h3, h4, h5, h6, h7, h8, h9, h10, h11⟩ := h
  have ob : Old b w := ⟨h6⟩
  have og : Old g w := ⟨h7⟩
  go_enter Try.func22, Try.ntmps22
  go_wp2_with (go_at_call 23; refine (lenR (H.keep (by repeat (first | with_reducible exact Below.refl _ _ | (with_reducible refine Below.alloc ?_ ?_ _; rotate_left; focus ((try simp) <;> omega)) | (with_reducible refine Below.setCell ?_ ?_ _; rotate_left; focus ((try simp) <;> omega)) | (with_reducible refine below_grow ?_ ?_; rotate_left; focus ((try simp) <;> omega)) | (with_reducible refine below_putB ?_ ?_; rotate_left; focus ((try simp) <;> omega)) | with_reducible refine Below.drew ?_ | with_reducible refine below_drewN ?_ | with_reducible assumption | (with_reducible refine below_step (by assumption) ?_ ?_; rotate_left; focus ((try simp) <;> omega)))))).mono ?_; rintro e w' ⟨rfl, rfl⟩)
  refine ret_any ⟨_, by simp [results, Try.results22, go_sem, *]; rfl, ?_⟩ rfl
  refine gives_of rfl (by repeat (first | with_reducible exact Below.refl _ _ | (with_reducible refine Below.alloc ?_ ?_ _; rotate_left; focus ((try simp) <;> omega)) | (with_reducible refine Below.setCell ?_ ?_ _; rotate_left; focus ((try simp) <;> omega)) | (with_reducible refine below_grow ?_ ?_; rotate_left; focus ((try simp) <;> omega)) | (with_reducible refine below_putB ?_ ?_; rotate_left; focus ((try simp) <;> omega)) | with_reducible refine Below.drew ?_ | with_reducible refine below_drewN ?_ | with_reducible assumption | (with_reducible refine below_step (by assumption) ?_ ?_; rotate_left; focus ((try simp) <;> omega))))
theorem popEmpty {b g c f n : Nat} {w : World} (h : RingH w b g c f n) (hn : n = 0) : Calls Try.prog 18 #[.pointer (some ⟨b, 0, none⟩)] w (Gives (.tuple #[.agg #[.int .i64 0, .int .i64 0, .int .i64 0, .int .u32 0], .bool false]) w) := by
  subst hn
  have H := h
  obtain ⟨h0, h1, h2, h3, h4, h5, h6, h7, h8, h9, h10, h11⟩ := h
  have ob : Old b w := ⟨h6⟩
  have og : Old g w := ⟨h7⟩
  have hd := fun (w' : World) (k : Below w.heap.size w w') => headEmpty (H.keep k)
  go_enter Try.func18, Try.ntmps18
  go_wp2_with (first | (go_at_call 22; refine (hd _ (by repeat (first | with_reducible exact Below.refl _ _ | (with_reducible refine Below.alloc ?_ ?_ _; rotate_left; focus ((try simp) <;> omega)) | (with_reducible refine Below.setCell ?_ ?_ _; rotate_left; focus ((try simp) <;> omega)) | (with_reducible refine below_grow ?_ ?_; rotate_left; focus ((try simp) <;> omega)) | (with_reducible refine below_putB ?_ ?_; rotate_left; focus ((try simp) <;> omega)) | with_reducible refine Below.drew ?_ | with_reducible refine below_drewN ?_ | with_reducible assumption | (with_reducible refine below_step (by assumption) ?_ ?_; rotate_left; focus ((try simp) <;> omega))))).mono ?_; rintro e w1 ⟨rfl, hb1⟩; have ha1 : After _ w1 := ⟨hb1⟩; obtain ⟨hc1, hf1⟩ := after hb1; have hz1 := hb1.size; try simp at hz1))
  refine ret_any ⟨_, by simp [results, Try.results18, go_sem, *]; rfl, ?_⟩ rfl
  refine gives_of rfl (by repeat (first | with_reducible exact Below.refl _ _ | (with_reducible refine Below.alloc ?_ ?_ _; rotate_left; focus ((try simp) <;> omega)) | (with_reducible refine Below.setCell ?_ ?_ _; rotate_left; focus ((try simp) <;> omega)) | (with_reducible refine below_grow ?_ ?_; rotate_left; focus ((try simp) <;> omega)) | (with_reducible refine below_putB ?_ ?_; rotate_left; focus ((try simp) <;> omega)) | with_reducible refine Below.drew ?_ | with_reducible refine below_drewN ?_ | with_reducible assumption | (with_reducible refine below_step (by assumption) ?_ ?_; rotate_left; focus ((try simp) <;> omega))))
end Go.Proofs.Ytjlclpdjblicjaa
