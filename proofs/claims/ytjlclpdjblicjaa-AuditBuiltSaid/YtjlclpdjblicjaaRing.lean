/-
  The functions of ring, each by its contract. No condition but that the numbers fit their kinds.
-/
import Derived.Test.YtjlclpdjblicjaaProg
import Derived.Test.YtjlclpdjblicjaaBase
import Derived.Test.YtjlclpdjblicjaaFit
import Derived.Test.YtjlclpdjblicjaaMore
import Derived.Deep.RegionHeld3
import Derived.Deep.DeepCutAuto
import Derived.Deep.DrawnRows
import Derived.Laws.IdiomCopy
namespace Go.Proofs.Ytjlclpdjblicjaa
open Go.RowKit Go.Sort Go.BigFrame
set_option linter.unusedVariables false
theorem lenNil (w : World) : Calls Try.prog 23 #[.pointer none] w fun e w' => e = .returned (.int .i64 0) ∧ w = w' := by
  go_enter Try.func23, Try.ntmps23
  go_wp2
  refine ret_any ⟨_, by simp [results, Try.results23, go_sem]; rfl, ?_⟩ rfl
  exact ⟨rfl, rfl⟩
theorem roomNil (w : World) : Calls Try.prog 24 #[.pointer none] w fun e w' => e = .returned (.int .i64 0) ∧ w = w' := by
  go_enter Try.func24, Try.ntmps24
  go_wp2
  refine ret_any ⟨_, by simp [results, Try.results24, go_sem]; rfl, ?_⟩ rfl
  exact ⟨rfl, rfl⟩
theorem headNil (w : World) : Calls Try.prog 22 #[.pointer none] w (Gives (.tuple #[.agg #[.int .i64 0, .int .i64 0, .int .i64 0, .int .u32 0], .bool false]) w) := by
  go_enter Try.func22, Try.ntmps22
  go_wp2_with (go_at_call 23; refine (lenNil _).mono ?_; rintro e w' ⟨rfl, rfl⟩)
  refine ret_any ⟨_, by simp [results, Try.results22, go_sem]; rfl, ?_⟩ rfl
  refine gives_of rfl (by repeat (first | with_reducible exact Below.refl _ _ | (with_reducible refine Below.alloc ?_ ?_ _; rotate_left; focus ((try simp) <;> omega)) | (with_reducible refine Below.setCell ?_ ?_ _; rotate_left; focus ((try simp) <;> omega)) | (with_reducible refine below_grow ?_ ?_; rotate_left; focus ((try simp) <;> omega)) | (with_reducible refine below_putB ?_ ?_; rotate_left; focus ((try simp) <;> omega)) | with_reducible refine Below.drew ?_ | with_reducible refine below_drewN ?_ | with_reducible assumption | (with_reducible refine below_step (by assumption) ?_ ?_; rotate_left; focus ((try simp) <;> omega))))
theorem pushNil (c : Value) (a b d e : Value) (h : c = .agg #[a, b, d, e]) (w : World) : Calls Try.prog 20 #[.pointer none, c] w (Gives (.bool false) w) := by
  subst h
  go_enter Try.func20, Try.ntmps20
  go_wp2_with (go_at_call 24; refine (roomNil _).mono ?_; rintro e w' ⟨rfl, rfl⟩)
  refine ret_any ⟨_, by simp [results, Try.results20, go_sem]; rfl, ?_⟩ rfl
  refine gives_of rfl (by repeat (first | with_reducible exact Below.refl _ _ | (with_reducible refine Below.alloc ?_ ?_ _; rotate_left; focus ((try simp) <;> omega)) | (with_reducible refine Below.setCell ?_ ?_ _; rotate_left; focus ((try simp) <;> omega)) | (with_reducible refine below_grow ?_ ?_; rotate_left; focus ((try simp) <;> omega)) | (with_reducible refine below_putB ?_ ?_; rotate_left; focus ((try simp) <;> omega)) | with_reducible refine Below.drew ?_ | with_reducible refine below_drewN ?_ | with_reducible assumption | (with_reducible refine below_step (by assumption) ?_ ?_; rotate_left; focus ((try simp) <;> omega))))
theorem popNil (w : World) : Calls Try.prog 18 #[.pointer none] w (Gives (.tuple #[.agg #[.int .i64 0, .int .i64 0, .int .i64 0, .int .u32 0], .bool false]) w) := by
  go_enter Try.func18, Try.ntmps18
  go_wp2_with (first | (go_at_call 22; refine (headNil _).mono ?_; rintro e w1 ⟨rfl, hb1⟩; have ha1 : After _ w1 := ⟨hb1⟩; obtain ⟨hc1, hf1⟩ := after hb1; have hz1 := hb1.size; try simp at hz1))
  refine ret_any ⟨_, by simp [results, Try.results18, go_sem, *]; rfl, ?_⟩ rfl
  refine gives_of rfl (by repeat (first | with_reducible exact Below.refl _ _ | (with_reducible refine Below.alloc ?_ ?_ _; rotate_left; focus ((try simp) <;> omega)) | (with_reducible refine Below.setCell ?_ ?_ _; rotate_left; focus ((try simp) <;> omega)) | (with_reducible refine below_grow ?_ ?_; rotate_left; focus ((try simp) <;> omega)) | (with_reducible refine below_putB ?_ ?_; rotate_left; focus ((try simp) <;> omega)) | with_reducible refine Below.drew ?_ | with_reducible refine below_drewN ?_ | with_reducible assumption | (with_reducible refine below_step (by assumption) ?_ ?_; rotate_left; focus ((try simp) <;> omega))))
theorem allNil (w : World) : Calls Try.prog 26 #[.pointer none] w (Gives (.slice none 0 0) w) := by
  go_enter Try.func26, Try.ntmps26
  go_wp2_with (go_at_call 23; refine (lenNil _).mono ?_; rintro e w' ⟨rfl, rfl⟩)
  refine wp_loop_rounds 1 ?_
  rw [rounds_succ]
  go_wp2
  refine ret_any ⟨_, by simp [results, Try.results26, go_sem]; rfl, ?_⟩ rfl
  refine gives_of rfl (by repeat (first | with_reducible exact Below.refl _ _ | (with_reducible refine Below.alloc ?_ ?_ _; rotate_left; focus ((try simp) <;> omega)) | (with_reducible refine Below.setCell ?_ ?_ _; rotate_left; focus ((try simp) <;> omega)) | (with_reducible refine below_grow ?_ ?_; rotate_left; focus ((try simp) <;> omega)) | (with_reducible refine below_putB ?_ ?_; rotate_left; focus ((try simp) <;> omega)) | with_reducible refine Below.drew ?_ | with_reducible refine below_drewN ?_ | with_reducible assumption | (with_reducible refine below_step (by assumption) ?_ ?_; rotate_left; focus ((try simp) <;> omega))))
/-- The header of a ring: its row, where it begins, how many there are. -/
structure RingH (w : World) (b g c f n : Nat) : Prop where
  row : w.cell? ⟨b, 0, none⟩ = some (.slice (some ⟨g, 0, none⟩) c c)
  fr : w.cell? ⟨b, 1, none⟩ = some (.int .i64 f)
  num : w.cell? ⟨b, 2, none⟩ = some (.int .i64 n)
  free1 : w.frozen? ⟨b, 1, none⟩ = false
  free2 : w.frozen? ⟨b, 2, none⟩ = false
  ne : b ≠ g
  lb : b < w.heap.size
  lg : g < w.heap.size
  pos : 0 < c
  top : c ≤ 256
  lf : f < c
  ln : n ≤ c
theorem RingH.keep {w w' : World} {b g c f n : Nat} (h : RingH w b g c f n) (k : Below w.heap.size w w') : RingH w' b g c f n := by
  obtain ⟨h0, h1, h2, h3, h4, h5, h6, h7, h8, h9, h10, h11⟩ := h
  exact ⟨by rw [k.cell h6]; exact h0, by rw [k.cell h6]; exact h1, by rw [k.cell h6]; exact h2, by rw [k.frozen h6]; exact h3, by rw [k.frozen h6]; exact h4, h5, Nat.lt_of_lt_of_le h6 k.size, Nat.lt_of_lt_of_le h7 k.size, h8, h9, h10, h11⟩
theorem lenR {b g c f n : Nat} {w : World} (h : RingH w b g c f n) : Calls Try.prog 23 #[.pointer (some ⟨b, 0, none⟩)] w fun e w' => e = .returned (.int .i64 n) ∧ w = w' := by
  obtain ⟨h0, h1, h2, h3, h4, h5, h6, h7, h8, h9, h10, h11⟩ := h
  go_enter Try.func23, Try.ntmps23
  go_wp2
  refine ret_any ⟨_, by simp [results, Try.results23, go_sem]; rfl, ?_⟩ rfl
  exact ⟨rfl, rfl⟩
theorem roomR {b g c f n : Nat} {w : World} (h : RingH w b g c f n) : Calls Try.prog 24 #[.pointer (some ⟨b, 0, none⟩)] w (Gives (.int .i64 (c - n)) w) := by
  obtain ⟨h0, h1, h2, h3, h4, h5, h6, h7, h8, h9, h10, h11⟩ := h
  go_enter Try.func24, Try.ntmps24
  go_wp2
  go_region
  all_goals go_wp2
  all_goals refine ret_any ⟨_, by simp [results, Try.results24, go_sem]; rfl, ?_⟩ rfl
  all_goals refine gives_of rfl (by repeat (first | with_reducible exact Below.refl _ _ | (with_reducible refine Below.alloc ?_ ?_ _; rotate_left; focus ((try simp) <;> omega)) | (with_reducible refine Below.setCell ?_ ?_ _; rotate_left; focus ((try simp) <;> omega)) | (with_reducible refine below_grow ?_ ?_; rotate_left; focus ((try simp) <;> omega)) | (with_reducible refine below_putB ?_ ?_; rotate_left; focus ((try simp) <;> omega)) | with_reducible refine Below.drew ?_ | with_reducible refine below_drewN ?_ | with_reducible assumption | (with_reducible refine below_step (by assumption) ?_ ?_; rotate_left; focus ((try simp) <;> omega))))
theorem atR {b g c f n : Nat} (i : Nat) {w : World} (h : RingH w b g c f n) (hi : i ≤ c) : Calls Try.prog 47 #[.pointer (some ⟨b, 0, none⟩), .int .i64 i] w (Gives (.int .i64 ((f + i) % c : Nat)) w) := by
  obtain ⟨h0, h1, h2, h3, h4, h5, h6, h7, h8, h9, h10, h11⟩ := h
  go_enter Try.func47, Try.ntmps47
  go_wp2
  go_region
  all_goals go_wp2
  all_goals refine ret_any ⟨_, by simp [results, Try.results47, go_sem]; rfl, ?_⟩ rfl
  all_goals refine gives_of ?_ (by repeat (first | with_reducible exact Below.refl _ _ | (with_reducible refine Below.alloc ?_ ?_ _; rotate_left; focus ((try simp) <;> omega)) | (with_reducible refine Below.setCell ?_ ?_ _; rotate_left; focus ((try simp) <;> omega)) | (with_reducible refine below_grow ?_ ?_; rotate_left; focus ((try simp) <;> omega)) | (with_reducible refine below_putB ?_ ?_; rotate_left; focus ((try simp) <;> omega)) | with_reducible refine Below.drew ?_ | with_reducible refine below_drewN ?_ | with_reducible assumption | (with_reducible refine below_step (by assumption) ?_ ?_; rotate_left; focus ((try simp) <;> omega))))
  all_goals simp
/-- What stands in the row's places. -/
structure RingA (w : World) (g c : Nat) (A : Nat → Int × Int × Int × Int) : Prop where
  c0 : ∀ i, i < c → w.cell? ⟨g, i * 4, none⟩ = some (.int .i64 (A i).1)
  c1 : ∀ i, i < c → w.cell? ⟨g, i * 4 + 1, none⟩ = some (.int .i64 (A i).2.1)
  c2 : ∀ i, i < c → w.cell? ⟨g, i * 4 + 2, none⟩ = some (.int .i64 (A i).2.2.1)
  c3 : ∀ i, i < c → w.cell? ⟨g, i * 4 + 3, none⟩ = some (.int .u32 (A i).2.2.2)
  f0 : ∀ i, i < 4 * c → w.frozen? ⟨g, i, none⟩ = false
/-- A cell as a value. -/
def cellV (x : Int × Int × Int × Int) : Value := .agg #[.int .i64 x.1, .int .i64 x.2.1, .int .i64 x.2.2.1, .int .u32 x.2.2.2]
theorem atR' {b g c f n k : Nat} (i : Nat) {w : World} (h : RingH w b g c f n) (hi : i ≤ c) (hk : k = (f + i) % c) : Calls Try.prog 47 #[.pointer (some ⟨b, 0, none⟩), .int .i64 i] w (Gives (.int .i64 k) w) := by
  subst hk; exact atR i h hi
theorem RingA.keep {w w' : World} {g c : Nat} {A : Nat → Int × Int × Int × Int} (h : RingA w g c A) (hg : g < w.heap.size) (k : Below w.heap.size w w') : RingA w' g c A := by
  obtain ⟨h0, h1, h2, h3, h4⟩ := h
  exact ⟨fun i hi => by rw [k.cell hg]; exact h0 i hi, fun i hi => by rw [k.cell hg]; exact h1 i hi, fun i hi => by rw [k.cell hg]; exact h2 i hi, fun i hi => by rw [k.cell hg]; exact h3 i hi, fun i hi => by rw [k.frozen hg]; exact h4 i hi⟩
theorem headR {b g c f n : Nat} {A : Nat → Int × Int × Int × Int} {w : World} (h : RingH w b g c f n) (ha : RingA w g c A) (hn : 0 < n) : Calls Try.prog 22 #[.pointer (some ⟨b, 0, none⟩)] w (Gives (.tuple #[cellV (A f), .bool true]) w) := by
  have H := h
  obtain ⟨h0, h1, h2, h3, h4, h5, h6, h7, h8, h9, h10, h11⟩ := h
  have k0 := ha.c0 f h10
  have k1 := ha.c1 f h10
  have k2 := ha.c2 f h10
  have k3 := ha.c3 f h10
  clear ha
  revert k0 k1 k2 k3
  unfold cellV
  generalize A f = q
  obtain ⟨x, y, z, u⟩ := q
  intro k0 k1 k2 k3
  dsimp only at k0 k1 k2 k3 ⊢
  have ob : Old b w := ⟨h6⟩
  have og : Old g w := ⟨h7⟩
  go_enter Try.func22, Try.ntmps22
  go_wp2_with (go_at_call 23; refine (lenR (H.keep (by repeat (first | with_reducible exact Below.refl _ _ | (with_reducible refine Below.alloc ?_ ?_ _; rotate_left; focus ((try simp) <;> omega)) | (with_reducible refine Below.setCell ?_ ?_ _; rotate_left; focus ((try simp) <;> omega)) | (with_reducible refine below_grow ?_ ?_; rotate_left; focus ((try simp) <;> omega)) | (with_reducible refine below_putB ?_ ?_; rotate_left; focus ((try simp) <;> omega)) | with_reducible refine Below.drew ?_ | with_reducible refine below_drewN ?_ | with_reducible assumption | (with_reducible refine below_step (by assumption) ?_ ?_; rotate_left; focus ((try simp) <;> omega)))))).mono ?_; rintro e w' ⟨rfl, rfl⟩)
  go_region
  all_goals go_wp2
  all_goals refine ret_any ⟨_, by simp [results, Try.results22, go_sem, *]; rfl, ?_⟩ rfl
  all_goals refine gives_of ?_ (by repeat (first | with_reducible exact Below.refl _ _ | (with_reducible refine Below.alloc ?_ ?_ _; rotate_left; focus ((try simp) <;> omega)) | (with_reducible refine Below.setCell ?_ ?_ _; rotate_left; focus ((try simp) <;> omega)) | (with_reducible refine below_grow ?_ ?_; rotate_left; focus ((try simp) <;> omega)) | (with_reducible refine below_putB ?_ ?_; rotate_left; focus ((try simp) <;> omega)) | with_reducible refine Below.drew ?_ | with_reducible refine below_drewN ?_ | with_reducible assumption | (with_reducible refine below_step (by assumption) ?_ ?_; rotate_left; focus ((try simp) <;> omega))))
  all_goals rfl
/-- Behind a call: what stood in blocks other than these two stands. -/
structure Frame2 (b g : Nat) (w w' : World) : Prop where
  os : w'.os = w.os
  tape : w'.tape = w.tape
  output : w'.output = w.output
  size : w.heap.size ≤ w'.heap.size
  block : ∀ k, k < w.heap.size → k ≠ b → k ≠ g → w'.heap[k]? = w.heap[k]?
theorem Frame2.of_below {b g : Nat} {w w' : World} (h : Below w.heap.size w w') : Frame2 b g w w' := ⟨h.os, h.tape, h.output, h.size, fun k hk _ _ => h.block k hk⟩
theorem Frame2.set {b g : Nat} {w w' : World} (h : Frame2 b g w w') (a : Addr) (v : Value) (ha : a.block = b ∨ a.block = g) : Frame2 b g w (w'.setCell a v) :=
  ⟨h.os, h.tape, h.output, by simpa [World.setCell] using h.size, fun k hk kb kg => by rw [Below.heap_setCell _ _ _ _ (by rcases ha with e | e <;> rw [e] <;> assumption)]; exact h.block k hk kb kg⟩
theorem Frame2.setB {b g : Nat} {w w' : World} (h : Frame2 b g w w') (o : Nat) (v : Value) : Frame2 b g w (w'.setCell ⟨b, o, none⟩ v) := h.set ⟨b, o, none⟩ v (Or.inl rfl)
theorem Frame2.setG {b g : Nat} {w w' : World} : ∀ (vs : List Value) (o : Nat) {w' : World}, Frame2 b g w w' → Frame2 b g w (w'.setCells g o vs)
  | [], _, _, h => h
  | v :: r, o, _, h => Frame2.setG (w' := w') r (o + 1) (h.set ⟨g, o, none⟩ v (Or.inr rfl))
/-- What stands in the row behind a cell's being put in. -/
theorem RingA.put {w : World} {g c k : Nat} {A : Nat → Int × Int × Int × Int} (h : RingA w g c A) (hk : k < c) (x y z u : Int) :
    RingA (w.setCells g (k * 4) [.int .i64 x, .int .i64 y, .int .i64 z, .int .u32 u]) g c (fun i => if i = k then (x, y, z, u) else A i) := by
  obtain ⟨h0, h1, h2, h3, h4⟩ := h
  have hs : ∀ j, j < [Value.int .i64 x, .int .i64 y, .int .i64 z, .int .u32 u].length → (w.cell? ⟨g, k * 4 + j, none⟩).isSome = true := by
    intro j hj
    match j, hj with
    | 0, _ => rw [Nat.add_zero, h0 k hk]; rfl
    | 1, _ => rw [h1 k hk]; rfl
    | 2, _ => rw [h2 k hk]; rfl
    | 3, _ => rw [h3 k hk]; rfl
  have hin := World.cell?_setCells_in g _ (k * 4) w hs
  have hout : ∀ i j, i ≠ k → j < 4 → (w.setCells g (k * 4) [.int .i64 x, .int .i64 y, .int .i64 z, .int .u32 u]).cell? ⟨g, i * 4 + j, none⟩ = w.cell? ⟨g, i * 4 + j, none⟩ := by
    intro i j hi hj
    refine World.cell?_setCells_out g _ _ _ _ (fun _ _ => ?_)
    simp only [List.length_cons, List.length_nil]
    omega
  refine ⟨fun i hi => ?_, fun i hi => ?_, fun i hi => ?_, fun i hi => ?_, fun i hi => by rw [World.frozen?_setCells]; exact h4 i hi⟩
  · by_cases e : i = k
    · subst e; simpa using hin 0 (by simp)
    · rw [show i * 4 = i * 4 + 0 by omega, hout i 0 e (by omega), if_neg e]; simpa using h0 i hi
  · by_cases e : i = k
    · subst e; simpa using hin 1 (by simp)
    · rw [hout i 1 e (by omega), if_neg e]; exact h1 i hi
  · by_cases e : i = k
    · subst e; simpa using hin 2 (by simp)
    · rw [hout i 2 e (by omega), if_neg e]; exact h2 i hi
  · by_cases e : i = k
    · subst e; simpa using hin 3 (by simp)
    · rw [hout i 3 e (by omega), if_neg e]; exact h3 i hi
theorem RingA.set {w : World} {b g c o : Nat} {A : Nat → Int × Int × Int × Int} (h : RingA w g c A) (v : Value) (hb : b ≠ g) : RingA (w.setCell ⟨b, o, none⟩ v) g c A := by
  obtain ⟨h0, h1, h2, h3, h4⟩ := h
  exact ⟨fun i hi => by rw [cell_set_old (Ne.symm hb)]; exact h0 i hi, fun i hi => by rw [cell_set_old (Ne.symm hb)]; exact h1 i hi, fun i hi => by rw [cell_set_old (Ne.symm hb)]; exact h2 i hi, fun i hi => by rw [cell_set_old (Ne.symm hb)]; exact h3 i hi, fun i hi => by rw [World.frozen?_setCell]; exact h4 i hi⟩
theorem RingH.far {w : World} {b g c f n o : Nat} (h : RingH w b g c f n) (v : Value) : RingH (w.setCell ⟨g, o, none⟩ v) b g c f n := by
  obtain ⟨h0, h1, h2, h3, h4, h5, h6, h7, h8, h9, h10, h11⟩ := h
  exact ⟨by rw [cell_set_old h5]; exact h0, by rw [cell_set_old h5]; exact h1, by rw [cell_set_old h5]; exact h2, by rw [World.frozen?_setCell]; exact h3, by rw [World.frozen?_setCell]; exact h4, h5, by simpa [World.setCell] using h6, by simpa [World.setCell] using h7, h8, h9, h10, h11⟩
theorem RingH.setNum {w : World} {b g c f n : Nat} (h : RingH w b g c f n) (m : Nat) (hm : m ≤ c) : RingH (w.setCell ⟨b, 2, none⟩ (.int .i64 m)) b g c f m := by
  obtain ⟨h0, h1, h2, h3, h4, h5, h6, h7, h8, h9, h10, h11⟩ := h
  exact ⟨by rw [World.cell?_setCell_other _ _ _ _ (by simp)]; exact h0, by rw [World.cell?_setCell_other _ _ _ _ (by simp)]; exact h1, World.cell?_setCell_same _ _ _ h2, by rw [World.frozen?_setCell]; exact h3, by rw [World.frozen?_setCell]; exact h4, h5, by simpa [World.setCell] using h6, by simpa [World.setCell] using h7, h8, h9, h10, hm⟩
theorem RingH.setFrom {w : World} {b g c f n : Nat} (h : RingH w b g c f n) (m : Nat) (hm : m < c) : RingH (w.setCell ⟨b, 1, none⟩ (.int .i64 m)) b g c m n := by
  obtain ⟨h0, h1, h2, h3, h4, h5, h6, h7, h8, h9, h10, h11⟩ := h
  exact ⟨by rw [World.cell?_setCell_other _ _ _ _ (by simp)]; exact h0, World.cell?_setCell_same _ _ _ h1, by rw [World.cell?_setCell_other _ _ _ _ (by simp)]; exact h2, by rw [World.frozen?_setCell]; exact h3, by rw [World.frozen?_setCell]; exact h4, h5, by simpa [World.setCell] using h6, by simpa [World.setCell] using h7, h8, h9, hm, h11⟩
/-- The end of Push. -/
theorem pushEnd {w W : World} {b g c f n k : Nat} {A : Nat → Int × Int × Int × Int} (hb : Below w.heap.size w W) (H : RingH w b g c f n) (ha : RingA w g c A) (hk : k < c) (hn : n < c) (x y z u : Int) :
    let W' := (W.setCells g (k * 4) [.int .i64 x, .int .i64 y, .int .i64 z, .int .u32 u]).setCell ⟨b, 2, none⟩ (.int .i64 ((n : Int) + 1))
    Frame2 b g w W' ∧ RingH W' b g c f (n + 1) ∧ RingA W' g c (fun i => if i = k then (x, y, z, u) else A i) := by
  intro W'
  have H1 : RingH (W.setCells g (k * 4) [.int .i64 x, .int .i64 y, .int .i64 z, .int .u32 u]) b g c f n := ((((H.keep hb).far _).far _).far _).far _
  refine ⟨(Frame2.setG (w' := W) _ _ (Frame2.of_below hb)).setB _ _, ?_, ((ha.keep H.lg hb).put hk x y z u).set _ H.ne⟩
  have := H1.setNum (n + 1) (by omega)
  rwa [show ((n + 1 : Nat) : Int) = (n : Int) + 1 by omega] at this
/-- The end of Pop. -/
theorem popEnd {w W : World} {b g c f n m : Nat} {A : Nat → Int × Int × Int × Int} (hb : Below w.heap.size w W) (H : RingH w b g c f n) (ha : RingA w g c A) (hm : m < c) (hn : 0 < n) :
    let W' := (W.setCell ⟨b, 1, none⟩ (.int .i64 m)).setCell ⟨b, 2, none⟩ (.int .i64 ((n : Int) - 1))
    Frame2 b g w W' ∧ RingH W' b g c m (n - 1) ∧ RingA W' g c A := by
  intro W'
  refine ⟨((Frame2.of_below hb).setB _ _).setB _ _, ?_, ((ha.keep H.lg hb).set _ H.ne).set _ H.ne⟩
  have := ((H.keep hb).setFrom m hm).setNum (n - 1) (by have := H.ln; omega)
  rwa [show ((n - 1 : Nat) : Int) = (n : Int) - 1 by omega] at this
theorem RingH.of_block {w w' : World} {b g c f n : Nat} (h : RingH w b g c f n) (k : w'.heap[b]? = w.heap[b]?) (hz : w.heap.size ≤ w'.heap.size) : RingH w' b g c f n := by
  obtain ⟨h0, h1, h2, h3, h4, h5, h6, h7, h8, h9, h10, h11⟩ := h
  exact ⟨by rw [World.cell?_of_block (w := w) k]; exact h0, by rw [World.cell?_of_block (w := w) k]; exact h1, by rw [World.cell?_of_block (w := w) k]; exact h2, by rw [World.frozen?_of_block (w := w) k]; exact h3, by rw [World.frozen?_of_block (w := w) k]; exact h4, h5, Nat.lt_of_lt_of_le h6 hz, Nat.lt_of_lt_of_le h7 hz, h8, h9, h10, h11⟩
theorem RingA.of_block {w w' : World} {g c : Nat} {A : Nat → Int × Int × Int × Int} (h : RingA w g c A) (k : w'.heap[g]? = w.heap[g]?) : RingA w' g c A := by
  obtain ⟨h0, h1, h2, h3, h4⟩ := h
  exact ⟨fun i hi => by rw [World.cell?_of_block (w := w) k]; exact h0 i hi, fun i hi => by rw [World.cell?_of_block (w := w) k]; exact h1 i hi, fun i hi => by rw [World.cell?_of_block (w := w) k]; exact h2 i hi, fun i hi => by rw [World.cell?_of_block (w := w) k]; exact h3 i hi, fun i hi => by rw [World.frozen?_of_block (w := w) k]; exact h4 i hi⟩
theorem heap_setCells (d k : Nat) (h : k ≠ d) : ∀ (vs : List Value) (o : Nat) (w : World), (w.setCells d o vs).heap[k]? = w.heap[k]?
  | [], _, _ => rfl
  | v :: r, o, w => by rw [World.setCells, heap_setCells d k h r]; exact Below.heap_setCell _ _ _ _ h
theorem size_setCells (d : Nat) : ∀ (vs : List Value) (o : Nat) (w : World), (w.setCells d o vs).heap.size = w.heap.size
  | [], _, _ => rfl
  | v :: r, o, w => by rw [World.setCells, size_setCells d r]; simp [World.setCell]
theorem Frame2.far {b g d : Nat} {w : World} (hd : w.heap.size ≤ d) : ∀ (vs : List Value) (o : Nat) {w' : World}, Frame2 b g w w' → Frame2 b g w (w'.setCells d o vs)
  | [], _, _, h => h
  | v :: r, o, w', h => Frame2.far hd r (o + 1) ⟨h.os, h.tape, h.output, by simpa [World.setCell] using h.size, fun k hk kb kg => by rw [Below.heap_setCell _ _ _ _ (by simp; omega)]; exact h.block k hk kb kg⟩
/-- The end of Pop, its result laid. -/
theorem popEnd2 {w W : World} {b g c f n m d : Nat} {A : Nat → Int × Int × Int × Int} (hb : Below w.heap.size w W) (H : RingH w b g c f n) (ha : RingA w g c A) (hm : m < c) (hn : 0 < n) (hd : d = w.heap.size) (vs : List Value) :
    let W' := ((W.setCell ⟨b, 1, none⟩ (.int .i64 m)).setCell ⟨b, 2, none⟩ (.int .i64 ((n : Int) - 1))).setCells d 0 vs
    Frame2 b g w W' ∧ RingH W' b g c m (n - 1) ∧ RingA W' g c A := by
  intro W'
  have hl := H.lb
  have hg := H.lg
  obtain ⟨p, q, r⟩ := popEnd hb H ha hm hn
  exact ⟨Frame2.far (by omega) vs 0 p, q.of_block (heap_setCells d b (by omega) vs 0 _) (by rw [size_setCells]; exact Nat.le_refl _), r.of_block (heap_setCells d g (by omega) vs 0 _)⟩
end Go.Proofs.Ytjlclpdjblicjaa
