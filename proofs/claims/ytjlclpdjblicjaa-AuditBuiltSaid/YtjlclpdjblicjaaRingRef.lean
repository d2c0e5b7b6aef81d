/-
  The reference's ring, by contract, and SameCells of two slices that hold the same. No condition but that the numbers fit their kinds.
-/
import Derived.Test.YtjlclpdjblicjaaRingFirstI
import Derived.Test.YtjlclpdjblicjaaLine
namespace Go.Proofs.Ytjlclpdjblicjaa
open Go.RowKit Go.Sort Go.BigFrame
set_option linter.unusedVariables false
attribute [local go_sem ↓] Go.wp_at_zero Go.wp_at_succ
/-- Behind a call: what stood in other blocks than these stands. -/
structure FrameS (S : Nat → Prop) (w w' : World) : Prop where
  os : w'.os = w.os
  tape : w'.tape = w.tape
  output : w'.output = w.output
  size : w.heap.size ≤ w'.heap.size
  block : ∀ k, k < w.heap.size → ¬ S k → w'.heap[k]? = w.heap[k]?
theorem FrameS.of_below {S : Nat → Prop} {w w' : World} (h : Below w.heap.size w w') : FrameS S w w' := ⟨h.os, h.tape, h.output, h.size, fun k hk _ => h.block k hk⟩
theorem FrameS.below {S : Nat → Prop} {B : Nat} {w w' : World} (h : FrameS S w w') (hs : ∀ k, S k → B ≤ k) (hB : B ≤ w.heap.size) : Below B w w' :=
  ⟨h.os, h.tape, h.output, h.size, fun k hk => h.block k (by omega) (fun e => by have := hs k e; omega)⟩
theorem FrameS.set {S : Nat → Prop} {w w' : World} (h : FrameS S w w') (b o : Nat) (v : Value) (hb : S b) : FrameS S w (w'.setCell ⟨b, o, none⟩ v) :=
  ⟨h.os, h.tape, h.output, by simpa [World.setCell] using h.size, fun k hk hn => by rw [Below.heap_setCell _ _ _ _ (fun e => hn (by have e' : k = b := e; rw [e']; exact hb))]; exact h.block k hk hn⟩
theorem FrameS.grown {S : Nat → Prop} {w w' w'' : World} {row : Option Nat} (h : FrameS S w w') (k : w'.grownBy w'' row) (hr : ∀ q, row = some q → S q) : FrameS S w w'' :=
  ⟨k.os.trans h.os, k.tape.trans h.tape, k.output.trans h.output, Nat.le_trans h.size k.size, fun q hq hn => (k.block q (Nat.lt_of_lt_of_le hq h.size) (fun e => hn (hr q e.symm))).trans (h.block q hq hn)⟩
theorem FrameS.line {S : Nat → Prop} {w w' : World} {base size n : Nat} {v : Value} {xs : List Value} (h : FrameS S w w') (l : Line w base size v n xs) (hs : ∀ q, v.ownBlock = some q → ¬ S q) : Line w' base size v n xs :=
  l.block h.size fun q hq => h.block q (l.lt hq).2 (hs q hq)
/-- The reference's ring: its capacity and its cells. -/
structure RefR (w : World) (rb c : Nat) (v : Value) : Prop where
  c0 : w.cell? ⟨rb, 0, none⟩ = some (.int .i64 c)
  c1 : w.cell? ⟨rb, 1, none⟩ = some v
  f1 : w.frozen? ⟨rb, 1, none⟩ = false
  lt : rb < w.heap.size
theorem RefR.block {w w' : World} {rb c : Nat} {v : Value} (h : RefR w rb c v) (k : w'.heap[rb]? = w.heap[rb]?) (hz : w.heap.size ≤ w'.heap.size) : RefR w' rb c v :=
  ⟨by rw [World.cell?_of_block (w := w) k]; exact h.c0, by rw [World.cell?_of_block (w := w) k]; exact h.c1, by rw [World.frozen?_of_block (w := w) k]; exact h.f1, Nat.lt_of_lt_of_le h.lt hz⟩
theorem RefR.keep {w w' : World} {rb c : Nat} {v : Value} (h : RefR w rb c v) (k : Below w.heap.size w w') : RefR w' rb c v := h.block (k.block rb h.lt) k.size
theorem RefR.set {w : World} {rb c : Nat} {v : Value} (h : RefR w rb c v) (u : Value) : RefR (w.setCell ⟨rb, 1, none⟩ u) rb c u :=
  ⟨by rw [World.cell?_setCell_other _ _ _ _ (by simp)]; exact h.c0, World.cell?_setCell_same _ _ _ h.c1, by rw [World.frozen?_setCell]; exact h.f1, by simpa [World.setCell] using h.lt⟩
theorem newRef (c : Nat) (w : World) (m : Int) (h0 : -9223372036854775808 ≤ m) (h1 : m ≤ 9223372036854775807) (hm : (m ≤ 1 ∧ c = 1) ∨ (256 < m ∧ c = 256) ∨ (1 < m ∧ m ≤ 256 ∧ m = c)) :
    Calls Try.prog 17 #[.int .i64 m] w fun e w' => e = .returned (.pointer (some ⟨w.heap.size, 0, none⟩)) ∧ RefR w' w.heap.size c (.slice none 0 0) ∧ Below w.heap.size w w' ∧ w'.heap.size = w.heap.size + 1 := by
  have hm2 : (m < 1 ∧ c = 1) ∨ (m = 1 ∧ c = 1) ∨ (256 < m ∧ c = 256) ∨ (1 < m ∧ m ≤ 256 ∧ m = c) := by omega
  clear hm
  rcases hm2 with ⟨hm, rfl⟩ | ⟨rfl, rfl⟩ | ⟨hm, rfl⟩ | ⟨hm, hm', rfl⟩
  all_goals
    go_enter Try.func17, Try.ntmps17
    go_wp2
    refine ret_any ⟨_, by simp [results, Try.results17, go_sem]; rfl, ?_⟩ rfl
    refine ⟨rfl, ⟨?_, ?_, ?_, ?_⟩, (by repeat (first | with_reducible exact Below.refl _ _ | (with_reducible refine Below.alloc ?_ ?_ _; rotate_left; focus ((try simp) <;> omega)) | (with_reducible refine Below.setCell ?_ ?_ _; rotate_left; focus ((try simp) <;> omega)) | (with_reducible refine below_grow ?_ ?_; rotate_left; focus ((try simp) <;> omega)) | (with_reducible refine below_putB ?_ ?_; rotate_left; focus ((try simp) <;> omega)) | with_reducible refine Below.drew ?_ | with_reducible refine below_drewN ?_ | with_reducible assumption | (with_reducible refine below_step (by assumption) ?_ ?_; rotate_left; focus ((try simp) <;> omega)))), ?_⟩
  all_goals first | (simp [go_sem]; done) | (simp; done) | omega | rfl
theorem refPushFull {rb c n : Nat} {v : Value} {xs : List Value} {base : Nat} {x y z u : Value} {w : World} (h : RefR w rb c v) (l : Line w base 4 v n xs) (hn : n = c) (hc : c ≤ 256) :
    Calls Try.prog 21 #[.pointer (some ⟨rb, 0, none⟩), .agg #[x, y, z, u]] w (Gives (.bool false) w) := by
  obtain ⟨c0, c1, f1, lt⟩ := h
  obtain ⟨ao, cap, rfl, _⟩ := l.shape
  clear l
  subst hn
  have ob : Old rb w := ⟨lt⟩
  go_enter Try.func21, Try.ntmps21
  go_wp2
  go_region
  all_goals go_wp2
  all_goals refine ret_any ⟨_, by simp [results, Try.results21, go_sem, *]; rfl, ?_⟩ rfl
  all_goals refine gives_of rfl (by repeat (first | with_reducible exact Below.refl _ _ | (with_reducible refine Below.alloc ?_ ?_ _; rotate_left; focus ((try simp) <;> omega)) | (with_reducible refine Below.setCell ?_ ?_ _; rotate_left; focus ((try simp) <;> omega)) | (with_reducible refine below_grow ?_ ?_; rotate_left; focus ((try simp) <;> omega)) | (with_reducible refine below_putB ?_ ?_; rotate_left; focus ((try simp) <;> omega)) | with_reducible refine Below.drew ?_ | with_reducible refine below_drewN ?_ | with_reducible assumption | (with_reducible refine below_step (by assumption) ?_ ?_; rotate_left; focus ((try simp) <;> omega))))
theorem refPopE {rb c : Nat} {v : Value} {xs : List Value} {base : Nat} {w : World} (h : RefR w rb c v) (l : Line w base 4 v 0 xs) :
    Calls Try.prog 19 #[.pointer (some ⟨rb, 0, none⟩)] w (Gives (.tuple #[.agg #[.int .i64 0, .int .i64 0, .int .i64 0, .int .u32 0], .bool false]) w) := by
  obtain ⟨c0, c1, f1, lt⟩ := h
  obtain ⟨ao, cap, rfl, _⟩ := l.shape
  clear l
  have ob : Old rb w := ⟨lt⟩
  go_enter Try.func19, Try.ntmps19
  go_wp2
  refine ret_any ⟨_, by simp [results, Try.results19, go_sem, *]; rfl, ?_⟩ rfl
  refine gives_of rfl (by repeat (first | with_reducible exact Below.refl _ _ | (with_reducible refine Below.alloc ?_ ?_ _; rotate_left; focus ((try simp) <;> omega)) | (with_reducible refine Below.setCell ?_ ?_ _; rotate_left; focus ((try simp) <;> omega)) | (with_reducible refine below_grow ?_ ?_; rotate_left; focus ((try simp) <;> omega)) | (with_reducible refine below_putB ?_ ?_; rotate_left; focus ((try simp) <;> omega)) | with_reducible refine Below.drew ?_ | with_reducible refine below_drewN ?_ | with_reducible assumption | (with_reducible refine below_step (by assumption) ?_ ?_; rotate_left; focus ((try simp) <;> omega))))
theorem Frame_rb {rb : Nat} {w w' w'' : World} {v : Value} (h : FrameS (fun k => k = rb) w w') (k : Below w'.heap.size w' w'') : FrameS (fun k => k = rb) w w'' :=
  ⟨k.os.trans h.os, k.tape.trans h.tape, k.output.trans h.output, Nat.le_trans h.size k.size, fun q hq hn => (k.block q (Nat.lt_of_lt_of_le hq h.size)).trans (h.block q hq hn)⟩
set_option maxHeartbeats 1000000 in
theorem refPopR {rb c n : Nat} {v : Value} {x y z u : Int} {xs : List Value} {base : Nat} {w : World} (h : RefR w rb c v) (l : Line w base 4 v n (four (x, y, z, u) ++ xs)) (hn : 0 < n) (hne : v.ownBlock ≠ some rb) (hcm : n ≤ 256) :
    Calls Try.prog 19 #[.pointer (some ⟨rb, 0, none⟩)] w fun e w' => e = .returned (.tuple #[.agg #[.int .i64 x, .int .i64 y, .int .i64 z, .int .u32 u], .bool true]) ∧ RefR w' rb c (cutFrom v 1 4) ∧ FrameS (fun k => k = rb) w w' := by
  have HR := Lib.hid h
  obtain ⟨c0, c1, f1, lt⟩ := h
  obtain ⟨g, off, cap, rfl, hbg, hg, hnc, hcap⟩ := l.form hn
  have p0 := l.cell (j := 0) (u := .int .i64 x) rfl
  have p1 := l.cell (j := 1) (u := .int .i64 y) rfl
  have p2 := l.cell (j := 2) (u := .int .i64 z) rfl
  have p3 := l.cell (j := 3) (u := .int .u32 u) rfl
  rw [Nat.add_zero] at p0
  have ob : Old rb w := ⟨lt⟩
  have og : Old g w := ⟨hg⟩
  clear l
  unfold maxLen at hcap
  simp only [Value.ownBlock, ne_eq, Option.some.injEq] at hne
  have hne' : ¬ rb = g := fun e => hne e.symm
  by_cases hc1 : cap = 1
  · subst hc1
    obtain rfl : n = 1 := by omega
    go_enter Try.func19, Try.ntmps19
    go_wp2
    refine ret_any ⟨_, by simp [results, Try.results19, go_sem, *]; rfl, ?_⟩ rfl
    have e : cutFrom (.slice (some ⟨g, off, none⟩) 1 1) 1 4 = .slice (some ⟨g, off, none⟩) 0 0 := rfl
    rw [e]
    exact ⟨rfl, RefR.keep (HR.out.set _) (by repeat (first | with_reducible exact Below.refl _ _ | (with_reducible refine Below.alloc ?_ ?_ _; rotate_left; focus ((try simp) <;> omega)) | (with_reducible refine Below.setCell ?_ ?_ _; rotate_left; focus ((try simp) <;> omega)) | (with_reducible refine below_grow ?_ ?_; rotate_left; focus ((try simp) <;> omega)) | (with_reducible refine below_putB ?_ ?_; rotate_left; focus ((try simp) <;> omega)) | with_reducible refine Below.drew ?_ | with_reducible refine below_drewN ?_ | with_reducible assumption | (with_reducible refine below_step (by assumption) ?_ ?_; rotate_left; focus ((try simp) <;> omega)))), Frame_rb (v := .bool true) ((FrameS.of_below (Below.refl _ _)).set rb 1 _ rfl) (by repeat (first | with_reducible exact Below.refl _ _ | (with_reducible refine Below.alloc ?_ ?_ _; rotate_left; focus ((try simp) <;> omega)) | (with_reducible refine Below.setCell ?_ ?_ _; rotate_left; focus ((try simp) <;> omega)) | (with_reducible refine below_grow ?_ ?_; rotate_left; focus ((try simp) <;> omega)) | (with_reducible refine below_putB ?_ ?_; rotate_left; focus ((try simp) <;> omega)) | with_reducible refine Below.drew ?_ | with_reducible refine below_drewN ?_ | with_reducible assumption | (with_reducible refine below_step (by assumption) ?_ ?_; rotate_left; focus ((try simp) <;> omega))))⟩
  · have hc2 : 1 < cap := by omega
    go_enter Try.func19, Try.ntmps19
    go_wp2
    refine ret_any ⟨_, by simp [results, Try.results19, go_sem, *]; rfl, ?_⟩ rfl
    have e : cutFrom (.slice (some ⟨g, off, none⟩) n cap) 1 4 = .slice (some ⟨g, off + 4, none⟩) (n - 1) (cap - 1) := by simp [cutFrom, Ne.symm hc1]
    rw [e]
    exact ⟨rfl, RefR.keep (HR.out.set _) (by repeat (first | with_reducible exact Below.refl _ _ | (with_reducible refine Below.alloc ?_ ?_ _; rotate_left; focus ((try simp) <;> omega)) | (with_reducible refine Below.setCell ?_ ?_ _; rotate_left; focus ((try simp) <;> omega)) | (with_reducible refine below_grow ?_ ?_; rotate_left; focus ((try simp) <;> omega)) | (with_reducible refine below_putB ?_ ?_; rotate_left; focus ((try simp) <;> omega)) | with_reducible refine Below.drew ?_ | with_reducible refine below_drewN ?_ | with_reducible assumption | (with_reducible refine below_step (by assumption) ?_ ?_; rotate_left; focus ((try simp) <;> omega)))), Frame_rb (v := .bool true) ((FrameS.of_below (Below.refl _ _)).set rb 1 _ rfl) (by repeat (first | with_reducible exact Below.refl _ _ | (with_reducible refine Below.alloc ?_ ?_ _; rotate_left; focus ((try simp) <;> omega)) | (with_reducible refine Below.setCell ?_ ?_ _; rotate_left; focus ((try simp) <;> omega)) | (with_reducible refine below_grow ?_ ?_; rotate_left; focus ((try simp) <;> omega)) | (with_reducible refine below_putB ?_ ?_; rotate_left; focus ((try simp) <;> omega)) | with_reducible refine Below.drew ?_ | with_reducible refine below_drewN ?_ | with_reducible assumption | (with_reducible refine below_step (by assumption) ?_ ?_; rotate_left; focus ((try simp) <;> omega))))⟩
theorem four_at {w : World} {b : Nat} {x : Int × Int × Int × Int} (h0 : w.cell? ⟨b, 0, none⟩ = some (.int .i64 x.1)) (h1 : w.cell? ⟨b, 1, none⟩ = some (.int .i64 x.2.1)) (h2 : w.cell? ⟨b, 2, none⟩ = some (.int .i64 x.2.2.1)) (h3 : w.cell? ⟨b, 3, none⟩ = some (.int .u32 x.2.2.2)) :
    ∀ j u, (four x)[j]? = some u → w.cell? ⟨b, j, none⟩ = some u := by
  intro j u hj
  match j, hj with
  | 0, hj => simp [four] at hj; subst hj; exact h0
  | 1, hj => simp [four] at hj; subst hj; exact h1
  | 2, hj => simp [four] at hj; subst hj; exact h2
  | 3, hj => simp [four] at hj; subst hj; exact h3
theorem frameS_grown {w X w5 : World} {row : Option Nat} (hg : X.grownBy w5 row) (hb : Below w.heap.size w X) : FrameS (fun k => row = some k) w w5 := (FrameS.of_below hb).grown hg fun _ e => e
theorem hat_of {a b : Option Nat} {H B : Nat} (h : a = b ∨ a = some H) (hB : B ≤ H) : a = b ∨ ∃ q, B ≤ q ∧ a = some q := h.imp id fun e => ⟨H, hB, e⟩
theorem FrameS.weak {S S' : Nat → Prop} {w w' : World} (h : FrameS S w w') (hs : ∀ k, S k → S' k) : FrameS S' w w' := ⟨h.os, h.tape, h.output, h.size, fun k hk hn => h.block k hk fun e => hn (hs k e)⟩
set_option maxHeartbeats 1000000 in
theorem refPushR {rb c n : Nat} {v : Value} {x y z u : Int} {xs : List Value} {base : Nat} {w : World} (h : RefR w rb c v) (l : Line w base 4 v n xs) (hn : n < c) (hc : c ≤ 256) (hne : v.ownBlock ≠ some rb) (hbase : base ≤ w.heap.size) :
    Calls Try.prog 21 #[.pointer (some ⟨rb, 0, none⟩), .agg #[.int .i64 x, .int .i64 y, .int .i64 z, .int .u32 u]] w fun e w' => e = .returned (.bool true) ∧ ∃ v', RefR w' rb c v' ∧ Line w' base 4 v' (n + 1) (xs ++ four (x, y, z, u)) ∧ FrameS (fun k => k = rb ∨ v.ownBlock = some k) w w' ∧ (v'.ownBlock = v.ownBlock ∨ ∃ q, w.heap.size ≤ q ∧ v'.ownBlock = some q) := by
  have HR := Lib.hid h
  have HL := Lib.hid l
  obtain ⟨c0, c1, f1, lt⟩ := h
  obtain ⟨ao, cap, rfl, hcap, hcap'⟩ := l.shape
  have HNE := Lib.hid hne
  unfold maxLen at hcap'
  clear l hne
  have ob : Old rb w := ⟨lt⟩
  obtain ⟨i0, hi, hz0, hz1, hz2⟩ := info_parts info32
  have HI := And.intro (Lib.hid hi) (And.intro (Lib.hid hz0) (And.intro (Lib.hid hz1) (Lib.hid hz2)))
  clear hi hz0 hz1 hz2
  go_enter Try.func21, Try.ntmps21
  go_wp2
  go_region
  all_goals go_wp2
  go_region_law ((refine step_append_line _ (by rfl) _ _ 38 (by rfl) base 32 i0 _ 4 32 Try.underlying38 HI.1.out HI.2.1.out HI.2.2.1.out HI.2.2.2.out rfl (by decide) _ _ n 1 xs (four (x, y, z, u)) (by rfl) (by rfl) (HL.out.keep (by repeat (first | with_reducible exact Below.refl _ _ | (with_reducible refine Below.alloc ?_ ?_ _; rotate_left; focus ((try simp) <;> omega)) | (with_reducible refine Below.setCell ?_ ?_ _; rotate_left; focus ((try simp) <;> omega)) | (with_reducible refine below_grow ?_ ?_; rotate_left; focus ((try simp) <;> omega)) | (with_reducible refine below_putB ?_ ?_; rotate_left; focus ((try simp) <;> omega)) | with_reducible refine Below.drew ?_ | with_reducible refine below_drewN ?_ | with_reducible assumption | (with_reducible refine below_step (by assumption) ?_ ?_; rotate_left; focus ((try simp) <;> omega))))) (Src.one rfl (four_one _) (four_at (by simp [go_sem]) (by simp [go_sem]) (by simp [go_sem]) (by simp [go_sem]))) (by unfold maxLen; omega) (by omega) (by simp; omega) _ rfl ?_; intro v' w5 hown hgrow hat; obtain ⟨ao', cap', rfl, _, _⟩ := hown.shape; have r1 := hgrow.cell_far ⟨rb, 1, none⟩ (by simp; omega) (Ne.symm HNE.out); have r2 := hgrow.frozen_far ⟨rb, 1, none⟩ (by simp; omega) (Ne.symm HNE.out); have r3 : w5.cell? ⟨rb, 1, none⟩ = some (.slice ao n cap) := (by rw [r1]; simp [go_sem, *]); have r4 : w5.frozen? ⟨rb, 1, none⟩ = false := (by rw [r2]; simp [go_sem, *]); have hF5 := frameS_grown hgrow (w := w) (by exact (by repeat (first | with_reducible exact Below.refl _ _ | (with_reducible refine Below.alloc ?_ ?_ _; rotate_left; focus ((try simp) <;> omega)) | (with_reducible refine Below.setCell ?_ ?_ _; rotate_left; focus ((try simp) <;> omega)) | (with_reducible refine below_grow ?_ ?_; rotate_left; focus ((try simp) <;> omega)) | (with_reducible refine below_putB ?_ ?_; rotate_left; focus ((try simp) <;> omega)) | with_reducible refine Below.drew ?_ | with_reducible refine below_drewN ?_ | with_reducible assumption | (with_reducible refine below_step (by assumption) ?_ ?_; rotate_left; focus ((try simp) <;> omega))))); have hat' := hat_of (B := w.heap.size) hat (by simp; omega); clear r1 r2 hat hgrow; have HF := Lib.hid hF5; have HO := Lib.hid hown; have HA := Lib.hid hat'; clear hF5 hown hat'))
  all_goals go_wp2
  all_goals refine ret_any ⟨_, by simp [results, Try.results21, go_sem, *]; rfl, ?_⟩ rfl
  all_goals refine ⟨rfl, _, (HR.out.block (HF.out.block rb lt HNE.out) HF.out.size).set _, HO.out.set ?_, (HF.out.weak fun _ e => Or.inr e).set rb 1 _ (Or.inl rfl), HA.out⟩
  all_goals
    intro e
    rcases HA.out with e' | ⟨q, hq, e'⟩
    · exact HNE.out (by rw [← e', e])
    · rw [e] at e'
      simp only [Option.some.injEq] at e'
      omega
theorem line_cell {w : World} {B n : Nat} {v : Value} {L : List (Int × Int × Int × Int)} (h : Line w B 4 v n (cells4 L)) (j : Nat) (hj : j < n) :
    ∃ g off cap, v = .slice (some ⟨g, off, none⟩) n cap ∧ g < w.heap.size ∧ w.cell? ⟨g, off + j * 4, none⟩ = some (.int .i64 (L.getD j (0, 0, 0, 0)).1) ∧ w.cell? ⟨g, off + j * 4 + 1, none⟩ = some (.int .i64 (L.getD j (0, 0, 0, 0)).2.1) ∧ w.cell? ⟨g, off + j * 4 + 2, none⟩ = some (.int .i64 (L.getD j (0, 0, 0, 0)).2.2.1) ∧ w.cell? ⟨g, off + j * 4 + 3, none⟩ = some (.int .u32 (L.getD j (0, 0, 0, 0)).2.2.2) := by
  have hl : j < L.length := by have := h.1; rw [cells4_length] at this; omega
  obtain ⟨g, off, cap, hv, hb, hg, r⟩ := h.form (by omega)
  have h' := h
  rw [hv] at h'
  refine ⟨g, off, cap, hv, hg, ?_, ?_, ?_, ?_⟩
  · have := h'.cell (j := j * 4 + 0) (u := .int .i64 (L.getD j (0, 0, 0, 0)).1) (by rw [cells4_get L j 0 (by omega) hl]; rfl); exact this
  · have := h'.cell (j := j * 4 + 1) (u := .int .i64 (L.getD j (0, 0, 0, 0)).2.1) (by rw [cells4_get L j 1 (by omega) hl]; rfl); rwa [← Nat.add_assoc] at this
  · have := h'.cell (j := j * 4 + 2) (u := .int .i64 (L.getD j (0, 0, 0, 0)).2.2.1) (by rw [cells4_get L j 2 (by omega) hl]; rfl); rwa [← Nat.add_assoc] at this
  · have := h'.cell (j := j * 4 + 3) (u := .int .u32 (L.getD j (0, 0, 0, 0)).2.2.2) (by rw [cells4_get L j 3 (by omega) hl]; rfl); rwa [← Nat.add_assoc] at this
set_option maxRecDepth 100000 in
theorem sameL {B B' n : Nat} {va vb : Value} {L : List (Int × Int × Int × Int)} {w : World} (h1 : Line w B 4 va n (cells4 L)) (h2 : Line w B' 4 vb n (cells4 L)) (hn : n ≤ 1000) : Calls Try.prog 25 #[va, vb] w (Gives (.bool true) w) := by
  have O1 := Lib.hid h1
  have O2 := Lib.hid h2
  obtain ⟨ao, cap, ha, _⟩ := h1.shape
  obtain ⟨bo, cap', hb, _⟩ := h2.shape
  subst ha hb
  clear h1 h2
  go_enter Try.func25, Try.ntmps25
  go_wp2
  go_loopw [13] (fun s wr => ∃ k : Nat, k ≤ n ∧ s = .int .i64 k ∧ Below w.heap.size w wr) (fun i _ => n - (intOf i).toNat)
  case atStart => exact ⟨0, by omega, rfl, Below.refl _ _⟩
  case round =>
    obtain ⟨k, hk, rfl, hbel⟩ := hrel
    by_cases hlt : k < n
    · obtain ⟨g, o1, c1, e1, l1, p0, p1, p2, p3⟩ := line_cell O1.out k hlt
      obtain ⟨g', o2, c2, e2, l2, q0, q1, q2, q3⟩ := line_cell O2.out k hlt
      simp only [Value.slice.injEq, true_and] at e1 e2
      obtain ⟨rfl, rfl⟩ := e1
      obtain ⟨rfl, rfl⟩ := e2
      rw [← hbel.cell (by simpa using l1)] at p0 p1 p2 p3
      rw [← hbel.cell (by simpa using l2)] at q0 q1 q2 q3
      generalize L.getD k (0, 0, 0, 0) = x at p0 p1 p2 p3 q0 q1 q2 q3
      have hbs := hbel.size
      go_wp2
      go_region
      all_goals go_wp2
      all_goals go_roundw
      case rel => exact ⟨k + 1, by omega, by go_num, (by repeat (first | with_reducible exact Below.refl _ _ | (with_reducible refine Below.alloc ?_ ?_ _; rotate_left; focus ((try simp) <;> omega)) | (with_reducible refine Below.setCell ?_ ?_ _; rotate_left; focus ((try simp) <;> omega)) | (with_reducible refine below_grow ?_ ?_; rotate_left; focus ((try simp) <;> omega)) | (with_reducible refine below_putB ?_ ?_; rotate_left; focus ((try simp) <;> omega)) | with_reducible refine Below.drew ?_ | with_reducible refine below_drewN ?_ | with_reducible assumption | (with_reducible refine below_step (by assumption) ?_ ?_; rotate_left; focus ((try simp) <;> omega))))⟩
      case measure => simp [intOf]; omega
    · go_wp2
      refine ret_any ⟨_, by simp [results, Try.results25, go_sem, *]; rfl, ?_⟩ rfl
      exact gives_of rfl hbel
end Go.Proofs.Ytjlclpdjblicjaa
