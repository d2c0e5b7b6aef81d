/-
  The functions of course and serial that the laws reach, each by its contract, and the law CourseAll as a walk. No condition but that the numbers fit their kinds.
-/
import Derived.Test.YtplhgpeeekjfcaaProg
import Derived.Test.YtplhgpeeekjfcaaBase
import Derived.Test.YtplhgpeeekjfcaaTypes
import Derived.Deep.RegionHeld3
import Derived.Deep.DeepCutAuto
import Derived.Deep.DrawnRows
namespace Go.Proofs.Ytplhgpeeekjfcaa
open Go.RowKit Go.Sort Go.BigFrame
set_option linter.unusedVariables false
theorem wrap_u16 (n : Int) : IntKind.u16.wrap n = n % 65536 := by
  simp [IntKind.wrap, IntKind.bits, IntKind.signed]
theorem wrap_i16 (n : Int) : IntKind.i16.wrap n = (n + 32768) % 65536 - 32768 := by
  simp only [IntKind.wrap, IntKind.bits, IntKind.signed]; simp; split <;> omega
attribute [go_sem] wrap_u16
/-- a comes after b, of numbers modulo 2^16. -/
def ahead (a b : Int) : Bool := decide (32768 < (a - b + 32768) % 65536)
theorem diff16 (a b : Int) (w : World) :
    Calls Try.prog 56 #[.int .u16 a, .int .u16 b] w fun e w' => e = .returned (.int .i64 ((a - b + 32768) % 65536 - 32768)) ∧ w = w' := by
  have h : IntKind.i16.wrap ((a - b) % 65536) = (a - b + 32768) % 65536 - 32768 := by rw [wrap_i16]; omega
  have h0 : -32768 ≤ (a - b + 32768) % 65536 - 32768 := by omega
  have h1 : (a - b + 32768) % 65536 - 32768 ≤ 32767 := by omega
  go_enter Try.func56, Try.ntmps56
  go_wp2
  refine ret_any ⟨_, by simp [results, Try.results56, go_sem]; rfl, ?_⟩ rfl
  exact ⟨rfl, rfl⟩
theorem refDiff16 (a b : Int) (w : World) (ha : 0 ≤ a) (ha' : a ≤ 65535) (hb : 0 ≤ b) (hb' : b ≤ 65535) :
    Calls Try.prog 55 #[.int .u16 a, .int .u16 b] w fun e w' => e = .returned (.int .i64 ((a - b + 32768) % 65536 - 32768)) ∧ w = w' := by
  by_cases h : (a - b + 65536) % 65536 < 32768
  all_goals
    go_enter Try.func55, Try.ntmps55
    go_wp2
    refine ret_any ⟨_, by simp [results, Try.results55, go_sem]; rfl, ?_⟩ rfl
    refine ⟨congrArg (fun n => Ending.returned (Value.int .i64 n)) ?_, rfl⟩
    omega
theorem ahead16 (a b : Int) (w : World) :
    Calls Try.prog 32 #[.int .u16 a, .int .u16 b] w fun e w' => e = .returned (.bool (ahead a b)) ∧ w = w' := by
  go_enter Try.func32, Try.ntmps32
  go_wp2_with (go_at_call 56; refine (diff16 _ _ _).mono ?_; rintro e w' ⟨rfl, rfl⟩)
  refine ret_any ⟨_, by simp [results, Try.results32, go_sem]; rfl, ?_⟩ rfl
  exact ⟨rfl, rfl⟩
/-- A slice of numbers below 2^16. -/
theorem fit_row16 {w : World} {n t : Nat} {cs : List Value} (ht : t = 42) (h : FitW Try.prog w (n + 2) t cs) : ∃ (a : Option Addr) (len cap : Nat), cs = [.slice a len cap] ∧ len ≤ maxLen ∧
    ∀ i, i < len → ∃ b off x, a = some ⟨b, off, none⟩ ∧ b < w.heap.size ∧ w.cell? ⟨b, off + i, none⟩ = some (.int .u16 x) ∧ 0 ≤ x ∧ x ≤ 65535 := by
  subst ht
  obtain ⟨a, len, cap, h1, h2, h3, h4, h5⟩ := fit_slice Try.underlying42 (show Try.prog.cellsOf 34 = 1 by kernel_rfl) (by omega) h
  refine ⟨a, len, cap, h1, by omega, fun i hi => ?_⟩
  obtain ⟨b, off, es, e1, e2, e3, e4, e5⟩ := h5 i hi
  obtain ⟨x, rfl, hx⟩ := fit_u16 Try.underlying34 e5
  refine ⟨b, off, x, e1, e2, ?_, hx⟩
  simpa using e4 0 (by omega)
/-- A slice of bools. -/
theorem fit_rowB {w : World} {n t : Nat} {cs : List Value} (ht : t = 43) (h : FitW Try.prog w (n + 2) t cs) : ∃ (a : Option Addr) (len cap : Nat), cs = [.slice a len cap] ∧ len ≤ maxLen ∧
    ∀ i, i < len → ∃ b off x, a = some ⟨b, off, none⟩ ∧ b < w.heap.size ∧ w.cell? ⟨b, off + i, none⟩ = some (.bool x) := by
  subst ht
  obtain ⟨a, len, cap, h1, h2, h3, h4, h5⟩ := fit_slice Try.underlying43 (show Try.prog.cellsOf 4 = 1 by kernel_rfl) (by omega) h
  refine ⟨a, len, cap, h1, by omega, fun i hi => ?_⟩
  obtain ⟨b, off, es, e1, e2, e3, e4, e5⟩ := h5 i hi
  obtain ⟨x, rfl⟩ := fit_bool Try.underlying4 e5
  refine ⟨b, off, x, e1, e2, ?_⟩
  simpa using e4 0 (by omega)
theorem ahead_shift (x i k : Int) : ahead ((x + k) % 65536) ((i + k) % 65536) = ahead x i := by
  unfold ahead
  rw [show ((x + k) % 65536 - (i + k) % 65536 + 32768) % 65536 = (x - i + 32768) % 65536 by omega]
theorem ahead_next (x g : Int) (h : 0 ≤ g) (h' : g ≤ 32000) : ahead ((x + 1 + g) % 65536) x = true := by
  simp only [ahead, decide_eq_true_eq]; omega
theorem breakC (y : Bool) (i o n : Int) (w : World) :
    Calls Try.prog 29 #[.agg #[.bool y, .int .u16 i, .int .u16 o, .int .u16 n]] w (Gives (.agg #[.bool false, .int .u16 i, .int .u16 o, .int .u16 n]) w) := by
  go_enter Try.func29, Try.ntmps29
  go_wp2
  refine ret_any ⟨_, by simp [results, Try.results29, go_sem]; rfl, ?_⟩ rfl
  refine gives_of rfl (by repeat (first | with_reducible exact Below.refl _ _ | (with_reducible refine Below.alloc ?_ ?_ _; rotate_left; focus ((try simp) <;> omega)) | (with_reducible refine Below.setCell ?_ ?_ _; rotate_left; focus ((try simp) <;> omega)) | (with_reducible refine below_grow ?_ ?_; rotate_left; focus ((try simp) <;> omega)) | (with_reducible refine below_putB ?_ ?_; rotate_left; focus ((try simp) <;> omega)) | with_reducible refine Below.drew ?_ | with_reducible refine below_drewN ?_ | with_reducible assumption | (with_reducible refine below_step (by assumption) ?_ ?_; rotate_left; focus ((try simp) <;> omega))))
theorem refBreak (y : Bool) (i o n : Int) (w : World) :
    Calls Try.prog 30 #[.agg #[.bool y, .int .u16 i, .int .u16 o, .int .u16 n]] w (Gives (.agg #[.bool false, .int .u16 i, .int .u16 o, .int .u16 n]) w) := by
  go_enter Try.func30, Try.ntmps30
  go_wp2
  refine ret_any ⟨_, by simp [results, Try.results30, go_sem]; rfl, ?_⟩ rfl
  refine gives_of rfl (by repeat (first | with_reducible exact Below.refl _ _ | (with_reducible refine Below.alloc ?_ ?_ _; rotate_left; focus ((try simp) <;> omega)) | (with_reducible refine Below.setCell ?_ ?_ _; rotate_left; focus ((try simp) <;> omega)) | (with_reducible refine below_grow ?_ ?_; rotate_left; focus ((try simp) <;> omega)) | (with_reducible refine below_putB ?_ ?_; rotate_left; focus ((try simp) <;> omega)) | with_reducible refine Below.drew ?_ | with_reducible refine below_drewN ?_ | with_reducible assumption | (with_reducible refine below_step (by assumption) ?_ ?_; rotate_left; focus ((try simp) <;> omega))))
theorem outC (y : Bool) (i o n x : Int) (w : World) :
    Calls Try.prog 31 #[.agg #[.bool y, .int .u16 i, .int .u16 o, .int .u16 n], .int .u16 x] w (Gives (.int .u16 ((x + o) % 65536)) w) := by
  go_enter Try.func31, Try.ntmps31
  go_wp2
  refine ret_any ⟨_, by simp [results, Try.results31, go_sem]; rfl, ?_⟩ rfl
  refine gives_of rfl (by repeat (first | with_reducible exact Below.refl _ _ | (with_reducible refine Below.alloc ?_ ?_ _; rotate_left; focus ((try simp) <;> omega)) | (with_reducible refine Below.setCell ?_ ?_ _; rotate_left; focus ((try simp) <;> omega)) | (with_reducible refine below_grow ?_ ?_; rotate_left; focus ((try simp) <;> omega)) | (with_reducible refine below_putB ?_ ?_; rotate_left; focus ((try simp) <;> omega)) | with_reducible refine Below.drew ?_ | with_reducible refine below_drewN ?_ | with_reducible assumption | (with_reducible refine below_step (by assumption) ?_ ?_; rotate_left; focus ((try simp) <;> omega))))
theorem outC' (y : Bool) (i o n x v : Int) (w : World) (h : (x + o) % 65536 = v) :
    Calls Try.prog 31 #[.agg #[.bool y, .int .u16 i, .int .u16 o, .int .u16 n], .int .u16 x] w (Gives (.int .u16 v) w) := by
  subst h; exact outC y i o n x w
theorem stepNo (i o n x : Int) (w : World) (h : ahead x i = false) :
    Calls Try.prog 27 #[.agg #[.bool true, .int .u16 i, .int .u16 o, .int .u16 n], .int .u16 x] w (Gives (.tuple #[.agg #[.bool true, .int .u16 i, .int .u16 o, .int .u16 n], .int .u16 0, .bool false]) w) := by
  go_enter Try.func27, Try.ntmps27
  go_wp2_with (go_at_call 32; refine (ahead16 _ _ _).mono ?_; rintro e w' ⟨rfl, rfl⟩)
  refine ret_any ⟨_, by simp [results, Try.results27, go_sem]; rfl, ?_⟩ rfl
  refine gives_of rfl (by repeat (first | with_reducible exact Below.refl _ _ | (with_reducible refine Below.alloc ?_ ?_ _; rotate_left; focus ((try simp) <;> omega)) | (with_reducible refine Below.setCell ?_ ?_ _; rotate_left; focus ((try simp) <;> omega)) | (with_reducible refine below_grow ?_ ?_; rotate_left; focus ((try simp) <;> omega)) | (with_reducible refine below_putB ?_ ?_; rotate_left; focus ((try simp) <;> omega)) | with_reducible refine Below.drew ?_ | with_reducible refine below_drewN ?_ | with_reducible assumption | (with_reducible refine below_step (by assumption) ?_ ?_; rotate_left; focus ((try simp) <;> omega))))
theorem stepYes (y : Bool) (i o n x : Int) (w : World) (h : y = true → ahead x i = true) :
    Calls Try.prog 27 #[.agg #[.bool y, .int .u16 i, .int .u16 o, .int .u16 n], .int .u16 x] w (Gives (.tuple #[.agg #[.bool true, .int .u16 x, .int .u16 ((n - x) % 65536), .int .u16 ((n + 1) % 65536)], .int .u16 n, .bool true]) w) := by
  cases y
  · clear h
    go_enter Try.func27, Try.ntmps27
    go_wp2
    refine ret_any ⟨_, by simp [results, Try.results27, go_sem]; rfl, ?_⟩ rfl
    refine gives_of rfl (by repeat (first | with_reducible exact Below.refl _ _ | (with_reducible refine Below.alloc ?_ ?_ _; rotate_left; focus ((try simp) <;> omega)) | (with_reducible refine Below.setCell ?_ ?_ _; rotate_left; focus ((try simp) <;> omega)) | (with_reducible refine below_grow ?_ ?_; rotate_left; focus ((try simp) <;> omega)) | (with_reducible refine below_putB ?_ ?_; rotate_left; focus ((try simp) <;> omega)) | with_reducible refine Below.drew ?_ | with_reducible refine below_drewN ?_ | with_reducible assumption | (with_reducible refine below_step (by assumption) ?_ ?_; rotate_left; focus ((try simp) <;> omega))))
  · have h' := h rfl
    clear h
    go_enter Try.func27, Try.ntmps27
    go_wp2_with (go_at_call 32; refine (ahead16 _ _ _).mono ?_; rintro e w' ⟨rfl, rfl⟩)
    refine ret_any ⟨_, by simp [results, Try.results27, go_sem]; rfl, ?_⟩ rfl
    refine gives_of rfl (by repeat (first | with_reducible exact Below.refl _ _ | (with_reducible refine Below.alloc ?_ ?_ _; rotate_left; focus ((try simp) <;> omega)) | (with_reducible refine Below.setCell ?_ ?_ _; rotate_left; focus ((try simp) <;> omega)) | (with_reducible refine below_grow ?_ ?_; rotate_left; focus ((try simp) <;> omega)) | (with_reducible refine below_putB ?_ ?_; rotate_left; focus ((try simp) <;> omega)) | with_reducible refine Below.drew ?_ | with_reducible refine below_drewN ?_ | with_reducible assumption | (with_reducible refine below_step (by assumption) ?_ ?_; rotate_left; focus ((try simp) <;> omega))))
theorem refStepNo (i o n x : Int) (w : World) (h : ahead x i = false) (hi : 0 ≤ i) (hi' : i ≤ 65535) (hx : 0 ≤ x) (hx' : x ≤ 65535) :
    Calls Try.prog 28 #[.agg #[.bool true, .int .u16 i, .int .u16 o, .int .u16 n], .int .u16 x] w (Gives (.tuple #[.agg #[.bool true, .int .u16 i, .int .u16 o, .int .u16 n], .int .u16 0, .bool false]) w) := by
  have h2 : (x - i + 32768) % 65536 - 32768 ≤ 0 := by simp [ahead] at h; omega
  go_enter Try.func28, Try.ntmps28
  go_wp2_with (go_at_call 55; refine (refDiff16 _ _ _ hx hx' hi hi').mono ?_; rintro e w' ⟨rfl, rfl⟩)
  refine ret_any ⟨_, by simp [results, Try.results28, go_sem]; rfl, ?_⟩ rfl
  refine gives_of rfl (by repeat (first | with_reducible exact Below.refl _ _ | (with_reducible refine Below.alloc ?_ ?_ _; rotate_left; focus ((try simp) <;> omega)) | (with_reducible refine Below.setCell ?_ ?_ _; rotate_left; focus ((try simp) <;> omega)) | (with_reducible refine below_grow ?_ ?_; rotate_left; focus ((try simp) <;> omega)) | (with_reducible refine below_putB ?_ ?_; rotate_left; focus ((try simp) <;> omega)) | with_reducible refine Below.drew ?_ | with_reducible refine below_drewN ?_ | with_reducible assumption | (with_reducible refine below_step (by assumption) ?_ ?_; rotate_left; focus ((try simp) <;> omega))))
theorem refStepYes (y : Bool) (i o n x : Int) (w : World) (h : y = true → ahead x i = true) (hi : 0 ≤ i) (hi' : i ≤ 65535) (hx : 0 ≤ x) (hx' : x ≤ 65535) (hn : 0 ≤ n) (hn' : n ≤ 65535) :
    Calls Try.prog 28 #[.agg #[.bool y, .int .u16 i, .int .u16 o, .int .u16 n], .int .u16 x] w (Gives (.tuple #[.agg #[.bool true, .int .u16 x, .int .u16 ((n - x) % 65536), .int .u16 ((n + 1) % 65536)], .int .u16 n, .bool true]) w) := by
  cases y
  · clear h
    go_enter Try.func28, Try.ntmps28
    go_wp2
    refine ret_any ⟨_, by simp [results, Try.results28, go_sem]; rfl, ?_⟩ rfl
    refine gives_of rfl (by repeat (first | with_reducible exact Below.refl _ _ | (with_reducible refine Below.alloc ?_ ?_ _; rotate_left; focus ((try simp) <;> omega)) | (with_reducible refine Below.setCell ?_ ?_ _; rotate_left; focus ((try simp) <;> omega)) | (with_reducible refine below_grow ?_ ?_; rotate_left; focus ((try simp) <;> omega)) | (with_reducible refine below_putB ?_ ?_; rotate_left; focus ((try simp) <;> omega)) | with_reducible refine Below.drew ?_ | with_reducible refine below_drewN ?_ | with_reducible assumption | (with_reducible refine below_step (by assumption) ?_ ?_; rotate_left; focus ((try simp) <;> omega))))
  · have h2 : ¬ (x - i + 32768) % 65536 - 32768 ≤ 0 := by have := h rfl; simp [ahead] at this; omega
    clear h
    go_enter Try.func28, Try.ntmps28
    go_wp2_with (go_at_call 55; refine (refDiff16 _ _ _ hx hx' hi hi').mono ?_; rintro e w' ⟨rfl, rfl⟩)
    refine ret_any ⟨_, by simp [results, Try.results28, go_sem]; rfl, ?_⟩ rfl
    refine gives_of rfl (by repeat (first | with_reducible exact Below.refl _ _ | (with_reducible refine Below.alloc ?_ ?_ _; rotate_left; focus ((try simp) <;> omega)) | (with_reducible refine Below.setCell ?_ ?_ _; rotate_left; focus ((try simp) <;> omega)) | (with_reducible refine below_grow ?_ ?_; rotate_left; focus ((try simp) <;> omega)) | (with_reducible refine below_putB ?_ ?_; rotate_left; focus ((try simp) <;> omega)) | with_reducible refine Below.drew ?_ | with_reducible refine below_drewN ?_ | with_reducible assumption | (with_reducible refine below_step (by assumption) ?_ ?_; rotate_left; focus ((try simp) <;> omega))))
theorem field36_0 (a b c d : Value) (w : World) : (Instr.field 36 (.agg #[a, b, c, d]) 0).run Try.prog w = .ok a w := by kernel_rfl
theorem field36_3 (a b c d : Value) (w : World) : (Instr.field 36 (.agg #[a, b, c, d]) 3).run Try.prog w = .ok d w := by kernel_rfl
attribute [go_sem] field36_0 field36_3
set_option maxRecDepth 100000 in
theorem shown14 (w : World) : Calls Try.prog 26 #[] w (Gives (.bool true) w) := by
  go_enter Try.func26, Try.ntmps26
  go_wp2_with fail
  refine (stepYes _ _ _ _ _ _ (by simp)).mono ?_; rintro e w1 ⟨rfl, hb1⟩; have ha1 : After _ w1 := ⟨hb1⟩; obtain ⟨hc1, hf1⟩ := after hb1; have hz1 := hb1.size; try simp at hz1
  go_wp2_with fail
  refine (stepYes _ _ _ _ _ _ (by decide)).mono ?_; rintro e w2 ⟨rfl, hb2⟩; have ha2 : After _ w2 := ⟨hb2⟩; obtain ⟨hc2, hf2⟩ := after hb2; have hz2 := hb2.size; try simp at hz2
  go_wp2_with fail
  refine (stepNo _ _ _ _ _ (by decide)).mono ?_; rintro e w3 ⟨rfl, hb3⟩; have ha3 : After _ w3 := ⟨hb3⟩; obtain ⟨hc3, hf3⟩ := after hb3; have hz3 := hb3.size; try simp at hz3
  go_wp2_with (first | (go_at_call 29; refine (breakC _ _ _ _ _).mono ?_; rintro e w1 ⟨rfl, hb1⟩; have ha1 : After _ w1 := ⟨hb1⟩; obtain ⟨hc1, hf1⟩ := after hb1; have hz1 := hb1.size; try simp at hz1) | (go_at_call 31; refine (outC _ _ _ _ _ _).mono ?_; rintro e w1 ⟨rfl, hb1⟩; have ha1 : After _ w1 := ⟨hb1⟩; obtain ⟨hc1, hf1⟩ := after hb1; have hz1 := hb1.size; try simp at hz1))
  refine ret_any ⟨_, by simp [results, Try.results26, go_sem, *]; rfl, ?_⟩ rfl
  refine gives_of rfl (by repeat (first | with_reducible exact Below.refl _ _ | (with_reducible refine Below.alloc ?_ ?_ _; rotate_left; focus ((try simp) <;> omega)) | (with_reducible refine Below.setCell ?_ ?_ _; rotate_left; focus ((try simp) <;> omega)) | (with_reducible refine below_grow ?_ ?_; rotate_left; focus ((try simp) <;> omega)) | (with_reducible refine below_putB ?_ ?_; rotate_left; focus ((try simp) <;> omega)) | with_reducible refine Below.drew ?_ | with_reducible refine below_drewN ?_ | with_reducible assumption | (with_reducible refine below_step (by assumption) ?_ ?_; rotate_left; focus ((try simp) <;> omega))))
set_option maxRecDepth 100000 in
theorem courseAll_ok (v0 v1 : Value) (w : World) (h0 : Arg Try.prog w 36 v0) (h1 : Arg Try.prog w 34 v1) : Calls Try.prog 7 #[v0, v1] w (Gives (.bool true) w) := by
  obtain ⟨y, i, o, n, rfl, hi, hi', ho, ho', hn, hn'⟩ := arg_course h0
  obtain ⟨x, rfl, hx, hx'⟩ := arg_u16 Try.underlying34 h1
  clear h0 h1
  by_cases hA : y = true ∧ ahead x i = false
  · obtain ⟨rfl, hA⟩ := hA
    go_enter Try.func7, Try.ntmps7
    go_wp2_with (first | (go_at_call 26; refine (shown14 _).mono ?_; rintro e w1 ⟨rfl, hb1⟩; have ha1 : After _ w1 := ⟨hb1⟩; obtain ⟨hc1, hf1⟩ := after hb1; have hz1 := hb1.size; try simp at hz1) | (go_at_call 27; refine (stepNo _ _ _ _ _ hA).mono ?_; rintro e w1 ⟨rfl, hb1⟩; have ha1 : After _ w1 := ⟨hb1⟩; obtain ⟨hc1, hf1⟩ := after hb1; have hz1 := hb1.size; try simp at hz1) | (go_at_call 28; refine (refStepNo _ _ _ _ _ hA hi hi' hx hx').mono ?_; rintro e w1 ⟨rfl, hb1⟩; have ha1 : After _ w1 := ⟨hb1⟩; obtain ⟨hc1, hf1⟩ := after hb1; have hz1 := hb1.size; try simp at hz1))
    refine wp_region_quiet_below (by kernel_rfl) (by kernel_rfl) ?_
    repeat (first | go_big_quiet_step (((first | (go_at_call 29; exact Calls.regrown_gives (breakC _ _ _ _ _)) | (go_at_call 30; exact Calls.regrown_gives (refBreak _ _ _ _ _)) | (go_at_call 31; exact Calls.regrown_gives (outC _ _ _ _ _ _))))) | quiet_step (((first | (go_at_call 29; exact Calls.regrown_gives (breakC _ _ _ _ _)) | (go_at_call 30; exact Calls.regrown_gives (refBreak _ _ _ _ _)) | (go_at_call 31; exact Calls.regrown_gives (outC _ _ _ _ _ _))))))
    refine wpQuiet_nil ?_
    intro _ hw'
    obtain ⟨⟨dq, osq⟩, hw''⟩ := hw'
    subst hw''
    go_wp2
    refine ret_any ⟨_, by simp [results, Try.results7, go_sem, *]; rfl, ?_⟩ rfl
    refine gives_of rfl (by repeat (first | with_reducible exact Below.refl _ _ | (with_reducible refine Below.alloc ?_ ?_ _; rotate_left; focus ((try simp) <;> omega)) | (with_reducible refine Below.setCell ?_ ?_ _; rotate_left; focus ((try simp) <;> omega)) | (with_reducible refine below_grow ?_ ?_; rotate_left; focus ((try simp) <;> omega)) | (with_reducible refine below_putB ?_ ?_; rotate_left; focus ((try simp) <;> omega)) | with_reducible refine Below.drew ?_ | with_reducible refine below_drewN ?_ | with_reducible assumption | (with_reducible refine below_step (by assumption) ?_ ?_; rotate_left; focus ((try simp) <;> omega))))
  · have hA' : y = true → ahead x i = true := by cases h : ahead x i <;> simp_all
    have HA := Lib.hid hA'
    clear hA hA'
    go_enter Try.func7, Try.ntmps7
    go_wp2_with (first | (go_at_call 26; refine (shown14 _).mono ?_; rintro e w1 ⟨rfl, hb1⟩; have ha1 : After _ w1 := ⟨hb1⟩; obtain ⟨hc1, hf1⟩ := after hb1; have hz1 := hb1.size; try simp at hz1) | (go_at_call 27; refine (stepYes _ _ _ _ _ _ HA.out).mono ?_; rintro e w1 ⟨rfl, hb1⟩; have ha1 : After _ w1 := ⟨hb1⟩; obtain ⟨hc1, hf1⟩ := after hb1; have hz1 := hb1.size; try simp at hz1) | (go_at_call 28; refine (refStepYes _ _ _ _ _ _ HA.out hi hi' hx hx' hn hn').mono ?_; rintro e w1 ⟨rfl, hb1⟩; have ha1 : After _ w1 := ⟨hb1⟩; obtain ⟨hc1, hf1⟩ := after hb1; have hz1 := hb1.size; try simp at hz1))
    refine wp_region_quiet_below (by kernel_rfl) (by kernel_rfl) ?_
    repeat (first | go_big_quiet_step (((first | (go_at_call 29; exact Calls.regrown_gives (breakC _ _ _ _ _)) | (go_at_call 30; exact Calls.regrown_gives (refBreak _ _ _ _ _)) | (go_at_call 31; exact Calls.regrown_gives (outC _ _ _ _ _ _))))) | quiet_step (((first | (go_at_call 29; exact Calls.regrown_gives (breakC _ _ _ _ _)) | (go_at_call 30; exact Calls.regrown_gives (refBreak _ _ _ _ _)) | (go_at_call 31; exact Calls.regrown_gives (outC _ _ _ _ _ _))))))
    refine wpQuiet_nil ?_
    intro _ hw'
    obtain ⟨⟨dq, osq⟩, hw''⟩ := hw'
    subst hw''
    go_wp2
    refine ret_any ⟨_, by simp [results, Try.results7, go_sem, *]; rfl, ?_⟩ rfl
    refine gives_of rfl (by repeat (first | with_reducible exact Below.refl _ _ | (with_reducible refine Below.alloc ?_ ?_ _; rotate_left; focus ((try simp) <;> omega)) | (with_reducible refine Below.setCell ?_ ?_ _; rotate_left; focus ((try simp) <;> omega)) | (with_reducible refine below_grow ?_ ?_; rotate_left; focus ((try simp) <;> omega)) | (with_reducible refine below_putB ?_ ?_; rotate_left; focus ((try simp) <;> omega)) | with_reducible refine Below.drew ?_ | with_reducible refine below_drewN ?_ | with_reducible assumption | (with_reducible refine below_step (by assumption) ?_ ?_; rotate_left; focus ((try simp) <;> omega))))
end Go.Proofs.Ytplhgpeeekjfcaa
