/-
  The clocks' functions, each by its contract: what it returns, for every clock and number; and the law ClockAll as a walk. No condition but that the numbers fit their kinds.
-/
import Derived.Test.YtplhgpeeekjfcaaProg
import Derived.Test.YtplhgpeeekjfcaaBase
import Derived.Test.YtplhgpeeekjfcaaTypes
import Derived.Deep.RegionHeld3
import Derived.Deep.DeepCutAuto
import Derived.Deep.DrawnRows
namespace Go.Proofs.Ytplhgpeeekjfcaa
open Go.RowKit Go.Sort Go.BigFrame
set_option linter.unusedVariables false
theorem tmod_in (n : Int) : -4294967296 ≤ n.tmod 4294967296 ∧ n.tmod 4294967296 ≤ 4294967296 := by
  simp only [Int.tmod_eq_emod]
  split <;> simp at * <;> omega
theorem tmod_mod (n : Int) : n.tmod 4294967296 % 4294967296 = n % 4294967296 := by
  simp only [Int.tmod_eq_emod]
  split <;> simp at * <;> omega
theorem around (n : Int) (w : World) :
    Calls Try.prog 54 #[.int .i64 n] w fun e w' => e = .returned (.int .u32 (n % 4294967296)) ∧ w = w' := by
  have h := tmod_in n
  have h0 := h.1
  have h1 := h.2
  clear h
  go_enter Try.func54, Try.ntmps54
  go_wp2
  refine ret_any ⟨_, by simp [results, Try.results54, go_sem]; rfl, ?_⟩ rfl
  refine ⟨congrArg (fun n => Ending.returned (Value.int .u32 n)) ?_, rfl⟩
  exact tmod_mod n
theorem refTimeOut (y : Bool) (o l i : Int) (w : World) (ho : 0 ≤ o) (ho' : o ≤ 4294967295) (hi : 0 ≤ i) (hi' : i ≤ 4294967295) :
    Calls Try.prog 25 #[.agg #[.bool y, .int .u32 o, .int .u32 l], .int .u32 i] w (Gives (.int .u32 ((i + o) % 4294967296)) w) := by
  go_enter Try.func25, Try.ntmps25
  go_wp2_with (go_at_call 54; refine (around _ _).mono ?_; rintro e w' ⟨rfl, rfl⟩)
  refine ret_any ⟨_, by simp [results, Try.results25, go_sem]; rfl, ?_⟩ rfl
  refine gives_of rfl (by repeat (first | with_reducible exact Below.refl _ _ | (with_reducible refine Below.alloc ?_ ?_ _; rotate_left; focus ((try simp) <;> omega)) | (with_reducible refine Below.setCell ?_ ?_ _; rotate_left; focus ((try simp) <;> omega)) | (with_reducible refine below_grow ?_ ?_; rotate_left; focus ((try simp) <;> omega)) | (with_reducible refine below_putB ?_ ?_; rotate_left; focus ((try simp) <;> omega)) | with_reducible refine Below.drew ?_ | with_reducible refine below_drewN ?_ | with_reducible assumption | (with_reducible refine below_step (by assumption) ?_ ?_; rotate_left; focus ((try simp) <;> omega))))
theorem refStart (y : Bool) (o l i : Int) (w : World) (hl : 0 ≤ l) (hl' : l ≤ 4294967295) (hi : 0 ≤ i) (hi' : i ≤ 4294967295) :
    Calls Try.prog 23 #[.agg #[.bool y, .int .u32 o, .int .u32 l], .int .u32 i] w (Gives (.agg #[.bool y, .int .u32 (((if y then l + 3000 else 0) - i) % 4294967296), .int .u32 l]) w) := by
  cases y
  all_goals
    go_enter Try.func23, Try.ntmps23
    go_wp2
  all_goals
    refine wp_region_below_tail 10 (by kernel_rfl) (by kernel_rfl) ?_
    simp only [List.take_succ_cons, List.take_zero, List.drop_succ_cons, List.drop_zero]
    repeat (first | go_big_quiet_step ((go_at_call 54; exact Calls.regrown_gives (Calls.gives_of_pure (around _ _)))) | quiet_step ((go_at_call 54; exact Calls.regrown_gives (Calls.gives_of_pure (around _ _)))))
    refine wpQuiet_nil ?_
    intro _ hw'
    obtain ⟨⟨dq, osq⟩, hw''⟩ := hw'
    subst hw''
    go_wp2
  all_goals refine ret_any ⟨_, by simp [results, Try.results23, go_sem]; rfl, ?_⟩ rfl
  all_goals refine gives_of ?_ (by repeat (first | with_reducible exact Below.refl _ _ | (with_reducible refine Below.alloc ?_ ?_ _; rotate_left; focus ((try simp) <;> omega)) | (with_reducible refine Below.setCell ?_ ?_ _; rotate_left; focus ((try simp) <;> omega)) | (with_reducible refine below_grow ?_ ?_; rotate_left; focus ((try simp) <;> omega)) | (with_reducible refine below_putB ?_ ?_; rotate_left; focus ((try simp) <;> omega)) | with_reducible refine Below.drew ?_ | with_reducible refine below_drewN ?_ | with_reducible assumption | (with_reducible refine below_step (by assumption) ?_ ?_; rotate_left; focus ((try simp) <;> omega))))
  all_goals simp
theorem clockOut (y : Bool) (o l i : Int) (w : World) :
    Calls Try.prog 24 #[.agg #[.bool y, .int .u32 o, .int .u32 l], .int .u32 i] w (Gives (.int .u32 ((i + o) % 4294967296)) w) := by
  go_enter Try.func24, Try.ntmps24
  go_wp2
  refine ret_any ⟨_, by simp [results, Try.results24, go_sem]; rfl, ?_⟩ rfl
  refine gives_of rfl (by repeat (first | with_reducible exact Below.refl _ _ | (with_reducible refine Below.alloc ?_ ?_ _; rotate_left; focus ((try simp) <;> omega)) | (with_reducible refine Below.setCell ?_ ?_ _; rotate_left; focus ((try simp) <;> omega)) | (with_reducible refine below_grow ?_ ?_; rotate_left; focus ((try simp) <;> omega)) | (with_reducible refine below_putB ?_ ?_; rotate_left; focus ((try simp) <;> omega)) | with_reducible refine Below.drew ?_ | with_reducible refine below_drewN ?_ | with_reducible assumption | (with_reducible refine below_step (by assumption) ?_ ?_; rotate_left; focus ((try simp) <;> omega))))
theorem clockStep (y : Bool) (o l i : Int) (w : World) :
    Calls Try.prog 20 #[.agg #[.bool y, .int .u32 o, .int .u32 l], .int .u32 i] w (Gives (.tuple #[.agg #[.bool true, .int .u32 o, .int .u32 ((i + o) % 4294967296)], .int .u32 ((i + o) % 4294967296)]) w) := by
  go_enter Try.func20, Try.ntmps20
  go_wp2
  go_region
  all_goals go_wp2
  refine ret_any ⟨_, by simp [results, Try.results20, go_sem]; rfl, ?_⟩ rfl
  refine gives_of rfl (by repeat (first | with_reducible exact Below.refl _ _ | (with_reducible refine Below.alloc ?_ ?_ _; rotate_left; focus ((try simp) <;> omega)) | (with_reducible refine Below.setCell ?_ ?_ _; rotate_left; focus ((try simp) <;> omega)) | (with_reducible refine below_grow ?_ ?_; rotate_left; focus ((try simp) <;> omega)) | (with_reducible refine below_putB ?_ ?_; rotate_left; focus ((try simp) <;> omega)) | with_reducible refine Below.drew ?_ | with_reducible refine below_drewN ?_ | with_reducible assumption | (with_reducible refine below_step (by assumption) ?_ ?_; rotate_left; focus ((try simp) <;> omega))))
theorem clockStart (y : Bool) (o l i : Int) (w : World) :
    Calls Try.prog 22 #[.agg #[.bool y, .int .u32 o, .int .u32 l], .int .u32 i] w (Gives (.agg #[.bool y, .int .u32 (((if y then l + 3000 else 0) - i) % 4294967296), .int .u32 l]) w) := by
  cases y
  all_goals
    go_enter Try.func22, Try.ntmps22
    go_wp2
  all_goals refine ret_any ⟨_, by simp [results, Try.results22, go_sem]; rfl, ?_⟩ rfl
  all_goals refine gives_of ?_ (by repeat (first | with_reducible exact Below.refl _ _ | (with_reducible refine Below.alloc ?_ ?_ _; rotate_left; focus ((try simp) <;> omega)) | (with_reducible refine Below.setCell ?_ ?_ _; rotate_left; focus ((try simp) <;> omega)) | (with_reducible refine below_grow ?_ ?_; rotate_left; focus ((try simp) <;> omega)) | (with_reducible refine below_putB ?_ ?_; rotate_left; focus ((try simp) <;> omega)) | with_reducible refine Below.drew ?_ | with_reducible refine below_drewN ?_ | with_reducible assumption | (with_reducible refine below_step (by assumption) ?_ ?_; rotate_left; focus ((try simp) <;> omega))))
  all_goals simp
theorem refClockStep (y : Bool) (o l i : Int) (w : World) (ho : 0 ≤ o) (ho' : o ≤ 4294967295) (hi : 0 ≤ i) (hi' : i ≤ 4294967295) :
    Calls Try.prog 21 #[.agg #[.bool y, .int .u32 o, .int .u32 l], .int .u32 i] w (Gives (.tuple #[.agg #[.bool true, .int .u32 o, .int .u32 ((i + o) % 4294967296)], .int .u32 ((i + o) % 4294967296)]) w) := by
  go_enter Try.func21, Try.ntmps21
  go_wp2_with (go_at_call 25; refine (refTimeOut _ _ _ _ _ (by omega) (by omega) (by omega) (by omega)).mono ?_; rintro e w1 ⟨rfl, hb1⟩; have ha1 : After _ w1 := ⟨hb1⟩; obtain ⟨hc1, hf1⟩ := after hb1; have hz1 := hb1.size; try simp at hz1)
  refine ret_any ⟨_, by simp [results, Try.results21, go_sem, *]; rfl, ?_⟩ rfl
  refine gives_of rfl (by repeat (first | with_reducible exact Below.refl _ _ | (with_reducible refine Below.alloc ?_ ?_ _; rotate_left; focus ((try simp) <;> omega)) | (with_reducible refine Below.setCell ?_ ?_ _; rotate_left; focus ((try simp) <;> omega)) | (with_reducible refine below_grow ?_ ?_; rotate_left; focus ((try simp) <;> omega)) | (with_reducible refine below_putB ?_ ?_; rotate_left; focus ((try simp) <;> omega)) | with_reducible refine Below.drew ?_ | with_reducible refine below_drewN ?_ | with_reducible assumption | (with_reducible refine below_step (by assumption) ?_ ?_; rotate_left; focus ((try simp) <;> omega))))
theorem shown15 (w : World) : Calls Try.prog 19 #[] w (Gives (.bool true) w) := by
  go_enter Try.func19, Try.ntmps19
  go_wp2_with (first | (go_at_call 22; refine (clockStart _ _ _ _ _).mono ?_; rintro e w1 ⟨rfl, hb1⟩; have ha1 : After _ w1 := ⟨hb1⟩; obtain ⟨hc1, hf1⟩ := after hb1; have hz1 := hb1.size; try simp at hz1) | (go_at_call 20; refine (clockStep _ _ _ _ _).mono ?_; rintro e w1 ⟨rfl, hb1⟩; have ha1 : After _ w1 := ⟨hb1⟩; obtain ⟨hc1, hf1⟩ := after hb1; have hz1 := hb1.size; try simp at hz1) | (go_at_call 24; refine (clockOut _ _ _ _ _).mono ?_; rintro e w1 ⟨rfl, hb1⟩; have ha1 : After _ w1 := ⟨hb1⟩; obtain ⟨hc1, hf1⟩ := after hb1; have hz1 := hb1.size; try simp at hz1))
  refine ret_any ⟨_, by simp [results, Try.results19, go_sem, *]; rfl, ?_⟩ rfl
  refine gives_of rfl (by repeat (first | with_reducible exact Below.refl _ _ | (with_reducible refine Below.alloc ?_ ?_ _; rotate_left; focus ((try simp) <;> omega)) | (with_reducible refine Below.setCell ?_ ?_ _; rotate_left; focus ((try simp) <;> omega)) | (with_reducible refine below_grow ?_ ?_; rotate_left; focus ((try simp) <;> omega)) | (with_reducible refine below_putB ?_ ?_; rotate_left; focus ((try simp) <;> omega)) | with_reducible refine Below.drew ?_ | with_reducible refine below_drewN ?_ | with_reducible assumption | (with_reducible refine below_step (by assumption) ?_ ?_; rotate_left; focus ((try simp) <;> omega))))

/-- A slice of numbers below 2^32. -/
theorem fit_row32 {w : World} {n t : Nat} {cs : List Value} (ht : t = 31) (h : FitW Try.prog w (n + 2) t cs) : ∃ (a : Option Addr) (len cap : Nat), cs = [.slice a len cap] ∧ len ≤ maxLen ∧
    ∀ i, i < len → ∃ b off x, a = some ⟨b, off, none⟩ ∧ b < w.heap.size ∧ w.cell? ⟨b, off + i, none⟩ = some (.int .u32 x) ∧ 0 ≤ x ∧ x ≤ 4294967295 := by
  subst ht
  obtain ⟨a, len, cap, h1, h2, h3, h4, h5⟩ := fit_slice Try.underlying31 (show Try.prog.cellsOf 22 = 1 by kernel_rfl) (by omega) h
  refine ⟨a, len, cap, h1, by omega, fun i hi => ?_⟩
  obtain ⟨b, off, es, e1, e2, e3, e4, e5⟩ := h5 i hi
  obtain ⟨x, rfl, hx⟩ := fit_u32 Try.underlying22 e5
  refine ⟨b, off, x, e1, e2, ?_, hx⟩
  simpa using e4 0 (by omega)
theorem clockAll_ok (v0 v1 : Value) (w : World) (h0 : Arg Try.prog w 24 v0) (h1 : Arg Try.prog w 22 v1) : Calls Try.prog 3 #[v0, v1] w (Gives (.bool true) w) := by
  obtain ⟨y, o, l, rfl, ho, ho', hl, hl'⟩ := arg_clock h0
  obtain ⟨i, rfl, hi, hi'⟩ := arg_u32 Try.underlying22 h1
  clear h0 h1
  go_enter Try.func3, Try.ntmps3
  go_wp2_with (first | (go_at_call 19; refine (shown15 _).mono ?_; rintro e w1 ⟨rfl, hb1⟩; have ha1 : After _ w1 := ⟨hb1⟩; obtain ⟨hc1, hf1⟩ := after hb1; have hz1 := hb1.size; try simp at hz1) | (go_at_call 20; refine (clockStep _ _ _ _ _).mono ?_; rintro e w1 ⟨rfl, hb1⟩; have ha1 : After _ w1 := ⟨hb1⟩; obtain ⟨hc1, hf1⟩ := after hb1; have hz1 := hb1.size; try simp at hz1) | (go_at_call 21; refine (refClockStep _ _ _ _ _ (by omega) (by omega) (by omega) (by omega)).mono ?_; rintro e w1 ⟨rfl, hb1⟩; have ha1 : After _ w1 := ⟨hb1⟩; obtain ⟨hc1, hf1⟩ := after hb1; have hz1 := hb1.size; try simp at hz1))
  refine wp_region_quiet_below (by kernel_rfl) (by kernel_rfl) ?_
  repeat (first | go_big_quiet_step (((first | (go_at_call 22; exact Calls.regrown_gives (clockStart _ _ _ _ _)) | (go_at_call 23; exact Calls.regrown_gives (refStart _ _ _ _ _ hl hl' hi hi')) | (go_at_call 24; exact Calls.regrown_gives (clockOut _ _ _ _ _)) | (go_at_call 25; exact Calls.regrown_gives (refTimeOut _ _ _ _ _ ho ho' hi hi'))))) | quiet_step (((first | (go_at_call 22; exact Calls.regrown_gives (clockStart _ _ _ _ _)) | (go_at_call 23; exact Calls.regrown_gives (refStart _ _ _ _ _ hl hl' hi hi')) | (go_at_call 24; exact Calls.regrown_gives (clockOut _ _ _ _ _)) | (go_at_call 25; exact Calls.regrown_gives (refTimeOut _ _ _ _ _ ho ho' hi hi'))))))
  refine wpQuiet_nil ?_
  intro _ hw'
  obtain ⟨⟨dq, osq⟩, hw''⟩ := hw'
  subst hw''
  go_wp2
  all_goals refine ret_any ⟨_, by simp [results, Try.results3, go_sem, *]; rfl, ?_⟩ rfl
  all_goals refine gives_of rfl (by repeat (first | with_reducible exact Below.refl _ _ | (with_reducible refine Below.alloc ?_ ?_ _; rotate_left; focus ((try simp) <;> omega)) | (with_reducible refine Below.setCell ?_ ?_ _; rotate_left; focus ((try simp) <;> omega)) | (with_reducible refine below_grow ?_ ?_; rotate_left; focus ((try simp) <;> omega)) | (with_reducible refine below_putB ?_ ?_; rotate_left; focus ((try simp) <;> omega)) | with_reducible refine Below.drew ?_ | with_reducible refine below_drewN ?_ | with_reducible assumption | (with_reducible refine below_step (by assumption) ?_ ?_; rotate_left; focus ((try simp) <;> omega))))
end Go.Proofs.Ytplhgpeeekjfcaa
