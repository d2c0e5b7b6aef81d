/-
  Report of stamp and of the reference, by contract; what a track that is new shows; the law StampWhose as a walk. No condition but that the arguments fit their types.
-/
import Derived.Test.YtplhgpeeekjfcaaStamp
namespace Go.Proofs.Ytplhgpeeekjfcaa
open Go.RowKit Go.Sort Go.BigFrame
set_option linter.unusedVariables false
attribute [local go_sem ↓] Go.wp_at_zero Go.wp_at_succ
def whoseP (x : Int) : Int := (x - 3221225472) % 4294967296 / 256
def whoseS (x : Int) : Int := (x - 3221225472) % 4294967296 % 256
def whoseB (x : Int) : Bool := decide (1 ≤ whoseP x ∧ whoseP x ≤ 8 ∧ 1 ≤ whoseS x ∧ whoseS x ≤ 8)
def whoseV (x : Int) : Value := .tuple #[.int .i64 (if whoseB x then whoseP x else 0), .int .i64 (if whoseB x then whoseS x else 0), .bool (whoseB x)]
theorem whose_any (x : Int) (w : World) (hx : 0 ≤ x) (hx' : x ≤ 4294967295) : Calls Try.prog 50 #[.int .u32 x] w fun e w' => e = .returned (whoseV x) ∧ w = w' := by
  by_cases h : whoseB x = true
  · have hr : inR (whoseP x) (whoseS x) := (by have h' := h; unfold whoseB at h'; have z := of_decide_eq_true h'; exact z)
    have := whoseYes x _ _ w hx hx' rfl rfl hr
    unfold whoseV
    rw [h, if_pos rfl, if_pos rfl]
    exact this
  · have h0 : whoseB x = false := by simpa using h
    have hr : ¬ inR (whoseP x) (whoseS x) := (by have h' := h0; unfold whoseB at h'; have z := of_decide_eq_false h'; exact z)
    have := whoseNo x _ _ w hx hx' rfl rfl hr
    unfold whoseV
    rw [h0, if_neg (by simp), if_neg (by simp)]
    exact this
theorem refWhose_any (x : Int) (w : World) (hx : 0 ≤ x) (hx' : x ≤ 4294967295) : Calls Try.prog 51 #[.int .u32 x] w fun e w' => e = .returned (whoseV x) ∧ w = w' := by
  by_cases h : whoseB x = true
  · have hr : inR (whoseP x) (whoseS x) := (by have h' := h; unfold whoseB at h'; have z := of_decide_eq_true h'; exact z)
    have := refWhoseYes x _ _ w (by obtain ⟨a, b, c, d⟩ := hr; unfold whoseP whoseS at *; omega) hr
    unfold whoseV
    rw [h, if_pos rfl, if_pos rfl]
    exact this
  · have h0 : whoseB x = false := by simpa using h
    have hn : ¬ inR (whoseP x) (whoseS x) := (by have h' := h0; unfold whoseB at h'; have z := of_decide_eq_false h'; exact z)
    have := refWhoseNo x w (fun p s hr e => hn (by obtain ⟨a, b, c, d⟩ := hr; unfold inR whoseP whoseS; omega))
    unfold whoseV
    rw [h0, if_neg (by simp), if_neg (by simp)]
    exact this
/-- Who hears by what Out told. -/
theorem whose_out (p s : Int) : (1 ≤ p ∧ p ≤ 8 ∧ 1 ≤ s ∧ s ≤ 8 ∧ outV p s = 3221225472 + 256 * p + s ∧ whoseV (outV p s) = .tuple #[.int .i64 p, .int .i64 s, .bool true]) ∨ (outV p s = 0 ∧ whoseV (outV p s) = .tuple #[.int .i64 0, .int .i64 0, .bool false]) := by
  by_cases h : 1 ≤ p ∧ p ≤ 8 ∧ 1 ≤ s ∧ s ≤ 8
  · left
    obtain ⟨a, b, c, d⟩ := h
    have e : outV p s = 3221225472 + 256 * p + s := by unfold outV; rw [if_pos ⟨a, b, c, d⟩]
    have e1 : whoseP (outV p s) = p := by unfold whoseP; rw [e]; omega
    have e2 : whoseS (outV p s) = s := by unfold whoseS; rw [e]; omega
    have e3 : whoseB (outV p s) = true := by unfold whoseB; rw [e1, e2]; exact decide_eq_true ⟨a, b, c, d⟩
    refine ⟨a, b, c, d, e, ?_⟩
    unfold whoseV
    rw [e3, e1, e2]
    rfl
  · right
    have e : outV p s = 0 := by unfold outV; rw [if_neg h]
    rw [e]
    exact ⟨rfl, by unfold whoseV; rfl⟩
def itemV (k s n t p o : Int) : Value := .agg #[.int .i64 k, .int .u32 s, .int .u64 n, .int .u32 t, .int .u32 p, .int .u32 o, .slice none 0 0, .slice none 0 0, .int .u32 0, .slice none 0 0]
theorem reportQuiet (ga gc : Int) (gp gm cl : Bool) (ci co cn : Int) (ka : Bool) (ko kl out fr se oc : Int) (i0 i1 i2 i3 i4 i5 i6 i7 i8 i9 : Value) (l : Int) (w : World) (h : (gp || gm) = true) :
    Calls Try.prog 46 #[track ga gc gp gm cl ci co cn ka ko kl out fr se oc, .agg #[i0, i1, i2, i3, i4, i5, i6, i7, i8, i9], .int .i64 l] w (Gives (.tuple #[itemV 0 0 0 0 0 0, .int .i64 4]) w) := by
  unfold track itemV
  go_enter Try.func46, Try.ntmps46
  go_wp2_with (go_at_call 39; refine (quietG _ _ _ _ _).mono ?_; rintro e w1 ⟨rfl, hb1⟩; have ha1 : After _ w1 := ⟨hb1⟩; obtain ⟨hc1, hf1⟩ := after hb1; have hz1 := hb1.size; try simp at hz1)
  refine ret_any ⟨_, by simp [results, Try.results46, go_sem, *]; rfl, ?_⟩ rfl
  refine gives_of rfl (by repeat (first | with_reducible exact Below.refl _ _ | (with_reducible refine Below.alloc ?_ ?_ _; rotate_left; focus ((try simp) <;> omega)) | (with_reducible refine Below.setCell ?_ ?_ _; rotate_left; focus ((try simp) <;> omega)) | (with_reducible refine below_grow ?_ ?_; rotate_left; focus ((try simp) <;> omega)) | (with_reducible refine below_putB ?_ ?_; rotate_left; focus ((try simp) <;> omega)) | with_reducible refine Below.drew ?_ | with_reducible refine below_drewN ?_ | with_reducible assumption | (with_reducible refine below_step (by assumption) ?_ ?_; rotate_left; focus ((try simp) <;> omega))))
theorem reportGated (ga gc : Int) (gp gm cl : Bool) (ci co cn : Int) (ka : Bool) (ko kl out fr se oc : Int) (kd : Int) (i1 i2 i3 i4 i5 i6 i7 i8 i9 : Value) (l : Int) (w : World) (h : (gp || gm) = false) (h2 : l ≠ gc ∨ kd ≠ 200) :
    Calls Try.prog 46 #[track ga gc gp gm cl ci co cn ka ko kl out fr se oc, .agg #[.int .i64 kd, i1, i2, i3, i4, i5, i6, i7, i8, i9], .int .i64 l] w (Gives (.tuple #[itemV 0 0 0 0 0 0, .int .i64 3]) w) := by
  by_cases h3 : l = gc
  · have h4 : (kd != 200) = true := by rcases h2 with e | e; exact absurd h3 e; simpa using e
    subst h3
    clear h2
    unfold track itemV
    go_enter Try.func46, Try.ntmps46
    go_wp2_with (go_at_call 39; refine (quietG _ _ _ _ _).mono ?_; rintro e w1 ⟨rfl, hb1⟩; have ha1 : After _ w1 := ⟨hb1⟩; obtain ⟨hc1, hf1⟩ := after hb1; have hz1 := hb1.size; try simp at hz1)
    refine ret_any ⟨_, by simp [results, Try.results46, go_sem, *]; rfl, ?_⟩ rfl
    refine gives_of rfl (by repeat (first | with_reducible exact Below.refl _ _ | (with_reducible refine Below.alloc ?_ ?_ _; rotate_left; focus ((try simp) <;> omega)) | (with_reducible refine Below.setCell ?_ ?_ _; rotate_left; focus ((try simp) <;> omega)) | (with_reducible refine below_grow ?_ ?_; rotate_left; focus ((try simp) <;> omega)) | (with_reducible refine below_putB ?_ ?_; rotate_left; focus ((try simp) <;> omega)) | with_reducible refine Below.drew ?_ | with_reducible refine below_drewN ?_ | with_reducible assumption | (with_reducible refine below_step (by assumption) ?_ ?_; rotate_left; focus ((try simp) <;> omega))))
  · have h4 : (l != gc) = true := by simpa using h3
    clear h2 h3
    unfold track itemV
    go_enter Try.func46, Try.ntmps46
    go_wp2_with (go_at_call 39; refine (quietG _ _ _ _ _).mono ?_; rintro e w1 ⟨rfl, hb1⟩; have ha1 : After _ w1 := ⟨hb1⟩; obtain ⟨hc1, hf1⟩ := after hb1; have hz1 := hb1.size; try simp at hz1)
    refine ret_any ⟨_, by simp [results, Try.results46, go_sem, *]; rfl, ?_⟩ rfl
    refine gives_of rfl (by repeat (first | with_reducible exact Below.refl _ _ | (with_reducible refine Below.alloc ?_ ?_ _; rotate_left; focus ((try simp) <;> omega)) | (with_reducible refine Below.setCell ?_ ?_ _; rotate_left; focus ((try simp) <;> omega)) | (with_reducible refine below_grow ?_ ?_; rotate_left; focus ((try simp) <;> omega)) | (with_reducible refine below_putB ?_ ?_; rotate_left; focus ((try simp) <;> omega)) | with_reducible refine Below.drew ?_ | with_reducible refine below_drewN ?_ | with_reducible assumption | (with_reducible refine below_step (by assumption) ?_ ?_; rotate_left; focus ((try simp) <;> omega))))
theorem reportSent (ga gc : Int) (gp gm cl : Bool) (ci co cn : Int) (ka : Bool) (ko kl out fr se oc : Int) (nt tm : Int) (i1 i4 i5 i6 i7 i8 i9 : Value) (w : World) (h : (gp || gm) = false) (ho : 0 ≤ ko) (ho' : ko ≤ 4294967295) (ht : 0 ≤ tm) (ht' : tm ≤ 4294967295) :
    Calls Try.prog 46 #[track ga gc gp gm cl ci co cn ka ko kl out fr se oc, .agg #[.int .i64 200, i1, .int .u64 nt, .int .u32 tm, i4, i5, i6, i7, i8, i9], .int .i64 gc] w (Gives (.tuple #[itemV 200 out nt ((tm + ko) % 4294967296) se oc, .int .i64 1]) w) := by
  unfold track itemV
  go_enter Try.func46, Try.ntmps46
  go_wp2_with (go_at_call 39; refine (quietG _ _ _ _ _).mono ?_; rintro e w1 ⟨rfl, hb1⟩; have ha1 : After _ w1 := ⟨hb1⟩; obtain ⟨hc1, hf1⟩ := after hb1; have hz1 := hb1.size; try simp at hz1)
  refine wp_region_below_tail 14 (by kernel_rfl) (by kernel_rfl) ?_
  simp only [List.take_succ_cons, List.take_zero, List.drop_succ_cons, List.drop_zero]
  repeat (first | go_big_quiet_step ((go_at_call 24; exact Calls.regrown_gives (clockOut _ _ _ _ _))) | quiet_step ((go_at_call 24; exact Calls.regrown_gives (clockOut _ _ _ _ _))))
  refine wpQuiet_nil ?_
  intro _ hw'
  obtain ⟨⟨dq, osq⟩, hw''⟩ := hw'
  subst hw''
  go_wp2
  refine ret_any ⟨_, by simp [results, Try.results46, go_sem, *]; rfl, ?_⟩ rfl
  refine gives_of rfl (by repeat (first | with_reducible exact Below.refl _ _ | (with_reducible refine Below.alloc ?_ ?_ _; rotate_left; focus ((try simp) <;> omega)) | (with_reducible refine Below.setCell ?_ ?_ _; rotate_left; focus ((try simp) <;> omega)) | (with_reducible refine below_grow ?_ ?_; rotate_left; focus ((try simp) <;> omega)) | (with_reducible refine below_putB ?_ ?_; rotate_left; focus ((try simp) <;> omega)) | with_reducible refine Below.drew ?_ | with_reducible refine below_drewN ?_ | with_reducible assumption | (with_reducible refine below_step (by assumption) ?_ ?_; rotate_left; focus ((try simp) <;> omega))))
theorem refReportQuiet (ga gc : Int) (gp gm cl : Bool) (ci co cn : Int) (ka : Bool) (ko kl out fr se oc : Int) (i0 i1 i2 i3 i4 i5 i6 i7 i8 i9 : Value) (l : Int) (w : World) (h : (gp || gm) = true) :
    Calls Try.prog 47 #[track ga gc gp gm cl ci co cn ka ko kl out fr se oc, .agg #[i0, i1, i2, i3, i4, i5, i6, i7, i8, i9], .int .i64 l] w (Gives (.tuple #[itemV 0 0 0 0 0 0, .int .i64 4]) w) := by
  unfold track itemV
  go_enter Try.func47, Try.ntmps47
  go_wp2_with (go_at_call 57; refine (refQuiet _ _ _ _ _).mono ?_; rintro e w1 ⟨rfl, hb1⟩; have ha1 : After _ w1 := ⟨hb1⟩; obtain ⟨hc1, hf1⟩ := after hb1; have hz1 := hb1.size; try simp at hz1)
  refine ret_any ⟨_, by simp [results, Try.results47, go_sem, *]; rfl, ?_⟩ rfl
  refine gives_of rfl (by repeat (first | with_reducible exact Below.refl _ _ | (with_reducible refine Below.alloc ?_ ?_ _; rotate_left; focus ((try simp) <;> omega)) | (with_reducible refine Below.setCell ?_ ?_ _; rotate_left; focus ((try simp) <;> omega)) | (with_reducible refine below_grow ?_ ?_; rotate_left; focus ((try simp) <;> omega)) | (with_reducible refine below_putB ?_ ?_; rotate_left; focus ((try simp) <;> omega)) | with_reducible refine Below.drew ?_ | with_reducible refine below_drewN ?_ | with_reducible assumption | (with_reducible refine below_step (by assumption) ?_ ?_; rotate_left; focus ((try simp) <;> omega))))
theorem refReportGated (ga gc : Int) (gp gm cl : Bool) (ci co cn : Int) (ka : Bool) (ko kl out fr se oc : Int) (kd : Int) (i1 i2 i3 i4 i5 i6 i7 i8 i9 : Value) (l : Int) (w : World) (h : (gp || gm) = false) (h2 : l ≠ gc ∨ kd ≠ 200) :
    Calls Try.prog 47 #[track ga gc gp gm cl ci co cn ka ko kl out fr se oc, .agg #[.int .i64 kd, i1, i2, i3, i4, i5, i6, i7, i8, i9], .int .i64 l] w (Gives (.tuple #[itemV 0 0 0 0 0 0, .int .i64 3]) w) := by
  by_cases h3 : l = gc
  · have h4 : (kd != 200) = true := by rcases h2 with e | e; exact absurd h3 e; simpa using e
    subst h3
    clear h2
    unfold track itemV
    go_enter Try.func47, Try.ntmps47
    go_wp2_with (go_at_call 57; refine (refQuiet _ _ _ _ _).mono ?_; rintro e w1 ⟨rfl, hb1⟩; have ha1 : After _ w1 := ⟨hb1⟩; obtain ⟨hc1, hf1⟩ := after hb1; have hz1 := hb1.size; try simp at hz1)
    refine ret_any ⟨_, by simp [results, Try.results47, go_sem, *]; rfl, ?_⟩ rfl
    refine gives_of rfl (by repeat (first | with_reducible exact Below.refl _ _ | (with_reducible refine Below.alloc ?_ ?_ _; rotate_left; focus ((try simp) <;> omega)) | (with_reducible refine Below.setCell ?_ ?_ _; rotate_left; focus ((try simp) <;> omega)) | (with_reducible refine below_grow ?_ ?_; rotate_left; focus ((try simp) <;> omega)) | (with_reducible refine below_putB ?_ ?_; rotate_left; focus ((try simp) <;> omega)) | with_reducible refine Below.drew ?_ | with_reducible refine below_drewN ?_ | with_reducible assumption | (with_reducible refine below_step (by assumption) ?_ ?_; rotate_left; focus ((try simp) <;> omega))))
  · have h4 : (l != gc) = true := by simpa using h3
    clear h2 h3
    unfold track itemV
    go_enter Try.func47, Try.ntmps47
    go_wp2_with (go_at_call 57; refine (refQuiet _ _ _ _ _).mono ?_; rintro e w1 ⟨rfl, hb1⟩; have ha1 : After _ w1 := ⟨hb1⟩; obtain ⟨hc1, hf1⟩ := after hb1; have hz1 := hb1.size; try simp at hz1)
    refine ret_any ⟨_, by simp [results, Try.results47, go_sem, *]; rfl, ?_⟩ rfl
    refine gives_of rfl (by repeat (first | with_reducible exact Below.refl _ _ | (with_reducible refine Below.alloc ?_ ?_ _; rotate_left; focus ((try simp) <;> omega)) | (with_reducible refine Below.setCell ?_ ?_ _; rotate_left; focus ((try simp) <;> omega)) | (with_reducible refine below_grow ?_ ?_; rotate_left; focus ((try simp) <;> omega)) | (with_reducible refine below_putB ?_ ?_; rotate_left; focus ((try simp) <;> omega)) | with_reducible refine Below.drew ?_ | with_reducible refine below_drewN ?_ | with_reducible assumption | (with_reducible refine below_step (by assumption) ?_ ?_; rotate_left; focus ((try simp) <;> omega))))
theorem refReportSent (ga gc : Int) (gp gm cl : Bool) (ci co cn : Int) (ka : Bool) (ko kl out fr se oc : Int) (nt tm : Int) (i1 i4 i5 i6 i7 i8 i9 : Value) (w : World) (h : (gp || gm) = false) (ho : 0 ≤ ko) (ho' : ko ≤ 4294967295) (ht : 0 ≤ tm) (ht' : tm ≤ 4294967295) :
    Calls Try.prog 47 #[track ga gc gp gm cl ci co cn ka ko kl out fr se oc, .agg #[.int .i64 200, i1, .int .u64 nt, .int .u32 tm, i4, i5, i6, i7, i8, i9], .int .i64 gc] w (Gives (.tuple #[itemV 200 out nt ((tm + ko) % 4294967296) se oc, .int .i64 1]) w) := by
  unfold track itemV
  go_enter Try.func47, Try.ntmps47
  go_wp2_with (go_at_call 57; refine (refQuiet _ _ _ _ _).mono ?_; rintro e w1 ⟨rfl, hb1⟩; have ha1 : After _ w1 := ⟨hb1⟩; obtain ⟨hc1, hf1⟩ := after hb1; have hz1 := hb1.size; try simp at hz1)
  refine wp_region_below_tail 14 (by kernel_rfl) (by kernel_rfl) ?_
  simp only [List.take_succ_cons, List.take_zero, List.drop_succ_cons, List.drop_zero]
  repeat (first | go_big_quiet_step ((go_at_call 25; exact Calls.regrown_gives (refTimeOut _ _ _ _ _ (by omega) (by omega) (by omega) (by omega)))) | quiet_step ((go_at_call 25; exact Calls.regrown_gives (refTimeOut _ _ _ _ _ (by omega) (by omega) (by omega) (by omega)))))
  refine wpQuiet_nil ?_
  intro _ hw'
  obtain ⟨⟨dq, osq⟩, hw''⟩ := hw'
  subst hw''
  go_wp2
  refine ret_any ⟨_, by simp [results, Try.results47, go_sem, *]; rfl, ?_⟩ rfl
  refine gives_of rfl (by repeat (first | with_reducible exact Below.refl _ _ | (with_reducible refine Below.alloc ?_ ?_ _; rotate_left; focus ((try simp) <;> omega)) | (with_reducible refine Below.setCell ?_ ?_ _; rotate_left; focus ((try simp) <;> omega)) | (with_reducible refine below_grow ?_ ?_; rotate_left; focus ((try simp) <;> omega)) | (with_reducible refine below_putB ?_ ?_; rotate_left; focus ((try simp) <;> omega)) | with_reducible refine Below.drew ?_ | with_reducible refine below_drewN ?_ | with_reducible assumption | (with_reducible refine below_step (by assumption) ?_ ?_; rotate_left; focus ((try simp) <;> omega))))
end Go.Proofs.Ytplhgpeeekjfcaa
