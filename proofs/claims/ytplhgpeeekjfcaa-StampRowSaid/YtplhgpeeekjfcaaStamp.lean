/-
  Out, Whose, New and Report of stamp and of the reference, each by its contract. No condition but that the numbers fit their kinds.
-/
import Derived.Test.YtplhgpeeekjfcaaGate
import Derived.Test.YtplhgpeeekjfcaaClock
namespace Go.Proofs.Ytplhgpeeekjfcaa
open Go.RowKit Go.Sort Go.BigFrame
set_option linter.unusedVariables false
theorem inYes (n m : Int) (w : World) (h1 : 1 ≤ n) (h2 : n ≤ m) : Calls Try.prog 60 #[.int .i64 n, .int .i64 m] w fun e w' => e = .returned (.bool true) ∧ w = w' := by
  go_enter Try.func60, Try.ntmps60
  go_wp2
  refine ret_any ⟨_, by simp [results, Try.results60, go_sem]; rfl, ?_⟩ rfl
  exact ⟨rfl, rfl⟩
theorem inNo (n m : Int) (w : World) (h : n < 1 ∨ m < n) : Calls Try.prog 60 #[.int .i64 n, .int .i64 m] w fun e w' => e = .returned (.bool false) ∧ w = w' := by
  by_cases h1 : n < 1
  · clear h
    go_enter Try.func60, Try.ntmps60
    go_wp2
    refine ret_any ⟨_, by simp [results, Try.results60, go_sem]; rfl, ?_⟩ rfl
    exact ⟨rfl, rfl⟩
  · have h2 : ¬ n ≤ m := by omega
    clear h
    go_enter Try.func60, Try.ntmps60
    go_wp2
    refine ret_any ⟨_, by simp [results, Try.results60, go_sem]; rfl, ?_⟩ rfl
    exact ⟨rfl, rfl⟩
def inR (p s : Int) : Prop := 1 ≤ p ∧ p ≤ 8 ∧ 1 ≤ s ∧ s ≤ 8
theorem outYes (p s : Int) (w : World) (h : inR p s) : Calls Try.prog 52 #[.int .i64 p, .int .i64 s] w fun e w' => e = .returned (.int .u32 (3221225472 + 256 * p + s)) ∧ w = w' := by
  obtain ⟨h1, h2, h3, h4⟩ := h
  go_enter Try.func52, Try.ntmps52
  go_wp2_with (go_at_call 60; refine (inYes _ _ _ (by omega) (by omega)).mono ?_; rintro e w' ⟨rfl, rfl⟩)
  refine ret_any ⟨_, by simp [results, Try.results52, go_sem]; rfl, ?_⟩ rfl
  refine ⟨congrArg (fun n => Ending.returned (Value.int .u32 n)) ?_, rfl⟩
  omega
theorem outNo (p s : Int) (w : World) (h : ¬ inR p s) : Calls Try.prog 52 #[.int .i64 p, .int .i64 s] w fun e w' => e = .returned (.int .u32 0) ∧ w = w' := by
  unfold inR at h
  by_cases hp : 1 ≤ p ∧ p ≤ 8
  · obtain ⟨h1, h2⟩ := hp
    have h3 : s < 1 ∨ 8 < s := by omega
    clear h
    have k1 := fun w => inYes p 8 w h1 h2
    have k2 := fun w => inNo s 8 w h3
    clear h3
    go_enter Try.func52, Try.ntmps52
    go_wp2_with fail
    refine (k1 _).mono ?_; rintro e w' ⟨rfl, rfl⟩
    go_wp2_with fail
    refine (k2 _).mono ?_; rintro e w' ⟨rfl, rfl⟩
    go_wp2_with fail
    refine ret_any ⟨_, by simp [results, Try.results52, go_sem]; rfl, ?_⟩ rfl
    exact ⟨rfl, rfl⟩
  · have h3 : p < 1 ∨ 8 < p := by omega
    clear h
    have k1 := fun w => inNo p 8 w h3
    clear h3 hp
    go_enter Try.func52, Try.ntmps52
    go_wp2_with fail
    refine (k1 _).mono ?_; rintro e w' ⟨rfl, rfl⟩
    go_wp2_with fail
    refine ret_any ⟨_, by simp [results, Try.results52, go_sem]; rfl, ?_⟩ rfl
    exact ⟨rfl, rfl⟩
theorem refOutYes (p s : Int) (w : World) (h : inR p s) : Calls Try.prog 53 #[.int .i64 p, .int .i64 s] w fun e w' => e = .returned (.int .u32 (3221225472 + 256 * p + s)) ∧ w = w' := by
  obtain ⟨h1, h2, h3, h4⟩ := h
  go_enter Try.func53, Try.ntmps53
  go_wp2
  refine ret_any ⟨_, by simp [results, Try.results53, go_sem]; rfl, ?_⟩ rfl
  refine ⟨congrArg (fun n => Ending.returned (Value.int .u32 n)) ?_, rfl⟩
  omega
theorem refOutNo (p s : Int) (w : World) (h : ¬ inR p s) : Calls Try.prog 53 #[.int .i64 p, .int .i64 s] w fun e w' => e = .returned (.int .u32 0) ∧ w = w' := by
  unfold inR at h
  have h' : p < 1 ∨ (1 ≤ p ∧ 8 < p) ∨ (1 ≤ p ∧ p ≤ 8 ∧ s < 1) ∨ (1 ≤ p ∧ p ≤ 8 ∧ 1 ≤ s ∧ 8 < s) := by omega
  clear h
  rcases h' with h | ⟨h, h1⟩ | ⟨h, h1, h2⟩ | ⟨h, h1, h2, h3⟩
  all_goals
    go_enter Try.func53, Try.ntmps53
    go_wp2
    refine ret_any ⟨_, by simp [results, Try.results53, go_sem]; rfl, ?_⟩ rfl
    exact ⟨rfl, rfl⟩
theorem whoseYes (x P S : Int) (w : World) (hx : 0 ≤ x) (hx' : x ≤ 4294967295) (hP : (x - 3221225472) % 4294967296 / 256 = P) (hS : (x - 3221225472) % 4294967296 % 256 = S) (h : inR P S) :
    Calls Try.prog 50 #[.int .u32 x] w fun e w' => e = .returned (.tuple #[.int .i64 P, .int .i64 S, .bool true]) ∧ w = w' := by
  have hh := h
  obtain ⟨h1, h2, h3, h4⟩ := h
  have f1 : ((3221225472 + 256 * P + S : Int) == 0) = false := by simp; omega
  have f2 : ((3221225472 + 256 * P + S : Int) != x) = false := by simp; omega
  have hP' : (x - 3221225472) / 256 = P := by omega
  have hS' : (x - 3221225472) % 256 = S := by omega
  have h5 : 3221225472 ≤ x := by omega
  clear hP hS
  go_enter Try.func50, Try.ntmps50
  go_wp2_with fail
  refine (outYes _ _ _ hh).mono ?_; rintro e w' ⟨rfl, rfl⟩
  go_wp2_with fail
  refine ret_any ⟨_, by simp [results, Try.results50, go_sem]; rfl, ?_⟩ rfl
  exact ⟨rfl, rfl⟩
theorem whoseNo (x P S : Int) (w : World) (hx : 0 ≤ x) (hx' : x ≤ 4294967295) (hP : (x - 3221225472) % 4294967296 / 256 = P) (hS : (x - 3221225472) % 4294967296 % 256 = S) (h : ¬ inR P S) :
    Calls Try.prog 50 #[.int .u32 x] w fun e w' => e = .returned (.tuple #[.int .i64 0, .int .i64 0, .bool false]) ∧ w = w' := by
  go_enter Try.func50, Try.ntmps50
  go_wp2_with (go_at_call 52; refine (outNo _ _ _ h).mono ?_; rintro e w' ⟨rfl, rfl⟩)
  refine ret_any ⟨_, by simp [results, Try.results50, go_sem]; rfl, ?_⟩ rfl
  exact ⟨rfl, rfl⟩
theorem refWhoseYes (x P S : Int) (w : World) (hx : x = 3221225472 + 256 * P + S) (h : inR P S) :
    Calls Try.prog 51 #[.int .u32 x] w fun e w' => e = .returned (.tuple #[.int .i64 P, .int .i64 S, .bool true]) ∧ w = w' := by
  have HX := Lib.hid hx
  obtain ⟨h1, h2, h3, h4⟩ := h
  clear hx
  go_enter Try.func51, Try.ntmps51
  go_wp2
  go_loop [5] (fun s5 => ∃ p : Int, 1 ≤ p ∧ p ≤ P ∧ s5 = .int .i64 p) (fun s5 => (9 - intOf s5).toNat)
  case atStart => exact ⟨1, by omega, by omega, rfl⟩
  case round =>
    obtain ⟨p, hp1, hp2, rfl⟩ := hrel
    go_wp2
    go_loop [6] (fun s6 => ∃ s : Int, 1 ≤ s ∧ s ≤ 9 ∧ (p = P → s ≤ S) ∧ s6 = .int .i64 s) (fun s6 => (10 - intOf s6).toNat)
    case atStart => exact ⟨1, by omega, by omega, fun _ => h3, rfl⟩
    case round =>
      obtain ⟨s, hs1, hs2, hs3, rfl⟩ := hrel
      by_cases hs : s ≤ 8
      · by_cases he : p = P ∧ s = S
        · obtain ⟨rfl, rfl⟩ := he
          have f : ((3221225472 + 256 * p + s : Int) == x) = true := by have := HX.out; simp; omega
          clear hs3
          go_wp2_with (go_at_call 53; refine (refOutYes _ _ _ ⟨hp1, h2, hs1, hs⟩).mono ?_; rintro e w' ⟨rfl, rfl⟩)
          refine ret_any ⟨_, by simp [results, Try.results51, go_sem]; rfl, ?_⟩ rfl
          exact ⟨rfl, rfl⟩
        · have f : ((3221225472 + 256 * p + s : Int) == x) = false := by have := HX.out; simp; omega
          have HS := Lib.hid hs3
          have HE := Lib.hid he
          clear hs3 he
          go_wp2_with (go_at_call 53; refine (refOutYes _ _ _ ⟨hp1, by omega, hs1, hs⟩).mono ?_; rintro e w' ⟨rfl, rfl⟩)
          go_round
          case rel => exact ⟨s + 1, by omega, by omega, fun e => by have a := HS.out e; have b := HE.out; omega, by go_num⟩
          case measure => simp [intOf]; omega
      · have hpP : p < P := by omega
        clear hs3
        go_wp2
        go_round
        case rel => exact ⟨p + 1, by omega, by omega, by go_num⟩
        case measure => simp [intOf]; omega
theorem refWhoseNo (x : Int) (w : World) (h : ∀ p s, inR p s → x ≠ 3221225472 + 256 * p + s) :
    Calls Try.prog 51 #[.int .u32 x] w fun e w' => e = .returned (.tuple #[.int .i64 0, .int .i64 0, .bool false]) ∧ w = w' := by
  have H := Lib.hid h
  clear h
  go_enter Try.func51, Try.ntmps51
  go_wp2
  go_loop [5] (fun s5 => ∃ p : Int, 1 ≤ p ∧ p ≤ 9 ∧ s5 = .int .i64 p) (fun s5 => (9 - intOf s5).toNat)
  case atStart => exact ⟨1, by omega, by omega, rfl⟩
  case round =>
    obtain ⟨p, hp1, hp2, rfl⟩ := hrel
    by_cases hp : p ≤ 8
    · go_wp2
      go_loop [6] (fun s6 => ∃ s : Int, 1 ≤ s ∧ s ≤ 9 ∧ s6 = .int .i64 s) (fun s6 => (9 - intOf s6).toNat)
      case atStart => exact ⟨1, by omega, by omega, rfl⟩
      case round =>
        obtain ⟨s, hs1, hs2, rfl⟩ := hrel
        by_cases hs : s ≤ 8
        · have f : ((3221225472 + 256 * p + s : Int) == x) = false := by have := H.out p s ⟨hp1, hp, hs1, hs⟩; simp; omega
          go_wp2_with (go_at_call 53; refine (refOutYes _ _ _ ⟨hp1, hp, hs1, hs⟩).mono ?_; rintro e w' ⟨rfl, rfl⟩)
          go_round
          case rel => exact ⟨s + 1, by omega, by omega, by go_num⟩
          case measure => simp [intOf]; omega
        · go_wp2
          go_round
          case rel => exact ⟨p + 1, by omega, by omega, by go_num⟩
          case measure => simp [intOf]; omega
    · go_wp2
      refine ret_any ⟨_, by simp [results, Try.results51, go_sem]; rfl, ?_⟩ rfl
      exact ⟨rfl, rfl⟩
def outV (p s : Int) : Int := if 1 ≤ p ∧ p ≤ 8 ∧ 1 ≤ s ∧ s ≤ 8 then 3221225472 + 256 * p + s else 0
theorem out_any (p s : Int) (w : World) : Calls Try.prog 52 #[.int .i64 p, .int .i64 s] w fun e w' => e = .returned (.int .u32 (outV p s)) ∧ w = w' := by
  by_cases h : 1 ≤ p ∧ p ≤ 8 ∧ 1 ≤ s ∧ s ≤ 8
  · unfold outV; rw [if_pos h]; exact outYes p s w h
  · unfold outV; rw [if_neg h]; exact outNo p s w h
theorem refOut_any (p s : Int) (w : World) : Calls Try.prog 53 #[.int .i64 p, .int .i64 s] w fun e w' => e = .returned (.int .u32 (outV p s)) ∧ w = w' := by
  by_cases h : 1 ≤ p ∧ p ≤ 8 ∧ 1 ≤ s ∧ s ≤ 8
  · unfold outV; rw [if_pos h]; exact refOutYes p s w h
  · unfold outV; rw [if_neg h]; exact refOutNo p s w h
def track (ga gc : Int) (gp gm : Bool) (cl : Bool) (ci co cn : Int) (ka : Bool) (ko kl : Int) (out fr se oc : Int) : Value :=
  .agg #[.int .i64 ga, .int .i64 gc, .bool gp, .bool gm, .bool cl, .int .u16 ci, .int .u16 co, .int .u16 cn, .bool ka, .int .u32 ko, .int .u32 kl, .int .u32 out, .int .u16 fr, .int .u32 se, .int .u32 oc]
theorem stampNew (p s l : Int) (w : World) : Calls Try.prog 48 #[.int .i64 p, .int .i64 s, .int .i64 l] w (Gives (track (heldV l) (-1) false false false 0 0 0 false 0 0 (outV p s) 65535 0 0) w) := by
  go_enter Try.func48, Try.ntmps48
  go_wp2_with (first | (go_at_call 41; refine (gateNew _ _).mono ?_; rintro e w1 ⟨rfl, hb1⟩; have ha1 : After _ w1 := ⟨hb1⟩; obtain ⟨hc1, hf1⟩ := after hb1; have hz1 := hb1.size; try simp at hz1) | (go_at_call 52; refine (out_any _ _ _).mono ?_; rintro e w' ⟨rfl, rfl⟩))
  refine ret_any ⟨_, by simp [results, Try.results48, go_sem, *]; rfl, ?_⟩ rfl
  refine gives_of rfl (by repeat (first | with_reducible exact Below.refl _ _ | (with_reducible refine Below.alloc ?_ ?_ _; rotate_left; focus ((try simp) <;> omega)) | (with_reducible refine Below.setCell ?_ ?_ _; rotate_left; focus ((try simp) <;> omega)) | (with_reducible refine below_grow ?_ ?_; rotate_left; focus ((try simp) <;> omega)) | (with_reducible refine below_putB ?_ ?_; rotate_left; focus ((try simp) <;> omega)) | with_reducible refine Below.drew ?_ | with_reducible refine below_drewN ?_ | with_reducible assumption | (with_reducible refine below_step (by assumption) ?_ ?_; rotate_left; focus ((try simp) <;> omega))))
theorem refTrack (p s l : Int) (w : World) : Calls Try.prog 49 #[.int .i64 p, .int .i64 s, .int .i64 l] w (Gives (track (heldV l) (-1) false false false 0 0 0 false 0 0 (outV p s) 65535 0 0) w) := by
  go_enter Try.func49, Try.ntmps49
  go_wp2_with (first | (go_at_call 42; refine (refNewGate _ _).mono ?_; rintro e w1 ⟨rfl, hb1⟩; have ha1 : After _ w1 := ⟨hb1⟩; obtain ⟨hc1, hf1⟩ := after hb1; have hz1 := hb1.size; try simp at hz1) | (go_at_call 53; refine (refOut_any _ _ _).mono ?_; rintro e w' ⟨rfl, rfl⟩))
  refine ret_any ⟨_, by simp [results, Try.results49, go_sem, *]; rfl, ?_⟩ rfl
  refine gives_of rfl (by repeat (first | with_reducible exact Below.refl _ _ | (with_reducible refine Below.alloc ?_ ?_ _; rotate_left; focus ((try simp) <;> omega)) | (with_reducible refine Below.setCell ?_ ?_ _; rotate_left; focus ((try simp) <;> omega)) | (with_reducible refine below_grow ?_ ?_; rotate_left; focus ((try simp) <;> omega)) | (with_reducible refine below_putB ?_ ?_; rotate_left; focus ((try simp) <;> omega)) | with_reducible refine Below.drew ?_ | with_reducible refine below_drewN ?_ | with_reducible assumption | (with_reducible refine below_step (by assumption) ?_ ?_; rotate_left; focus ((try simp) <;> omega))))
end Go.Proofs.Ytplhgpeeekjfcaa
