/-
  The functions of gate that the laws reach, each by its contract. No condition but that the numbers fit their kinds.
-/
import Derived.Test.YtplhgpeeekjfcaaProg
import Derived.Test.YtplhgpeeekjfcaaBase
import Derived.Test.YtplhgpeeekjfcaaTypes
import Derived.Test.YtplhgpeeekjfcaaMore
import Derived.Deep.RegionHeld3
import Derived.Deep.DeepCutAuto
import Derived.Deep.DrawnRows
namespace Go.Proofs.Ytplhgpeeekjfcaa
open Go.RowKit Go.Sort Go.BigFrame
set_option linter.unusedVariables false
def heldV (n : Int) : Int := max 0 (min n 2)
theorem held_in (n : Int) : 0 ≤ heldV n ∧ heldV n ≤ 2 := by unfold heldV; omega
theorem held (n : Int) (w : World) :
    Calls Try.prog 59 #[.int .i64 n] w fun e w' => e = .returned (.int .i64 (heldV n)) ∧ w = w' := by
  go_enter Try.func59, Try.ntmps59
  go_wp2
  all_goals refine ret_any ⟨_, by simp [results, Try.results59, go_sem]; rfl, ?_⟩ rfl
  all_goals refine ⟨congrArg (fun n => Ending.returned (Value.int .i64 n)) ?_, rfl⟩
  all_goals (unfold heldV; omega)
theorem gateNew (n : Int) (w : World) :
    Calls Try.prog 41 #[.int .i64 n] w (Gives (.agg #[.int .i64 (heldV n), .int .i64 (-1), .bool false, .bool false]) w) := by
  go_enter Try.func41, Try.ntmps41
  go_wp2_with (go_at_call 59; refine (held _ _).mono ?_; rintro e w' ⟨rfl, rfl⟩)
  refine ret_any ⟨_, by simp [results, Try.results41, go_sem]; rfl, ?_⟩ rfl
  refine gives_of rfl (by repeat (first | with_reducible exact Below.refl _ _ | (with_reducible refine Below.alloc ?_ ?_ _; rotate_left; focus ((try simp) <;> omega)) | (with_reducible refine Below.setCell ?_ ?_ _; rotate_left; focus ((try simp) <;> omega)) | (with_reducible refine below_grow ?_ ?_; rotate_left; focus ((try simp) <;> omega)) | (with_reducible refine below_putB ?_ ?_; rotate_left; focus ((try simp) <;> omega)) | with_reducible refine Below.drew ?_ | with_reducible refine below_drewN ?_ | with_reducible assumption | (with_reducible refine below_step (by assumption) ?_ ?_; rotate_left; focus ((try simp) <;> omega))))
theorem refNewGate (n : Int) (w : World) :
    Calls Try.prog 42 #[.int .i64 n] w (Gives (.agg #[.int .i64 (heldV n), .int .i64 (-1), .bool false, .bool false]) w) := by
  go_enter Try.func42, Try.ntmps42
  go_wp2
  all_goals refine ret_any ⟨_, by simp [results, Try.results42, go_sem]; rfl, ?_⟩ rfl
  all_goals refine gives_of (congrArg (fun n => Value.agg #[.int .i64 n, .int .i64 (-1), .bool false, .bool false]) ?_) (by repeat (first | with_reducible exact Below.refl _ _ | (with_reducible refine Below.alloc ?_ ?_ _; rotate_left; focus ((try simp) <;> omega)) | (with_reducible refine Below.setCell ?_ ?_ _; rotate_left; focus ((try simp) <;> omega)) | (with_reducible refine below_grow ?_ ?_; rotate_left; focus ((try simp) <;> omega)) | (with_reducible refine below_putB ?_ ?_; rotate_left; focus ((try simp) <;> omega)) | with_reducible refine Below.drew ?_ | with_reducible refine below_drewN ?_ | with_reducible assumption | (with_reducible refine below_step (by assumption) ?_ ?_; rotate_left; focus ((try simp) <;> omega))))
  all_goals (unfold heldV; omega)
theorem quietG (a c : Int) (p m : Bool) (w : World) :
    Calls Try.prog 39 #[.agg #[.int .i64 a, .int .i64 c, .bool p, .bool m]] w (Gives (.bool (p || m)) w) := by
  cases p
  all_goals
    go_enter Try.func39, Try.ntmps39
    go_wp2
  all_goals refine ret_any ⟨_, by simp [results, Try.results39, go_sem]; rfl, ?_⟩ rfl
  all_goals refine gives_of (by simp) (by repeat (first | with_reducible exact Below.refl _ _ | (with_reducible refine Below.alloc ?_ ?_ _; rotate_left; focus ((try simp) <;> omega)) | (with_reducible refine Below.setCell ?_ ?_ _; rotate_left; focus ((try simp) <;> omega)) | (with_reducible refine below_grow ?_ ?_; rotate_left; focus ((try simp) <;> omega)) | (with_reducible refine below_putB ?_ ?_; rotate_left; focus ((try simp) <;> omega)) | with_reducible refine Below.drew ?_ | with_reducible refine below_drewN ?_ | with_reducible assumption | (with_reducible refine below_step (by assumption) ?_ ?_; rotate_left; focus ((try simp) <;> omega))))
theorem refQuiet (a c : Int) (p m : Bool) (w : World) :
    Calls Try.prog 57 #[.agg #[.int .i64 a, .int .i64 c, .bool p, .bool m]] w (Gives (.bool (p || m)) w) := by
  cases p
  all_goals
    go_enter Try.func57, Try.ntmps57
    go_wp2
  all_goals refine ret_any ⟨_, by simp [results, Try.results57, go_sem]; rfl, ?_⟩ rfl
  all_goals refine gives_of (by simp) (by repeat (first | with_reducible exact Below.refl _ _ | (with_reducible refine Below.alloc ?_ ?_ _; rotate_left; focus ((try simp) <;> omega)) | (with_reducible refine Below.setCell ?_ ?_ _; rotate_left; focus ((try simp) <;> omega)) | (with_reducible refine below_grow ?_ ?_; rotate_left; focus ((try simp) <;> omega)) | (with_reducible refine below_putB ?_ ?_; rotate_left; focus ((try simp) <;> omega)) | with_reducible refine Below.drew ?_ | with_reducible refine below_drewN ?_ | with_reducible assumption | (with_reducible refine below_step (by assumption) ?_ ?_; rotate_left; focus ((try simp) <;> omega))))
def asksV (a c : Int) (p m : Bool) : Bool := !(p || m) && (c != a)
theorem asksG (a c : Int) (p m : Bool) (w : World) :
    Calls Try.prog 40 #[.agg #[.int .i64 a, .int .i64 c, .bool p, .bool m]] w (Gives (.bool (asksV a c p m)) w) := by
  cases p <;> cases m
  all_goals
    go_enter Try.func40, Try.ntmps40
    go_wp2_with (go_at_call 39; refine (quietG _ _ _ _ _).mono ?_; rintro e w1 ⟨rfl, hb1⟩; have ha1 : After _ w1 := ⟨hb1⟩; obtain ⟨hc1, hf1⟩ := after hb1; have hz1 := hb1.size; try simp at hz1)
  all_goals refine ret_any ⟨_, by simp [results, Try.results40, go_sem, *]; rfl, ?_⟩ rfl
  all_goals refine gives_of (by simp [asksV]) (by repeat (first | with_reducible exact Below.refl _ _ | (with_reducible refine Below.alloc ?_ ?_ _; rotate_left; focus ((try simp) <;> omega)) | (with_reducible refine Below.setCell ?_ ?_ _; rotate_left; focus ((try simp) <;> omega)) | (with_reducible refine below_grow ?_ ?_; rotate_left; focus ((try simp) <;> omega)) | (with_reducible refine below_putB ?_ ?_; rotate_left; focus ((try simp) <;> omega)) | with_reducible refine Below.drew ?_ | with_reducible refine below_drewN ?_ | with_reducible assumption | (with_reducible refine below_step (by assumption) ?_ ?_; rotate_left; focus ((try simp) <;> omega))))
def shutC (on : Bool) (c : Int) : Int := if on then -1 else c
theorem shutG (a c : Int) (p m on : Bool) (w : World) :
    Calls Try.prog 58 #[.agg #[.int .i64 a, .int .i64 c, .bool p, .bool m], .bool on] w (Gives (.agg #[.int .i64 a, .int .i64 (shutC on c), .bool p, .bool m]) w) := by
  cases on
  all_goals
    go_enter Try.func58, Try.ntmps58
    go_wp2
  all_goals refine ret_any ⟨_, by simp [results, Try.results58, go_sem]; rfl, ?_⟩ rfl
  all_goals refine gives_of (by simp [shutC]) (by repeat (first | with_reducible exact Below.refl _ _ | (with_reducible refine Below.alloc ?_ ?_ _; rotate_left; focus ((try simp) <;> omega)) | (with_reducible refine Below.setCell ?_ ?_ _; rotate_left; focus ((try simp) <;> omega)) | (with_reducible refine below_grow ?_ ?_; rotate_left; focus ((try simp) <;> omega)) | (with_reducible refine below_putB ?_ ?_; rotate_left; focus ((try simp) <;> omega)) | with_reducible refine Below.drew ?_ | with_reducible refine below_drewN ?_ | with_reducible assumption | (with_reducible refine below_step (by assumption) ?_ ?_; rotate_left; focus ((try simp) <;> omega))))
theorem pauseG (a c : Int) (p m on : Bool) (w : World) :
    Calls Try.prog 36 #[.agg #[.int .i64 a, .int .i64 c, .bool p, .bool m], .bool on] w (Gives (.agg #[.int .i64 a, .int .i64 (shutC on c), .bool on, .bool m]) w) := by
  go_enter Try.func36, Try.ntmps36
  go_wp2_with (go_at_call 58; refine (shutG _ _ _ _ _ _).mono ?_; rintro e w1 ⟨rfl, hb1⟩; have ha1 : After _ w1 := ⟨hb1⟩; obtain ⟨hc1, hf1⟩ := after hb1; have hz1 := hb1.size; try simp at hz1)
  refine ret_any ⟨_, by simp [results, Try.results36, go_sem, *]; rfl, ?_⟩ rfl
  refine gives_of rfl (by repeat (first | with_reducible exact Below.refl _ _ | (with_reducible refine Below.alloc ?_ ?_ _; rotate_left; focus ((try simp) <;> omega)) | (with_reducible refine Below.setCell ?_ ?_ _; rotate_left; focus ((try simp) <;> omega)) | (with_reducible refine below_grow ?_ ?_; rotate_left; focus ((try simp) <;> omega)) | (with_reducible refine below_putB ?_ ?_; rotate_left; focus ((try simp) <;> omega)) | with_reducible refine Below.drew ?_ | with_reducible refine below_drewN ?_ | with_reducible assumption | (with_reducible refine below_step (by assumption) ?_ ?_; rotate_left; focus ((try simp) <;> omega))))
theorem muteG (a c : Int) (p m on : Bool) (w : World) :
    Calls Try.prog 37 #[.agg #[.int .i64 a, .int .i64 c, .bool p, .bool m], .bool on] w (Gives (.agg #[.int .i64 a, .int .i64 (shutC on c), .bool p, .bool on]) w) := by
  go_enter Try.func37, Try.ntmps37
  go_wp2_with (go_at_call 58; refine (shutG _ _ _ _ _ _).mono ?_; rintro e w1 ⟨rfl, hb1⟩; have ha1 : After _ w1 := ⟨hb1⟩; obtain ⟨hc1, hf1⟩ := after hb1; have hz1 := hb1.size; try simp at hz1)
  refine ret_any ⟨_, by simp [results, Try.results37, go_sem, *]; rfl, ?_⟩ rfl
  refine gives_of rfl (by repeat (first | with_reducible exact Below.refl _ _ | (with_reducible refine Below.alloc ?_ ?_ _; rotate_left; focus ((try simp) <;> omega)) | (with_reducible refine Below.setCell ?_ ?_ _; rotate_left; focus ((try simp) <;> omega)) | (with_reducible refine below_grow ?_ ?_; rotate_left; focus ((try simp) <;> omega)) | (with_reducible refine below_putB ?_ ?_; rotate_left; focus ((try simp) <;> omega)) | with_reducible refine Below.drew ?_ | with_reducible refine below_drewN ?_ | with_reducible assumption | (with_reducible refine below_step (by assumption) ?_ ?_; rotate_left; focus ((try simp) <;> omega))))
theorem wantG (a c n : Int) (p m : Bool) (w : World) :
    Calls Try.prog 38 #[.agg #[.int .i64 a, .int .i64 c, .bool p, .bool m], .int .i64 n] w (Gives (.agg #[.int .i64 (heldV n), .int .i64 c, .bool p, .bool m]) w) := by
  go_enter Try.func38, Try.ntmps38
  go_wp2_with (go_at_call 59; refine (held _ _).mono ?_; rintro e w' ⟨rfl, rfl⟩)
  refine ret_any ⟨_, by simp [results, Try.results38, go_sem]; rfl, ?_⟩ rfl
  refine gives_of rfl (by repeat (first | with_reducible exact Below.refl _ _ | (with_reducible refine Below.alloc ?_ ?_ _; rotate_left; focus ((try simp) <;> omega)) | (with_reducible refine Below.setCell ?_ ?_ _; rotate_left; focus ((try simp) <;> omega)) | (with_reducible refine below_grow ?_ ?_; rotate_left; focus ((try simp) <;> omega)) | (with_reducible refine below_putB ?_ ?_; rotate_left; focus ((try simp) <;> omega)) | with_reducible refine Below.drew ?_ | with_reducible refine below_drewN ?_ | with_reducible assumption | (with_reducible refine below_step (by assumption) ?_ ?_; rotate_left; focus ((try simp) <;> omega))))
/-- What becomes of a packet, and which layer goes on behind it. -/
def takeV (a c : Int) (p m : Bool) (l : Int) (key : Bool) : Int := if (p || m) = true then 4 else if l = a ∧ c ≠ a ∧ key = true then 2 else if l = c then 1 else 3
def takeC (a c : Int) (p m : Bool) (l : Int) (key : Bool) : Int := if takeV a c p m l key = 2 then a else c
theorem takeG (a c l : Int) (p m key : Bool) (w : World) :
    Calls Try.prog 34 #[.agg #[.int .i64 a, .int .i64 c, .bool p, .bool m], .int .i64 l, .bool key] w (Gives (.tuple #[.agg #[.int .i64 a, .int .i64 (takeC a c p m l key), .bool p, .bool m], .int .i64 (takeV a c p m l key)]) w) := by
  cases p
  · cases m
    · by_cases h1 : l = a
      · subst h1
        by_cases h2 : c = l
        · subst h2
          cases key
          · skip
            have hv : takeV c c false false c false = 1 := by simp [takeV]
            have hc : takeC c c false false c false = c := by simp [takeC, hv]
            rw [hv, hc]
            clear hv hc
            go_enter Try.func34, Try.ntmps34
            go_wp2_with (go_at_call 39; refine (quietG _ _ _ _ _).mono ?_; rintro e w1 ⟨rfl, hb1⟩; have ha1 : After _ w1 := ⟨hb1⟩; obtain ⟨hc1, hf1⟩ := after hb1; have hz1 := hb1.size; try simp at hz1)
            refine ret_any ⟨_, by simp [results, Try.results34, go_sem, *]; rfl, ?_⟩ rfl
            refine gives_of rfl (by repeat (first | with_reducible exact Below.refl _ _ | (with_reducible refine Below.alloc ?_ ?_ _; rotate_left; focus ((try simp) <;> omega)) | (with_reducible refine Below.setCell ?_ ?_ _; rotate_left; focus ((try simp) <;> omega)) | (with_reducible refine below_grow ?_ ?_; rotate_left; focus ((try simp) <;> omega)) | (with_reducible refine below_putB ?_ ?_; rotate_left; focus ((try simp) <;> omega)) | with_reducible refine Below.drew ?_ | with_reducible refine below_drewN ?_ | with_reducible assumption | (with_reducible refine below_step (by assumption) ?_ ?_; rotate_left; focus ((try simp) <;> omega))))
          · skip
            have hv : takeV c c false false c true = 1 := by simp [takeV]
            have hc : takeC c c false false c true = c := by simp [takeC, hv]
            rw [hv, hc]
            clear hv hc
            go_enter Try.func34, Try.ntmps34
            go_wp2_with (go_at_call 39; refine (quietG _ _ _ _ _).mono ?_; rintro e w1 ⟨rfl, hb1⟩; have ha1 : After _ w1 := ⟨hb1⟩; obtain ⟨hc1, hf1⟩ := after hb1; have hz1 := hb1.size; try simp at hz1)
            refine ret_any ⟨_, by simp [results, Try.results34, go_sem, *]; rfl, ?_⟩ rfl
            refine gives_of rfl (by repeat (first | with_reducible exact Below.refl _ _ | (with_reducible refine Below.alloc ?_ ?_ _; rotate_left; focus ((try simp) <;> omega)) | (with_reducible refine Below.setCell ?_ ?_ _; rotate_left; focus ((try simp) <;> omega)) | (with_reducible refine below_grow ?_ ?_; rotate_left; focus ((try simp) <;> omega)) | (with_reducible refine below_putB ?_ ?_; rotate_left; focus ((try simp) <;> omega)) | with_reducible refine Below.drew ?_ | with_reducible refine below_drewN ?_ | with_reducible assumption | (with_reducible refine below_step (by assumption) ?_ ?_; rotate_left; focus ((try simp) <;> omega))))
        · have i1 : (c != l) = true := by simpa using h2
          have i2 : (l == c) = false := by simp; omega
          have i3 : (l != c) = true := by simp; omega
          have i4 : ¬ l = c := by omega
          cases key
          · skip
            have hv : takeV l c false false l false = 3 := by simp [takeV, i4]
            have hc : takeC l c false false l false = c := by simp [takeC, hv]
            rw [hv, hc]
            clear hv hc
            go_enter Try.func34, Try.ntmps34
            go_wp2_with (go_at_call 39; refine (quietG _ _ _ _ _).mono ?_; rintro e w1 ⟨rfl, hb1⟩; have ha1 : After _ w1 := ⟨hb1⟩; obtain ⟨hc1, hf1⟩ := after hb1; have hz1 := hb1.size; try simp at hz1)
            refine ret_any ⟨_, by simp [results, Try.results34, go_sem, *]; rfl, ?_⟩ rfl
            refine gives_of rfl (by repeat (first | with_reducible exact Below.refl _ _ | (with_reducible refine Below.alloc ?_ ?_ _; rotate_left; focus ((try simp) <;> omega)) | (with_reducible refine Below.setCell ?_ ?_ _; rotate_left; focus ((try simp) <;> omega)) | (with_reducible refine below_grow ?_ ?_; rotate_left; focus ((try simp) <;> omega)) | (with_reducible refine below_putB ?_ ?_; rotate_left; focus ((try simp) <;> omega)) | with_reducible refine Below.drew ?_ | with_reducible refine below_drewN ?_ | with_reducible assumption | (with_reducible refine below_step (by assumption) ?_ ?_; rotate_left; focus ((try simp) <;> omega))))
          · skip
            have hv : takeV l c false false l true = 2 := by simp [takeV, h2]
            have hc : takeC l c false false l true = l := by simp [takeC, hv]
            rw [hv, hc]
            clear hv hc
            go_enter Try.func34, Try.ntmps34
            go_wp2_with (go_at_call 39; refine (quietG _ _ _ _ _).mono ?_; rintro e w1 ⟨rfl, hb1⟩; have ha1 : After _ w1 := ⟨hb1⟩; obtain ⟨hc1, hf1⟩ := after hb1; have hz1 := hb1.size; try simp at hz1)
            refine ret_any ⟨_, by simp [results, Try.results34, go_sem, *]; rfl, ?_⟩ rfl
            refine gives_of rfl (by repeat (first | with_reducible exact Below.refl _ _ | (with_reducible refine Below.alloc ?_ ?_ _; rotate_left; focus ((try simp) <;> omega)) | (with_reducible refine Below.setCell ?_ ?_ _; rotate_left; focus ((try simp) <;> omega)) | (with_reducible refine below_grow ?_ ?_; rotate_left; focus ((try simp) <;> omega)) | (with_reducible refine below_putB ?_ ?_; rotate_left; focus ((try simp) <;> omega)) | with_reducible refine Below.drew ?_ | with_reducible refine below_drewN ?_ | with_reducible assumption | (with_reducible refine below_step (by assumption) ?_ ?_; rotate_left; focus ((try simp) <;> omega))))
      · have i1 : (l == a) = false := by simpa using h1
        by_cases h3 : l = c
        · subst h3
          cases key
          · skip
            have hv : takeV a l false false l false = 1 := by simp [takeV, h1]
            have hc : takeC a l false false l false = l := by simp [takeC, hv]
            rw [hv, hc]
            clear hv hc
            go_enter Try.func34, Try.ntmps34
            go_wp2_with (go_at_call 39; refine (quietG _ _ _ _ _).mono ?_; rintro e w1 ⟨rfl, hb1⟩; have ha1 : After _ w1 := ⟨hb1⟩; obtain ⟨hc1, hf1⟩ := after hb1; have hz1 := hb1.size; try simp at hz1)
            refine ret_any ⟨_, by simp [results, Try.results34, go_sem, *]; rfl, ?_⟩ rfl
            refine gives_of rfl (by repeat (first | with_reducible exact Below.refl _ _ | (with_reducible refine Below.alloc ?_ ?_ _; rotate_left; focus ((try simp) <;> omega)) | (with_reducible refine Below.setCell ?_ ?_ _; rotate_left; focus ((try simp) <;> omega)) | (with_reducible refine below_grow ?_ ?_; rotate_left; focus ((try simp) <;> omega)) | (with_reducible refine below_putB ?_ ?_; rotate_left; focus ((try simp) <;> omega)) | with_reducible refine Below.drew ?_ | with_reducible refine below_drewN ?_ | with_reducible assumption | (with_reducible refine below_step (by assumption) ?_ ?_; rotate_left; focus ((try simp) <;> omega))))
          · skip
            have hv : takeV a l false false l true = 1 := by simp [takeV, h1]
            have hc : takeC a l false false l true = l := by simp [takeC, hv]
            rw [hv, hc]
            clear hv hc
            go_enter Try.func34, Try.ntmps34
            go_wp2_with (go_at_call 39; refine (quietG _ _ _ _ _).mono ?_; rintro e w1 ⟨rfl, hb1⟩; have ha1 : After _ w1 := ⟨hb1⟩; obtain ⟨hc1, hf1⟩ := after hb1; have hz1 := hb1.size; try simp at hz1)
            refine ret_any ⟨_, by simp [results, Try.results34, go_sem, *]; rfl, ?_⟩ rfl
            refine gives_of rfl (by repeat (first | with_reducible exact Below.refl _ _ | (with_reducible refine Below.alloc ?_ ?_ _; rotate_left; focus ((try simp) <;> omega)) | (with_reducible refine Below.setCell ?_ ?_ _; rotate_left; focus ((try simp) <;> omega)) | (with_reducible refine below_grow ?_ ?_; rotate_left; focus ((try simp) <;> omega)) | (with_reducible refine below_putB ?_ ?_; rotate_left; focus ((try simp) <;> omega)) | with_reducible refine Below.drew ?_ | with_reducible refine below_drewN ?_ | with_reducible assumption | (with_reducible refine below_step (by assumption) ?_ ?_; rotate_left; focus ((try simp) <;> omega))))
        · have i2 : (l == c) = false := by simpa using h3
          cases key
          · skip
            have hv : takeV a c false false l false = 3 := by simp [takeV, h1, h3]
            have hc : takeC a c false false l false = c := by simp [takeC, hv]
            rw [hv, hc]
            clear hv hc
            go_enter Try.func34, Try.ntmps34
            go_wp2_with (go_at_call 39; refine (quietG _ _ _ _ _).mono ?_; rintro e w1 ⟨rfl, hb1⟩; have ha1 : After _ w1 := ⟨hb1⟩; obtain ⟨hc1, hf1⟩ := after hb1; have hz1 := hb1.size; try simp at hz1)
            refine ret_any ⟨_, by simp [results, Try.results34, go_sem, *]; rfl, ?_⟩ rfl
            refine gives_of rfl (by repeat (first | with_reducible exact Below.refl _ _ | (with_reducible refine Below.alloc ?_ ?_ _; rotate_left; focus ((try simp) <;> omega)) | (with_reducible refine Below.setCell ?_ ?_ _; rotate_left; focus ((try simp) <;> omega)) | (with_reducible refine below_grow ?_ ?_; rotate_left; focus ((try simp) <;> omega)) | (with_reducible refine below_putB ?_ ?_; rotate_left; focus ((try simp) <;> omega)) | with_reducible refine Below.drew ?_ | with_reducible refine below_drewN ?_ | with_reducible assumption | (with_reducible refine below_step (by assumption) ?_ ?_; rotate_left; focus ((try simp) <;> omega))))
          · skip
            have hv : takeV a c false false l true = 3 := by simp [takeV, h1, h3]
            have hc : takeC a c false false l true = c := by simp [takeC, hv]
            rw [hv, hc]
            clear hv hc
            go_enter Try.func34, Try.ntmps34
            go_wp2_with (go_at_call 39; refine (quietG _ _ _ _ _).mono ?_; rintro e w1 ⟨rfl, hb1⟩; have ha1 : After _ w1 := ⟨hb1⟩; obtain ⟨hc1, hf1⟩ := after hb1; have hz1 := hb1.size; try simp at hz1)
            refine ret_any ⟨_, by simp [results, Try.results34, go_sem, *]; rfl, ?_⟩ rfl
            refine gives_of rfl (by repeat (first | with_reducible exact Below.refl _ _ | (with_reducible refine Below.alloc ?_ ?_ _; rotate_left; focus ((try simp) <;> omega)) | (with_reducible refine Below.setCell ?_ ?_ _; rotate_left; focus ((try simp) <;> omega)) | (with_reducible refine below_grow ?_ ?_; rotate_left; focus ((try simp) <;> omega)) | (with_reducible refine below_putB ?_ ?_; rotate_left; focus ((try simp) <;> omega)) | with_reducible refine Below.drew ?_ | with_reducible refine below_drewN ?_ | with_reducible assumption | (with_reducible refine below_step (by assumption) ?_ ?_; rotate_left; focus ((try simp) <;> omega))))
    · skip
      have hv : takeV a c false true l key = 4 := by simp [takeV]
      have hc : takeC a c false true l key = c := by simp [takeC, hv]
      rw [hv, hc]
      clear hv hc
      go_enter Try.func34, Try.ntmps34
      go_wp2_with (go_at_call 39; refine (quietG _ _ _ _ _).mono ?_; rintro e w1 ⟨rfl, hb1⟩; have ha1 : After _ w1 := ⟨hb1⟩; obtain ⟨hc1, hf1⟩ := after hb1; have hz1 := hb1.size; try simp at hz1)
      refine ret_any ⟨_, by simp [results, Try.results34, go_sem, *]; rfl, ?_⟩ rfl
      refine gives_of rfl (by repeat (first | with_reducible exact Below.refl _ _ | (with_reducible refine Below.alloc ?_ ?_ _; rotate_left; focus ((try simp) <;> omega)) | (with_reducible refine Below.setCell ?_ ?_ _; rotate_left; focus ((try simp) <;> omega)) | (with_reducible refine below_grow ?_ ?_; rotate_left; focus ((try simp) <;> omega)) | (with_reducible refine below_putB ?_ ?_; rotate_left; focus ((try simp) <;> omega)) | with_reducible refine Below.drew ?_ | with_reducible refine below_drewN ?_ | with_reducible assumption | (with_reducible refine below_step (by assumption) ?_ ?_; rotate_left; focus ((try simp) <;> omega))))
  · cases m
    · skip
      have hv : takeV a c true false l key = 4 := by simp [takeV]
      have hc : takeC a c true false l key = c := by simp [takeC, hv]
      rw [hv, hc]
      clear hv hc
      go_enter Try.func34, Try.ntmps34
      go_wp2_with (go_at_call 39; refine (quietG _ _ _ _ _).mono ?_; rintro e w1 ⟨rfl, hb1⟩; have ha1 : After _ w1 := ⟨hb1⟩; obtain ⟨hc1, hf1⟩ := after hb1; have hz1 := hb1.size; try simp at hz1)
      refine ret_any ⟨_, by simp [results, Try.results34, go_sem, *]; rfl, ?_⟩ rfl
      refine gives_of rfl (by repeat (first | with_reducible exact Below.refl _ _ | (with_reducible refine Below.alloc ?_ ?_ _; rotate_left; focus ((try simp) <;> omega)) | (with_reducible refine Below.setCell ?_ ?_ _; rotate_left; focus ((try simp) <;> omega)) | (with_reducible refine below_grow ?_ ?_; rotate_left; focus ((try simp) <;> omega)) | (with_reducible refine below_putB ?_ ?_; rotate_left; focus ((try simp) <;> omega)) | with_reducible refine Below.drew ?_ | with_reducible refine below_drewN ?_ | with_reducible assumption | (with_reducible refine below_step (by assumption) ?_ ?_; rotate_left; focus ((try simp) <;> omega))))
    · skip
      have hv : takeV a c true true l key = 4 := by simp [takeV]
      have hc : takeC a c true true l key = c := by simp [takeC, hv]
      rw [hv, hc]
      clear hv hc
      go_enter Try.func34, Try.ntmps34
      go_wp2_with (go_at_call 39; refine (quietG _ _ _ _ _).mono ?_; rintro e w1 ⟨rfl, hb1⟩; have ha1 : After _ w1 := ⟨hb1⟩; obtain ⟨hc1, hf1⟩ := after hb1; have hz1 := hb1.size; try simp at hz1)
      refine ret_any ⟨_, by simp [results, Try.results34, go_sem, *]; rfl, ?_⟩ rfl
      refine gives_of rfl (by repeat (first | with_reducible exact Below.refl _ _ | (with_reducible refine Below.alloc ?_ ?_ _; rotate_left; focus ((try simp) <;> omega)) | (with_reducible refine Below.setCell ?_ ?_ _; rotate_left; focus ((try simp) <;> omega)) | (with_reducible refine below_grow ?_ ?_; rotate_left; focus ((try simp) <;> omega)) | (with_reducible refine below_putB ?_ ?_; rotate_left; focus ((try simp) <;> omega)) | with_reducible refine Below.drew ?_ | with_reducible refine below_drewN ?_ | with_reducible assumption | (with_reducible refine below_step (by assumption) ?_ ?_; rotate_left; focus ((try simp) <;> omega))))
theorem refTake (a c l : Int) (p m key : Bool) (w : World) :
    Calls Try.prog 35 #[.agg #[.int .i64 a, .int .i64 c, .bool p, .bool m], .int .i64 l, .bool key] w (Gives (.tuple #[.agg #[.int .i64 a, .int .i64 (takeC a c p m l key), .bool p, .bool m], .int .i64 (takeV a c p m l key)]) w) := by
  cases p
  · cases m
    · by_cases h1 : l = a
      · subst h1
        by_cases h2 : c = l
        · subst h2
          cases key
          · skip
            have hv : takeV c c false false c false = 1 := by simp [takeV]
            have hc : takeC c c false false c false = c := by simp [takeC, hv]
            rw [hv, hc]
            clear hv hc
            go_enter Try.func35, Try.ntmps35
            go_wp2_with (go_at_call 57; refine (refQuiet _ _ _ _ _).mono ?_; rintro e w1 ⟨rfl, hb1⟩; have ha1 : After _ w1 := ⟨hb1⟩; obtain ⟨hc1, hf1⟩ := after hb1; have hz1 := hb1.size; try simp at hz1)
            refine ret_any ⟨_, by simp [results, Try.results35, go_sem, *]; rfl, ?_⟩ rfl
            refine gives_of rfl (by repeat (first | with_reducible exact Below.refl _ _ | (with_reducible refine Below.alloc ?_ ?_ _; rotate_left; focus ((try simp) <;> omega)) | (with_reducible refine Below.setCell ?_ ?_ _; rotate_left; focus ((try simp) <;> omega)) | (with_reducible refine below_grow ?_ ?_; rotate_left; focus ((try simp) <;> omega)) | (with_reducible refine below_putB ?_ ?_; rotate_left; focus ((try simp) <;> omega)) | with_reducible refine Below.drew ?_ | with_reducible refine below_drewN ?_ | with_reducible assumption | (with_reducible refine below_step (by assumption) ?_ ?_; rotate_left; focus ((try simp) <;> omega))))
          · skip
            have hv : takeV c c false false c true = 1 := by simp [takeV]
            have hc : takeC c c false false c true = c := by simp [takeC, hv]
            rw [hv, hc]
            clear hv hc
            go_enter Try.func35, Try.ntmps35
            go_wp2_with (go_at_call 57; refine (refQuiet _ _ _ _ _).mono ?_; rintro e w1 ⟨rfl, hb1⟩; have ha1 : After _ w1 := ⟨hb1⟩; obtain ⟨hc1, hf1⟩ := after hb1; have hz1 := hb1.size; try simp at hz1)
            refine ret_any ⟨_, by simp [results, Try.results35, go_sem, *]; rfl, ?_⟩ rfl
            refine gives_of rfl (by repeat (first | with_reducible exact Below.refl _ _ | (with_reducible refine Below.alloc ?_ ?_ _; rotate_left; focus ((try simp) <;> omega)) | (with_reducible refine Below.setCell ?_ ?_ _; rotate_left; focus ((try simp) <;> omega)) | (with_reducible refine below_grow ?_ ?_; rotate_left; focus ((try simp) <;> omega)) | (with_reducible refine below_putB ?_ ?_; rotate_left; focus ((try simp) <;> omega)) | with_reducible refine Below.drew ?_ | with_reducible refine below_drewN ?_ | with_reducible assumption | (with_reducible refine below_step (by assumption) ?_ ?_; rotate_left; focus ((try simp) <;> omega))))
        · have i1 : (c != l) = true := by simpa using h2
          have i2 : (l == c) = false := by simp; omega
          have i3 : (l != c) = true := by simp; omega
          have i4 : ¬ l = c := by omega
          cases key
          · skip
            have hv : takeV l c false false l false = 3 := by simp [takeV, i4]
            have hc : takeC l c false false l false = c := by simp [takeC, hv]
            rw [hv, hc]
            clear hv hc
            go_enter Try.func35, Try.ntmps35
            go_wp2_with (go_at_call 57; refine (refQuiet _ _ _ _ _).mono ?_; rintro e w1 ⟨rfl, hb1⟩; have ha1 : After _ w1 := ⟨hb1⟩; obtain ⟨hc1, hf1⟩ := after hb1; have hz1 := hb1.size; try simp at hz1)
            refine ret_any ⟨_, by simp [results, Try.results35, go_sem, *]; rfl, ?_⟩ rfl
            refine gives_of rfl (by repeat (first | with_reducible exact Below.refl _ _ | (with_reducible refine Below.alloc ?_ ?_ _; rotate_left; focus ((try simp) <;> omega)) | (with_reducible refine Below.setCell ?_ ?_ _; rotate_left; focus ((try simp) <;> omega)) | (with_reducible refine below_grow ?_ ?_; rotate_left; focus ((try simp) <;> omega)) | (with_reducible refine below_putB ?_ ?_; rotate_left; focus ((try simp) <;> omega)) | with_reducible refine Below.drew ?_ | with_reducible refine below_drewN ?_ | with_reducible assumption | (with_reducible refine below_step (by assumption) ?_ ?_; rotate_left; focus ((try simp) <;> omega))))
          · skip
            have hv : takeV l c false false l true = 2 := by simp [takeV, h2]
            have hc : takeC l c false false l true = l := by simp [takeC, hv]
            rw [hv, hc]
            clear hv hc
            go_enter Try.func35, Try.ntmps35
            go_wp2_with (go_at_call 57; refine (refQuiet _ _ _ _ _).mono ?_; rintro e w1 ⟨rfl, hb1⟩; have ha1 : After _ w1 := ⟨hb1⟩; obtain ⟨hc1, hf1⟩ := after hb1; have hz1 := hb1.size; try simp at hz1)
            refine ret_any ⟨_, by simp [results, Try.results35, go_sem, *]; rfl, ?_⟩ rfl
            refine gives_of rfl (by repeat (first | with_reducible exact Below.refl _ _ | (with_reducible refine Below.alloc ?_ ?_ _; rotate_left; focus ((try simp) <;> omega)) | (with_reducible refine Below.setCell ?_ ?_ _; rotate_left; focus ((try simp) <;> omega)) | (with_reducible refine below_grow ?_ ?_; rotate_left; focus ((try simp) <;> omega)) | (with_reducible refine below_putB ?_ ?_; rotate_left; focus ((try simp) <;> omega)) | with_reducible refine Below.drew ?_ | with_reducible refine below_drewN ?_ | with_reducible assumption | (with_reducible refine below_step (by assumption) ?_ ?_; rotate_left; focus ((try simp) <;> omega))))
      · have i1 : (l == a) = false := by simpa using h1
        by_cases h3 : l = c
        · subst h3
          cases key
          · skip
            have hv : takeV a l false false l false = 1 := by simp [takeV, h1]
            have hc : takeC a l false false l false = l := by simp [takeC, hv]
            rw [hv, hc]
            clear hv hc
            go_enter Try.func35, Try.ntmps35
            go_wp2_with (go_at_call 57; refine (refQuiet _ _ _ _ _).mono ?_; rintro e w1 ⟨rfl, hb1⟩; have ha1 : After _ w1 := ⟨hb1⟩; obtain ⟨hc1, hf1⟩ := after hb1; have hz1 := hb1.size; try simp at hz1)
            refine ret_any ⟨_, by simp [results, Try.results35, go_sem, *]; rfl, ?_⟩ rfl
            refine gives_of rfl (by repeat (first | with_reducible exact Below.refl _ _ | (with_reducible refine Below.alloc ?_ ?_ _; rotate_left; focus ((try simp) <;> omega)) | (with_reducible refine Below.setCell ?_ ?_ _; rotate_left; focus ((try simp) <;> omega)) | (with_reducible refine below_grow ?_ ?_; rotate_left; focus ((try simp) <;> omega)) | (with_reducible refine below_putB ?_ ?_; rotate_left; focus ((try simp) <;> omega)) | with_reducible refine Below.drew ?_ | with_reducible refine below_drewN ?_ | with_reducible assumption | (with_reducible refine below_step (by assumption) ?_ ?_; rotate_left; focus ((try simp) <;> omega))))
          · skip
            have hv : takeV a l false false l true = 1 := by simp [takeV, h1]
            have hc : takeC a l false false l true = l := by simp [takeC, hv]
            rw [hv, hc]
            clear hv hc
            go_enter Try.func35, Try.ntmps35
            go_wp2_with (go_at_call 57; refine (refQuiet _ _ _ _ _).mono ?_; rintro e w1 ⟨rfl, hb1⟩; have ha1 : After _ w1 := ⟨hb1⟩; obtain ⟨hc1, hf1⟩ := after hb1; have hz1 := hb1.size; try simp at hz1)
            refine ret_any ⟨_, by simp [results, Try.results35, go_sem, *]; rfl, ?_⟩ rfl
            refine gives_of rfl (by repeat (first | with_reducible exact Below.refl _ _ | (with_reducible refine Below.alloc ?_ ?_ _; rotate_left; focus ((try simp) <;> omega)) | (with_reducible refine Below.setCell ?_ ?_ _; rotate_left; focus ((try simp) <;> omega)) | (with_reducible refine below_grow ?_ ?_; rotate_left; focus ((try simp) <;> omega)) | (with_reducible refine below_putB ?_ ?_; rotate_left; focus ((try simp) <;> omega)) | with_reducible refine Below.drew ?_ | with_reducible refine below_drewN ?_ | with_reducible assumption | (with_reducible refine below_step (by assumption) ?_ ?_; rotate_left; focus ((try simp) <;> omega))))
        · have i2 : (l == c) = false := by simpa using h3
          cases key
          · skip
            have hv : takeV a c false false l false = 3 := by simp [takeV, h1, h3]
            have hc : takeC a c false false l false = c := by simp [takeC, hv]
            rw [hv, hc]
            clear hv hc
            go_enter Try.func35, Try.ntmps35
            go_wp2_with (go_at_call 57; refine (refQuiet _ _ _ _ _).mono ?_; rintro e w1 ⟨rfl, hb1⟩; have ha1 : After _ w1 := ⟨hb1⟩; obtain ⟨hc1, hf1⟩ := after hb1; have hz1 := hb1.size; try simp at hz1)
            refine ret_any ⟨_, by simp [results, Try.results35, go_sem, *]; rfl, ?_⟩ rfl
            refine gives_of rfl (by repeat (first | with_reducible exact Below.refl _ _ | (with_reducible refine Below.alloc ?_ ?_ _; rotate_left; focus ((try simp) <;> omega)) | (with_reducible refine Below.setCell ?_ ?_ _; rotate_left; focus ((try simp) <;> omega)) | (with_reducible refine below_grow ?_ ?_; rotate_left; focus ((try simp) <;> omega)) | (with_reducible refine below_putB ?_ ?_; rotate_left; focus ((try simp) <;> omega)) | with_reducible refine Below.drew ?_ | with_reducible refine below_drewN ?_ | with_reducible assumption | (with_reducible refine below_step (by assumption) ?_ ?_; rotate_left; focus ((try simp) <;> omega))))
          · skip
            have hv : takeV a c false false l true = 3 := by simp [takeV, h1, h3]
            have hc : takeC a c false false l true = c := by simp [takeC, hv]
            rw [hv, hc]
            clear hv hc
            go_enter Try.func35, Try.ntmps35
            go_wp2_with (go_at_call 57; refine (refQuiet _ _ _ _ _).mono ?_; rintro e w1 ⟨rfl, hb1⟩; have ha1 : After _ w1 := ⟨hb1⟩; obtain ⟨hc1, hf1⟩ := after hb1; have hz1 := hb1.size; try simp at hz1)
            refine ret_any ⟨_, by simp [results, Try.results35, go_sem, *]; rfl, ?_⟩ rfl
            refine gives_of rfl (by repeat (first | with_reducible exact Below.refl _ _ | (with_reducible refine Below.alloc ?_ ?_ _; rotate_left; focus ((try simp) <;> omega)) | (with_reducible refine Below.setCell ?_ ?_ _; rotate_left; focus ((try simp) <;> omega)) | (with_reducible refine below_grow ?_ ?_; rotate_left; focus ((try simp) <;> omega)) | (with_reducible refine below_putB ?_ ?_; rotate_left; focus ((try simp) <;> omega)) | with_reducible refine Below.drew ?_ | with_reducible refine below_drewN ?_ | with_reducible assumption | (with_reducible refine below_step (by assumption) ?_ ?_; rotate_left; focus ((try simp) <;> omega))))
    · skip
      have hv : takeV a c false true l key = 4 := by simp [takeV]
      have hc : takeC a c false true l key = c := by simp [takeC, hv]
      rw [hv, hc]
      clear hv hc
      go_enter Try.func35, Try.ntmps35
      go_wp2_with (go_at_call 57; refine (refQuiet _ _ _ _ _).mono ?_; rintro e w1 ⟨rfl, hb1⟩; have ha1 : After _ w1 := ⟨hb1⟩; obtain ⟨hc1, hf1⟩ := after hb1; have hz1 := hb1.size; try simp at hz1)
      refine ret_any ⟨_, by simp [results, Try.results35, go_sem, *]; rfl, ?_⟩ rfl
      refine gives_of rfl (by repeat (first | with_reducible exact Below.refl _ _ | (with_reducible refine Below.alloc ?_ ?_ _; rotate_left; focus ((try simp) <;> omega)) | (with_reducible refine Below.setCell ?_ ?_ _; rotate_left; focus ((try simp) <;> omega)) | (with_reducible refine below_grow ?_ ?_; rotate_left; focus ((try simp) <;> omega)) | (with_reducible refine below_putB ?_ ?_; rotate_left; focus ((try simp) <;> omega)) | with_reducible refine Below.drew ?_ | with_reducible refine below_drewN ?_ | with_reducible assumption | (with_reducible refine below_step (by assumption) ?_ ?_; rotate_left; focus ((try simp) <;> omega))))
  · cases m
    · skip
      have hv : takeV a c true false l key = 4 := by simp [takeV]
      have hc : takeC a c true false l key = c := by simp [takeC, hv]
      rw [hv, hc]
      clear hv hc
      go_enter Try.func35, Try.ntmps35
      go_wp2_with (go_at_call 57; refine (refQuiet _ _ _ _ _).mono ?_; rintro e w1 ⟨rfl, hb1⟩; have ha1 : After _ w1 := ⟨hb1⟩; obtain ⟨hc1, hf1⟩ := after hb1; have hz1 := hb1.size; try simp at hz1)
      refine ret_any ⟨_, by simp [results, Try.results35, go_sem, *]; rfl, ?_⟩ rfl
      refine gives_of rfl (by repeat (first | with_reducible exact Below.refl _ _ | (with_reducible refine Below.alloc ?_ ?_ _; rotate_left; focus ((try simp) <;> omega)) | (with_reducible refine Below.setCell ?_ ?_ _; rotate_left; focus ((try simp) <;> omega)) | (with_reducible refine below_grow ?_ ?_; rotate_left; focus ((try simp) <;> omega)) | (with_reducible refine below_putB ?_ ?_; rotate_left; focus ((try simp) <;> omega)) | with_reducible refine Below.drew ?_ | with_reducible refine below_drewN ?_ | with_reducible assumption | (with_reducible refine below_step (by assumption) ?_ ?_; rotate_left; focus ((try simp) <;> omega))))
    · skip
      have hv : takeV a c true true l key = 4 := by simp [takeV]
      have hc : takeC a c true true l key = c := by simp [takeC, hv]
      rw [hv, hc]
      clear hv hc
      go_enter Try.func35, Try.ntmps35
      go_wp2_with (go_at_call 57; refine (refQuiet _ _ _ _ _).mono ?_; rintro e w1 ⟨rfl, hb1⟩; have ha1 : After _ w1 := ⟨hb1⟩; obtain ⟨hc1, hf1⟩ := after hb1; have hz1 := hb1.size; try simp at hz1)
      refine ret_any ⟨_, by simp [results, Try.results35, go_sem, *]; rfl, ?_⟩ rfl
      refine gives_of rfl (by repeat (first | with_reducible exact Below.refl _ _ | (with_reducible refine Below.alloc ?_ ?_ _; rotate_left; focus ((try simp) <;> omega)) | (with_reducible refine Below.setCell ?_ ?_ _; rotate_left; focus ((try simp) <;> omega)) | (with_reducible refine below_grow ?_ ?_; rotate_left; focus ((try simp) <;> omega)) | (with_reducible refine below_putB ?_ ?_; rotate_left; focus ((try simp) <;> omega)) | with_reducible refine Below.drew ?_ | with_reducible refine below_drewN ?_ | with_reducible assumption | (with_reducible refine below_step (by assumption) ?_ ?_; rotate_left; focus ((try simp) <;> omega))))
theorem field49_0 (a b c d : Value) (w : World) : (Instr.field 49 (.agg #[a, b, c, d]) 0).run Try.prog w = .ok a w := by kernel_rfl
theorem field49_3 (a b c d : Value) (w : World) : (Instr.field 49 (.agg #[a, b, c, d]) 3).run Try.prog w = .ok d w := by kernel_rfl
attribute [go_sem] field49_0 field49_3
set_option maxRecDepth 100000 in
theorem shown16 (w : World) : Calls Try.prog 33 #[] w (Gives (.bool true) w) := by
  have e1 : takeV 1 (-1) false false 1 false = 3 := by decide
  have e2 : takeC 1 (-1) false false 1 false = -1 := by decide
  have e3 : takeV 1 (-1) false false 1 true = 2 := by decide
  have e4 : takeC 1 (-1) false false 1 true = 1 := by decide
  have e5 : takeV 1 1 false false 1 true = 1 := by decide
  have e6 : takeC 1 1 false false 1 true = 1 := by decide
  have e7 : takeV 1 (-1) true false 1 true = 4 := by decide
  have e8 : heldV 1 = 1 := by decide
  have e9 : heldV 2 = 2 := by decide
  have e10 : shutC true 1 = -1 := by decide
  have e11 : asksV 1 (-1) false false = true := by decide
  have e12 : asksV 1 1 false false = false := by decide
  go_enter Try.func33, Try.ntmps33
  go_wp2_with (first | (go_at_call 41; refine (gateNew _ _).mono ?_; rintro e w1 ⟨rfl, hb1⟩; have ha1 : After _ w1 := ⟨hb1⟩; obtain ⟨hc1, hf1⟩ := after hb1; have hz1 := hb1.size; try simp at hz1) | (go_at_call 34; refine (takeG _ _ _ _ _ _ _).mono ?_; rintro e w1 ⟨rfl, hb1⟩; have ha1 : After _ w1 := ⟨hb1⟩; obtain ⟨hc1, hf1⟩ := after hb1; have hz1 := hb1.size; try simp at hz1) | (go_at_call 36; refine (pauseG _ _ _ _ _ _).mono ?_; rintro e w1 ⟨rfl, hb1⟩; have ha1 : After _ w1 := ⟨hb1⟩; obtain ⟨hc1, hf1⟩ := after hb1; have hz1 := hb1.size; try simp at hz1) | (go_at_call 37; refine (muteG _ _ _ _ _ _).mono ?_; rintro e w1 ⟨rfl, hb1⟩; have ha1 : After _ w1 := ⟨hb1⟩; obtain ⟨hc1, hf1⟩ := after hb1; have hz1 := hb1.size; try simp at hz1) | (go_at_call 38; refine (wantG _ _ _ _ _ _).mono ?_; rintro e w1 ⟨rfl, hb1⟩; have ha1 : After _ w1 := ⟨hb1⟩; obtain ⟨hc1, hf1⟩ := after hb1; have hz1 := hb1.size; try simp at hz1) | (go_at_call 39; refine (quietG _ _ _ _ _).mono ?_; rintro e w1 ⟨rfl, hb1⟩; have ha1 : After _ w1 := ⟨hb1⟩; obtain ⟨hc1, hf1⟩ := after hb1; have hz1 := hb1.size; try simp at hz1) | (go_at_call 40; refine (asksG _ _ _ _ _).mono ?_; rintro e w1 ⟨rfl, hb1⟩; have ha1 : After _ w1 := ⟨hb1⟩; obtain ⟨hc1, hf1⟩ := after hb1; have hz1 := hb1.size; try simp at hz1))
  refine ret_any ⟨_, by simp [results, Try.results33, go_sem, *]; rfl, ?_⟩ rfl
  refine gives_of rfl (by repeat (first | with_reducible exact Below.refl _ _ | (with_reducible refine Below.alloc ?_ ?_ _; rotate_left; focus ((try simp) <;> omega)) | (with_reducible refine Below.setCell ?_ ?_ _; rotate_left; focus ((try simp) <;> omega)) | (with_reducible refine below_grow ?_ ?_; rotate_left; focus ((try simp) <;> omega)) | (with_reducible refine below_putB ?_ ?_; rotate_left; focus ((try simp) <;> omega)) | with_reducible refine Below.drew ?_ | with_reducible refine below_drewN ?_ | with_reducible assumption | (with_reducible refine below_step (by assumption) ?_ ?_; rotate_left; focus ((try simp) <;> omega))))
end Go.Proofs.Ytplhgpeeekjfcaa
