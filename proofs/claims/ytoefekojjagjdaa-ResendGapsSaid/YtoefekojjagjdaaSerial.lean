/-
  The functions of serial and of the reference's serial numbers, each by its contract. No condition but that the numbers fit their kinds.
-/
import Derived.Test.YtoefekojjagjdaaProg
import Derived.Test.YtoefekojjagjdaaBase
import Derived.Test.YtoefekojjagjdaaFit
import Derived.Test.YtoefekojjagjdaaMore
import Derived.Deep.RegionHeld3
import Derived.Deep.DeepCutAuto
import Derived.Deep.DrawnRows
namespace Go.Proofs.Ytoefekojjagjdaa
open Go.RowKit Go.Sort Go.BigFrame
set_option linter.unusedVariables false
theorem wrap_u16 (n : Int) : IntKind.u16.wrap n = n % 65536 := by
  simp [IntKind.wrap, IntKind.bits, IntKind.signed]
theorem wrap_i16 (n : Int) : IntKind.i16.wrap n = (n + 32768) % 65536 - 32768 := by
  simp only [IntKind.wrap, IntKind.bits, IntKind.signed]; simp; split <;> omega
theorem wrap_i32' (n : Int) : IntKind.i32.wrap n = (n + 2147483648) % 4294967296 - 2147483648 := by
  rw [IntKind.wrap_i32]
attribute [go_sem] wrap_u16
/-- By how much a is ahead of b. -/
def d16 (a b : Int) : Int := (a - b + 32768) % 65536 - 32768
def d32 (a b : Int) : Int := (a - b + 2147483648) % 4294967296 - 2147483648
theorem d16_in (a b : Int) : -32768 ≤ d16 a b ∧ d16 a b ≤ 32767 := by unfold d16; omega
theorem d32_in (a b : Int) : -2147483648 ≤ d32 a b ∧ d32 a b ≤ 2147483647 := by unfold d32; omega
theorem diff16 (a b : Int) (w : World) :
    Calls Try.prog 21 #[.int .u16 a, .int .u16 b] w fun e w' => e = .returned (.int .i64 (d16 a b)) ∧ w = w' := by
  have h : IntKind.i16.wrap ((a - b) % 65536) = d16 a b := by rw [wrap_i16]; unfold d16; omega
  have h0 := (d16_in a b).1
  have h1 := (d16_in a b).2
  go_enter Try.func21, Try.ntmps21
  go_wp2
  refine ret_any ⟨_, by simp [results, Try.results21, go_sem]; rfl, ?_⟩ rfl
  exact ⟨rfl, rfl⟩
theorem diff32 (a b : Int) (w : World) :
    Calls Try.prog 23 #[.int .u32 a, .int .u32 b] w fun e w' => e = .returned (.int .i64 (d32 a b)) ∧ w = w' := by
  have h : IntKind.i32.wrap ((a - b) % 4294967296) = d32 a b := by rw [wrap_i32']; unfold d32; omega
  have h0 := (d32_in a b).1
  have h1 := (d32_in a b).2
  go_enter Try.func23, Try.ntmps23
  go_wp2
  refine ret_any ⟨_, by simp [results, Try.results23, go_sem]; rfl, ?_⟩ rfl
  exact ⟨rfl, rfl⟩
theorem refDiff16 (a b : Int) (w : World) (ha : 0 ≤ a) (ha' : a ≤ 65535) (hb : 0 ≤ b) (hb' : b ≤ 65535) :
    Calls Try.prog 19 #[.int .u16 a, .int .u16 b] w fun e w' => e = .returned (.int .i64 (d16 a b)) ∧ w = w' := by
  by_cases h : (a - b + 65536) % 65536 < 32768
  all_goals
    go_enter Try.func19, Try.ntmps19
    go_wp2
    refine ret_any ⟨_, by simp [results, Try.results19, go_sem]; rfl, ?_⟩ rfl
    refine ⟨congrArg (fun n => Ending.returned (Value.int .i64 n)) ?_, rfl⟩
    unfold d16
    omega
theorem refDiff32 (a b : Int) (w : World) (ha : 0 ≤ a) (ha' : a ≤ 4294967295) (hb : 0 ≤ b) (hb' : b ≤ 4294967295) :
    Calls Try.prog 20 #[.int .u32 a, .int .u32 b] w fun e w' => e = .returned (.int .i64 (d32 a b)) ∧ w = w' := by
  by_cases h : (a - b + 4294967296) % 4294967296 < 2147483648
  all_goals
    go_enter Try.func20, Try.ntmps20
    go_wp2
    refine ret_any ⟨_, by simp [results, Try.results20, go_sem]; rfl, ?_⟩ rfl
    refine ⟨congrArg (fun n => Ending.returned (Value.int .i64 n)) ?_, rfl⟩
    unfold d32
    omega
theorem ahead16 (a b : Int) (w : World) :
    Calls Try.prog 22 #[.int .u16 a, .int .u16 b] w fun e w' => e = .returned (.bool (decide (0 < d16 a b))) ∧ w = w' := by
  go_enter Try.func22, Try.ntmps22
  go_wp2_with (go_at_call 21; refine (diff16 _ _ _).mono ?_; rintro e w' ⟨rfl, rfl⟩)
  refine ret_any ⟨_, by simp [results, Try.results22, go_sem]; rfl, ?_⟩ rfl
  exact ⟨rfl, rfl⟩
theorem ahead32 (a b : Int) (w : World) :
    Calls Try.prog 24 #[.int .u32 a, .int .u32 b] w fun e w' => e = .returned (.bool (decide (0 < d32 a b))) ∧ w = w' := by
  go_enter Try.func24, Try.ntmps24
  go_wp2_with (go_at_call 23; refine (diff32 _ _ _).mono ?_; rintro e w' ⟨rfl, rfl⟩)
  refine ret_any ⟨_, by simp [results, Try.results24, go_sem]; rfl, ?_⟩ rfl
  exact ⟨rfl, rfl⟩
/-- The number near last that is s modulo 2^16. -/
def extV (last s : Int) : Int :=
  let l := max 0 (min last 1099511627776)
  let n := l + ((s - l + 32767) % 65536 - 32767)
  if n < 0 then n + 65536 else n
theorem far (a b : Int) (w : World) (ha : -1000000000000000 ≤ a) (ha' : a ≤ 1000000000000000) (hb : -1000000000000000 ≤ b) (hb' : b ≤ 1000000000000000) :
    Calls Try.prog 41 #[.int .i64 a, .int .i64 b] w fun e w' => e = .returned (.int .i64 (max (a - b) (b - a))) ∧ w = w' := by
  by_cases h : a < b
  all_goals
    go_enter Try.func41, Try.ntmps41
    go_wp2
    refine ret_any ⟨_, by simp [results, Try.results41, go_sem]; rfl, ?_⟩ rfl
    refine ⟨congrArg (fun n => Ending.returned (Value.int .i64 n)) ?_, rfl⟩
    omega
theorem extend (last s : Int) (w : World) (hl : -9223372036854775808 ≤ last) (hl' : last ≤ 9223372036854775807) (hs : 0 ≤ s) (hs' : s ≤ 65535) :
    Calls Try.prog 25 #[.int .i64 last, .int .u16 s] w fun e w' => e = .returned (.int .i64 (extV last s)) ∧ w = w' := by
  rcases (show last ≤ 0 ∨ 1099511627776 < last ∨ (0 < last ∧ last ≤ 1099511627776) by omega) with hc | hc | ⟨hc, hc'⟩
  · have hd : d16 s (0) = (s - (0) + 32768) % 65536 - 32768 := by unfold d16; omega
    have hv : extV last s = (if (0) + ((s - (0) + 32767) % 65536 - 32767) < 0 then (0) + ((s - (0) + 32767) % 65536 - 32767) + 65536 else (0) + ((s - (0) + 32767) % 65536 - 32767)) := by
      unfold extV; simp only; rw [show max 0 (min last 1099511627776) = (0) by omega]
    have b0 := (d16_in s (0)).1
    have b1 := (d16_in s (0)).2
    have HD := Lib.hid hd
    have HV := Lib.hid hv
    clear hd hv
    by_cases hm : d16 s (0) = -32768
    · have HM := Lib.hid hm
      have e1 : (d16 s (0) == -32768) = true := by simpa using hm
      clear hm
      by_cases hn : 0 + (d16 s (0) + 65536) < 0
      all_goals
        go_enter Try.func25, Try.ntmps25
        go_wp2_with (go_at_call 21; refine (diff16 _ _ _).mono ?_; rintro e w' ⟨rfl, rfl⟩)
      all_goals refine ret_any ⟨_, by simp [results, Try.results25, go_sem]; rfl, ?_⟩ rfl
      all_goals refine ⟨congrArg (fun n => Ending.returned (Value.int .i64 n)) ?_, rfl⟩
      all_goals (have h1 := HD.out; have h2 := HV.out; have h3 := HM.out; rw [h2]; split <;> omega)
    · have e1 : (d16 s (0) == -32768) = false := by simpa using hm
      have HM := Lib.hid hm
      clear hm
      by_cases hn : 0 + d16 s (0) < 0
      all_goals
        go_enter Try.func25, Try.ntmps25
        go_wp2_with (go_at_call 21; refine (diff16 _ _ _).mono ?_; rintro e w' ⟨rfl, rfl⟩)
      all_goals refine ret_any ⟨_, by simp [results, Try.results25, go_sem]; rfl, ?_⟩ rfl
      all_goals refine ⟨congrArg (fun n => Ending.returned (Value.int .i64 n)) ?_, rfl⟩
      all_goals (have h1 := HD.out; have h2 := HV.out; have h3 := HM.out; rw [h2]; split <;> omega)
  · have hd : d16 s (0) = (s - (1099511627776) + 32768) % 65536 - 32768 := by unfold d16; omega
    have hv : extV last s = (if (1099511627776) + ((s - (1099511627776) + 32767) % 65536 - 32767) < 0 then (1099511627776) + ((s - (1099511627776) + 32767) % 65536 - 32767) + 65536 else (1099511627776) + ((s - (1099511627776) + 32767) % 65536 - 32767)) := by
      unfold extV; simp only; rw [show max 0 (min last 1099511627776) = (1099511627776) by omega]
    have b0 := (d16_in s (0)).1
    have b1 := (d16_in s (0)).2
    have HD := Lib.hid hd
    have HV := Lib.hid hv
    clear hd hv
    by_cases hm : d16 s (0) = -32768
    · have HM := Lib.hid hm
      have e1 : (d16 s (0) == -32768) = true := by simpa using hm
      clear hm
      by_cases hn : 1099511627776 + (d16 s (0) + 65536) < 0
      all_goals
        go_enter Try.func25, Try.ntmps25
        go_wp2_with (go_at_call 21; refine (diff16 _ _ _).mono ?_; rintro e w' ⟨rfl, rfl⟩)
      all_goals refine ret_any ⟨_, by simp [results, Try.results25, go_sem]; rfl, ?_⟩ rfl
      all_goals refine ⟨congrArg (fun n => Ending.returned (Value.int .i64 n)) ?_, rfl⟩
      all_goals (have h1 := HD.out; have h2 := HV.out; have h3 := HM.out; rw [h2]; split <;> omega)
    · have e1 : (d16 s (0) == -32768) = false := by simpa using hm
      have HM := Lib.hid hm
      clear hm
      by_cases hn : 1099511627776 + d16 s (0) < 0
      all_goals
        go_enter Try.func25, Try.ntmps25
        go_wp2_with (go_at_call 21; refine (diff16 _ _ _).mono ?_; rintro e w' ⟨rfl, rfl⟩)
      all_goals refine ret_any ⟨_, by simp [results, Try.results25, go_sem]; rfl, ?_⟩ rfl
      all_goals refine ⟨congrArg (fun n => Ending.returned (Value.int .i64 n)) ?_, rfl⟩
      all_goals (have h1 := HD.out; have h2 := HV.out; have h3 := HM.out; rw [h2]; split <;> omega)
  · have hd : d16 s (last % 65536) = (s - (last) + 32768) % 65536 - 32768 := by unfold d16; omega
    have hv : extV last s = (if (last) + ((s - (last) + 32767) % 65536 - 32767) < 0 then (last) + ((s - (last) + 32767) % 65536 - 32767) + 65536 else (last) + ((s - (last) + 32767) % 65536 - 32767)) := by
      unfold extV; simp only; rw [show max 0 (min last 1099511627776) = (last) by omega]
    have b0 := (d16_in s (last % 65536)).1
    have b1 := (d16_in s (last % 65536)).2
    have HD := Lib.hid hd
    have HV := Lib.hid hv
    clear hd hv
    by_cases hm : d16 s (last % 65536) = -32768
    · have HM := Lib.hid hm
      have e1 : (d16 s (last % 65536) == -32768) = true := by simpa using hm
      clear hm
      by_cases hn : last + (d16 s (last % 65536) + 65536) < 0
      all_goals
        go_enter Try.func25, Try.ntmps25
        go_wp2_with (go_at_call 21; refine (diff16 _ _ _).mono ?_; rintro e w' ⟨rfl, rfl⟩)
      all_goals refine ret_any ⟨_, by simp [results, Try.results25, go_sem]; rfl, ?_⟩ rfl
      all_goals refine ⟨congrArg (fun n => Ending.returned (Value.int .i64 n)) ?_, rfl⟩
      all_goals (have h1 := HD.out; have h2 := HV.out; have h3 := HM.out; rw [h2]; split <;> omega)
    · have e1 : (d16 s (last % 65536) == -32768) = false := by simpa using hm
      have HM := Lib.hid hm
      clear hm
      by_cases hn : last + d16 s (last % 65536) < 0
      all_goals
        go_enter Try.func25, Try.ntmps25
        go_wp2_with (go_at_call 21; refine (diff16 _ _ _).mono ?_; rintro e w' ⟨rfl, rfl⟩)
      all_goals refine ret_any ⟨_, by simp [results, Try.results25, go_sem]; rfl, ?_⟩ rfl
      all_goals refine ⟨congrArg (fun n => Ending.returned (Value.int .i64 n)) ?_, rfl⟩
      all_goals (have h1 := HD.out; have h2 := HV.out; have h3 := HM.out; rw [h2]; split <;> omega)

/-- The best of the first j rounds' numbers. -/
def bst (r s l : Int) : Nat → Int
  | 0 => -1
  | j + 1 => if 0 ≤ (r - 1 + j) * 65536 + s ∧ (bst r s l j < 0 ∨ max ((r - 1 + j) * 65536 + s - l) (l - ((r - 1 + j) * 65536 + s)) ≤ max (bst r s l j - l) (l - bst r s l j)) then (r - 1 + j) * 65536 + s else bst r s l j
theorem bst_in (r s l : Int) (hr : 0 ≤ r) (hr' : r ≤ 16777216) (hs : 0 ≤ s) (hs' : s ≤ 65535) : ∀ j : Nat, j ≤ 3 → -1 ≤ bst r s l j ∧ bst r s l j ≤ 2000000000000
  | 0, _ => by simp [bst]
  | j + 1, h => by
    have ih := bst_in r s l hr hr' hs hs' j (by omega)
    simp only [bst]
    split <;> omega
theorem bst_ext (last s : Int) (hs : 0 ≤ s) (hs' : s ≤ 65535) (l r : Int) (hl : l = max 0 (min last 1099511627776)) (hr : r = l / 65536) : bst r s l 3 = extV last s := by
  have hv : extV last s = (if l + ((s - l + 32767) % 65536 - 32767) < 0 then l + ((s - l + 32767) % 65536 - 32767) + 65536 else l + ((s - l + 32767) % 65536 - 32767)) := by unfold extV; simp only; rw [← hl]
  rw [hv]
  have h0 : 0 ≤ l := by omega
  clear hv hl
  have e1 : bst r s l 1 = if 0 ≤ (r - 1) * 65536 + s then (r - 1) * 65536 + s else -1 := by
    simp only [bst]; simp
  have e2 : bst r s l 2 = if bst r s l 1 < 0 ∨ max (r * 65536 + s - l) (l - (r * 65536 + s)) ≤ max (bst r s l 1 - l) (l - bst r s l 1) then r * 65536 + s else bst r s l 1 := by
    rw [bst]
    have : (r - 1 + ((1 : Nat) : Int)) = r := by omega
    rw [this]
    have h2 : 0 ≤ r * 65536 + s := by omega
    simp only [h2, true_and]
  have e3 : bst r s l 3 = if bst r s l 2 < 0 ∨ max ((r + 1) * 65536 + s - l) (l - ((r + 1) * 65536 + s)) ≤ max (bst r s l 2 - l) (l - bst r s l 2) then (r + 1) * 65536 + s else bst r s l 2 := by
    rw [bst]
    have : (r - 1 + ((2 : Nat) : Int)) = r + 1 := by omega
    rw [this]
    have h2 : 0 ≤ (r + 1) * 65536 + s := by omega
    simp only [h2, true_and]
  rw [e3]
  generalize bst r s l 2 = b2 at *
  generalize bst r s l 1 = b1 at *
  clear e3
  split at e1 <;> split at e2 <;> split <;> split <;> omega
set_option maxHeartbeats 3200000 in
theorem refExtend (last s : Int) (w : World) (hl : -9223372036854775808 ≤ last) (hl' : last ≤ 9223372036854775807) (hs : 0 ≤ s) (hs' : s ≤ 65535) :
    Calls Try.prog 26 #[.int .i64 last, .int .u16 s] w fun e w' => e = .returned (.int .i64 (extV last s)) ∧ w = w' := by
  have HX := Lib.hid (fun l r => bst_ext last s hs hs' l r)
  go_enter Try.func26, Try.ntmps26
  go_upto_region 1 with fail
  go_cut [0] (fun s0 wx => ∃ l, s0 = .int .i64 l ∧ l = max 0 (min last 1099511627776) ∧ wx = w)
  case first =>
    go_wp2
    all_goals go_meet
    all_goals exact ⟨_, rfl, by omega, rfl⟩
  case rest =>
    obtain ⟨l, rfl, hle, rfl⟩ := hcut
    have h0 : 0 ≤ l := by omega
    have h1 : l ≤ 1099511627776 := by omega
    have HLE := Lib.hid hle
    clear hle hl hl'
    obtain ⟨r, hr⟩ : ∃ r, r = l / 65536 := ⟨_, rfl⟩
    have r0 : 0 ≤ r := by omega
    have r1 : r ≤ 16777216 := by omega
    have HR := Lib.hid (HX.out l r HLE.out hr)
    clear HX HLE
    go_wp2
    rw [← hr]
    clear hr
    have HB := Lib.hid (bst_in r s l r0 r1 hs hs')
    go_loop [6, 7] (fun b k => ∃ j : Nat, j ≤ 3 ∧ k = .int .i64 (r - 1 + j) ∧ b = .int .i64 (bst r s l j)) (fun _ k => (r + 2 - intOf k).toNat)
    case atStart => exact ⟨0, by omega, by simp, rfl⟩
    case round =>
      obtain ⟨j, hj, rfl, rfl⟩ := hrel
      have b0 := (HB.out j hj).1
      have b1 := (HB.out j hj).2
      by_cases hj3 : j = 3
      · subst hj3
        go_wp2
        refine ret_any ⟨_, by simp [results, Try.results26, go_sem]; rfl, ?_⟩ rfl
        exact ⟨by rw [HR.out], rfl⟩
      · have hs2 : bst r s l (j + 1) = if 0 ≤ (r - 1 + j) * 65536 + s ∧ (bst r s l j < 0 ∨ max ((r - 1 + j) * 65536 + s - l) (l - ((r - 1 + j) * 65536 + s)) ≤ max (bst r s l j - l) (l - bst r s l j)) then (r - 1 + j) * 65536 + s else bst r s l j := rfl
        have HS := Lib.hid hs2
        clear hs2
        obtain ⟨B, hB⟩ : ∃ B, B = bst r s l j := ⟨_, rfl⟩
        rw [← hB] at b0 b1 ⊢
        have HBE := Lib.hid hB
        clear hB
        by_cases hx : (r - 1 + j) * 65536 + s < 0
        · skip
          go_wp2
          go_round
          case rel => exact ⟨j + 1, by omega, by go_num, congrArg (Value.int .i64) (by rw [HS.out, ← HBE.out]; rw [if_neg (by omega)])⟩
          case measure => simp [intOf]; omega
        · by_cases hb : B < 0
          · skip
            go_wp2
            go_round
            case rel => exact ⟨j + 1, by omega, by go_num, congrArg (Value.int .i64) (by rw [HS.out, ← HBE.out]; rw [if_pos (by omega)])⟩
            case measure => simp [intOf]; omega
          · by_cases hf : max ((r - 1 + j) * 65536 + s - l) (l - ((r - 1 + j) * 65536 + s)) ≤ max (B - l) (l - B)
            · skip
              go_wp2_with (go_at_call 41; refine (far _ _ _ (by omega) (by omega) (by omega) (by omega)).mono ?_; rintro e w' ⟨rfl, rfl⟩)
              go_round
              case rel => exact ⟨j + 1, by omega, by go_num, congrArg (Value.int .i64) (by rw [HS.out, ← HBE.out]; rw [if_pos (by omega)])⟩
              case measure => simp [intOf]; omega
            · skip
              go_wp2_with (go_at_call 41; refine (far _ _ _ (by omega) (by omega) (by omega) (by omega)).mono ?_; rintro e w' ⟨rfl, rfl⟩)
              go_round
              case rel => exact ⟨j + 1, by omega, by go_num, congrArg (Value.int .i64) (by rw [HS.out, ← HBE.out]; rw [if_neg (by omega)])⟩
              case measure => simp [intOf]; omega
end Go.Proofs.Ytoefekojjagjdaa
