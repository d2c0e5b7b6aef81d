/-
  Numbers as decimal digits: strconv.Itoa by its contract, the reference's digits and Dec. The listed table holds the powers of ten.
-/
import Derived.Test.YtoipldpekiikjaaGreatDoorShelf
import Derived.Test.YtoipldpekiikjaaGreatDoorBlk
namespace Go.Proofs.YtoipldpekiikjaaGreatDoor
open Go.RowKit Go.Sort Go.BigFrame
set_option linter.unusedVariables false
def Tab (w : World) : Prop := Lib.TabIs Tryz.prog w "internal/strconv.uint64pow10" .u64 Lib.pow10Tab
def str (l : List UInt8) : ByteArray := ⟨l.toArray⟩
theorem itoaC (n : Int) (h0 : -9223372036854775808 ≤ n) (h1 : n ≤ 9223372036854775807) (w : World) (ht : Tab w) : Calls Tryz.prog 11 #[.int .i64 n] w (Gives (.string (str (Lib.itoa n))) w) := by
  refine (Tryz.strconv_Itoa n h0 h1 w ht).mono ?_
  rintro e w' ⟨rfl, k, os, rfl⟩
  exact ⟨rfl, (below_regrown w (w.drawn + k) os)⟩
theorem Tab.keep {w w' : World} (h : Tab w) (hb : Below w.heap.size w w') : Tab w' := by
  unfold Tab Lib.TabIs World.var? at *
  rw [show Tryz.prog.globalNamed "internal/strconv.uint64pow10" = some 2 by kernel_rfl] at *
  simp only [Option.bind_some] at *
  have hlt : 2 < w.heap.size := by
    apply Classical.byContradiction
    intro hn
    rw [Array.getElem?_eq_none (by omega)] at h
    cases h
  rw [hb.block 2 hlt]
  exact h
theorem str_add (a b : List UInt8) : str a ++ str b = str (a ++ b) := by
  unfold str
  apply ByteArray.ext
  simp
theorem dig_ext (k : Nat) (hk : k < 10) : ({ data := #[48, 49, 50, 51, 52, 53, 54, 55, 56, 57] } : ByteArray).extract k (k + 1) = str [UInt8.ofNat (48 + k)] := by
  have : ∀ j : Fin 10, ({ data := #[48, 49, 50, 51, 52, 53, 54, 55, 56, 57] } : ByteArray).extract j.val (j.val + 1) = str [UInt8.ofNat (48 + j.val)] := by decide
  exact this ⟨k, hk⟩
theorem dec_small {n : Nat} (h : n < 10) : Lib.decDigits n = [UInt8.ofNat (48 + n)] := by rw [Lib.decDigits, dif_pos h]
theorem dec_big {n : Nat} (h : ¬ n < 10) : Lib.decDigits n = Lib.decDigits (n / 10) ++ [UInt8.ofNat (48 + n % 10)] := by rw [Lib.decDigits, dif_neg h]
theorem dec_len : ∀ (k n : Nat), n < 10 ^ (k + 1) → (Lib.decDigits n).length ≤ k + 1
  | 0, n, h => by rw [dec_small (by simpa using h)]; simp
  | k + 1, n, h => by
    by_cases h10 : n < 10
    · rw [dec_small h10]; simp
    · rw [dec_big h10, List.length_append]
      have := dec_len k (n / 10) (by rw [Nat.pow_succ] at h; omega)
      simp only [List.length_cons, List.length_nil]
      omega
theorem dec_len20 {n : Nat} (h : n < 18446744073709551616) : (Lib.decDigits n).length ≤ 20 := dec_len 19 n (Nat.lt_of_lt_of_le h (by decide))
theorem str_size (l : List UInt8) : (str l).size = l.length := by simp [str, ByteArray.size]
/-- The reference's digits. -/
theorem digitsR (n : Nat) : ∀ (w : World), n < 18446744073709551616 → Calls Tryz.prog 30 #[.int .u64 n] w (Gives (.string (str (Lib.decDigits n))) w) := by
  induction n using Nat.strongRecOn with
  | _ n ih =>
    intro w hn
    have IH := Lib.hid ih
    clear ih
    go_enter Tryz.func30, Tryz.ntmps30
    by_cases h10 : n < 10
    · go_wp2
      refine ret_any ⟨_, by simp [results, Tryz.results30, go_sem]; rfl, ?_⟩ rfl
      refine gives_of ?_ (Below.refl _ _)
      rw [dec_small h10, dig_ext _ (Nat.mod_lt _ (by omega)), Nat.mod_eq_of_lt h10]
    · have hsz : ¬ (9223372036854775807 < (str (Lib.decDigits (n / 10))).size + (min (n % 10 + 1) 10 - n % 10)) := by
        have := dec_len20 (n := n / 10) (by omega)
        rw [str_size]; omega
      go_wp2_with (first | (go_at_call 30; rw [show (n : Int) / 10 = ((n / 10 : Nat) : Int) by omega]; refine (IH.out (n / 10) (by omega) _ (by omega)).mono ?_; rintro e w1 ⟨rfl, hb1⟩))
      refine ret_any ⟨_, by simp [results, Tryz.results30, go_sem]; rfl, ?_⟩ rfl
      refine gives_of ?_ hb1
      rw [dec_big h10, ← str_add, dig_ext _ (Nat.mod_lt _ (by omega))]
/-- The reference's Dec. -/
theorem decR (n : Int) (h0 : -9223372036854775808 ≤ n) (h1 : n ≤ 9223372036854775807) (w : World) : Calls Tryz.prog 14 #[.int .i64 n] w (Gives (.string (str (Lib.itoa n))) w) := by
  go_enter Tryz.func14, Tryz.ntmps14
  by_cases hn : n < 0
  · have w1 : IntKind.i64.wrap (n + 1) = n + 1 := by rw [IntKind.wrap_i64]; omega
    have w2 : IntKind.i64.wrap (-(n + 1)) = -(n + 1) := by rw [IntKind.wrap_i64]; omega
    have hsz : ¬ (9223372036854775807 < 1 + (str (Lib.decDigits n.natAbs)).size) := by
      have := dec_len20 (n := n.natAbs) (by omega)
      rw [str_size]; omega
    go_wp2_with (first | (go_at_call 30; rw [show -(n + 1) + 1 = ((n.natAbs : Nat) : Int) by omega]; refine (digitsR n.natAbs _ (by omega)).mono ?_; rintro e w1 ⟨rfl, hb1⟩))
    refine ret_any ⟨_, by simp [results, Tryz.results14, go_sem]; rfl, ?_⟩ rfl
    refine gives_of ?_ hb1
    rw [show Lib.itoa n = [45] ++ Lib.decDigits n.natAbs by unfold Lib.itoa; rw [if_pos hn]; rfl, ← str_add]
    rfl
  · go_wp2_with (first | (go_at_call 30; rw [show n = ((n.toNat : Nat) : Int) by omega]; refine (digitsR n.toNat _ (by omega)).mono ?_; rintro e w1 ⟨rfl, hb1⟩))
    refine ret_any ⟨_, by simp [results, Tryz.results14, go_sem]; rfl, ?_⟩ rfl
    refine gives_of ?_ hb1
    unfold Lib.itoa
    rw [if_neg (by omega)]
end Go.Proofs.YtoipldpekiikjaaGreatDoor
