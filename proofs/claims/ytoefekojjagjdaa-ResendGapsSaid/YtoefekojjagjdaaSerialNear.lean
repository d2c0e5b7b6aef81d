/-
  The law SerialNear as a walk. No condition but that the arguments fit their types.
-/
import Derived.Test.YtoefekojjagjdaaSerialLaws
import Derived.Laws.BitsLemmas
namespace Go.Proofs.Ytoefekojjagjdaa
open Go.RowKit Go.Sort Go.BigFrame
set_option linter.unusedVariables false
theorem extV_near (l d : Int) (hl : 1000000 ≤ l) (hl' : l ≤ 1099511000000) (hd : -32767 ≤ d) (hd' : d ≤ 32768) : extV l ((l + d) % 65536) = l + d := by unfold extV; simp only; rw [show max 0 (min l 1099511627776) = l by omega]; split <;> omega
theorem low16 (n : Int) (h0 : 0 ≤ n) (h1 : n < 9223372036854775808) : bits BinOp.and IntKind.i64 n 65535 = n % 65536 := by
  have h := bits_mask .i64 63 (by decide) (fun m a b => by rw [IntKind.wrap_i64]; omega) 16 (by decide) n h0 (by omega)
  simpa using h
/-- A slice of whole numbers. -/
theorem fit_rowI {w : World} {n t : Nat} {cs : List Value} (ht : t = 33) (h : FitW Try.prog w (n + 2) t cs) : ∃ (a : Option Addr) (len cap : Nat), cs = [.slice a len cap] ∧ len ≤ maxLen ∧
    ∀ i, i < len → ∃ b off x, a = some ⟨b, off, none⟩ ∧ b < w.heap.size ∧ w.cell? ⟨b, off + i, none⟩ = some (.int .i64 x) ∧ -9223372036854775808 ≤ x ∧ x ≤ 9223372036854775807 := by
  subst ht
  obtain ⟨a, len, cap, h1, h2, h3, h4, h5⟩ := fit_slice Try.underlying33 (show Try.prog.cellsOf 3 = 1 by kernel_rfl) (by omega) h
  refine ⟨a, len, cap, h1, by omega, fun i hi => ?_⟩
  obtain ⟨b, off, es, e1, e2, e3, e4, e5⟩ := h5 i hi
  obtain ⟨x, rfl, hx⟩ := fit_i64 Try.underlying3 e5
  refine ⟨b, off, x, e1, e2, ?_, hx⟩
  simpa using e4 0 (by omega)
theorem serialNear_ok (v0 v1 : Value) (w : World) (h0 : Arg Try.prog w 3 v0) (h1 : Arg Try.prog w 33 v1) : Calls Try.prog 7 #[v0, v1] w (Gives (.bool true) w) := by
  obtain ⟨l, rfl, hl, hl'⟩ := arg_i64 Try.underlying3 h0
  obtain ⟨a, len, cap, he, hlen, hcell⟩ := fit_rowI rfl (arg_slice Try.underlying33 h1)
  simp only [List.cons.injEq, and_true] at he
  subst he
  clear h0 h1
  unfold maxLen at hlen
  by_cases hlow : l < 16777216
  · go_enter Try.func7, Try.ntmps7
    go_wp2_with (first | (go_at_call 18; refine (shown2 _).mono ?_; rintro e w' ⟨rfl, rfl⟩))
    refine ret_any ⟨_, by simp [results, Try.results7, go_sem]; rfl, ?_⟩ rfl
    exact gives_of rfl (Below.refl _ _)
  by_cases hhigh : 549755813888 < l
  · go_enter Try.func7, Try.ntmps7
    go_wp2_with (first | (go_at_call 18; refine (shown2 _).mono ?_; rintro e w' ⟨rfl, rfl⟩))
    refine ret_any ⟨_, by simp [results, Try.results7, go_sem]; rfl, ?_⟩ rfl
    exact gives_of rfl (Below.refl _ _)
  go_enter Try.func7, Try.ntmps7
  go_wp2_with (first | (go_at_call 18; refine (shown2 _).mono ?_; rintro e w' ⟨rfl, rfl⟩))
  go_loopw [5, 6] (fun s5 s6 wr => ∃ (k : Nat) (x : Int), k ≤ len ∧ k ≤ 60 ∧ s6 = .int .i64 k ∧ s5 = .int .i64 x ∧ 16777216 - 32768 * k ≤ x ∧ x ≤ 549755813888 + 32768 * k ∧ wr = w) (fun _ i _ => len - (intOf i).toNat)
  case atStart => exact ⟨0, l, by omega, by omega, rfl, rfl, by omega, by omega, rfl⟩
  case round =>
    obtain ⟨k, x, hk, hk6, rfl, rfl, hx, hx', rfl⟩ := hrel
    by_cases hlt : k < len ∧ k < 60
    · obtain ⟨k1, k2⟩ := hlt
      obtain ⟨b, off, g, rfl, hb, hgr, hg0, hg1⟩ := hcell k k1
      have hkk : ((k : Int)) < 60 := by omega
      clear hlen hcell
      by_cases g1 : g < -32767
      · go_wp2
        go_roundw
        case rel => exact ⟨k + 1, x, by omega, by omega, by go_num, rfl, by omega, by omega, trivial⟩
        case measure => simp [intOf]; omega
      by_cases g2 : 32768 < g
      · go_wp2
        go_roundw
        case rel => exact ⟨k + 1, x, by omega, by omega, by go_num, rfl, by omega, by omega, trivial⟩
        case measure => simp [intOf]; omega
      have hw := low16 (x + g) (by omega) (by omega)
      have hn := extV_near x g (by omega) (by omega) (by omega) (by omega)
      go_wp2_with (first | (go_at_call 25; refine (extend _ _ _ (by omega) (by omega) (by omega) (by omega)).mono ?_; rintro e w' ⟨rfl, rfl⟩))
      go_roundw
      case rel => exact ⟨k + 1, x + g, by omega, by omega, by go_num, rfl, by omega, by omega, trivial⟩
      case measure => simp [intOf]; omega
    · clear hcell
      by_cases hkl : k < len
      · have hk1 : (60 : Int) ≤ (k : Int) := by omega
        go_wp2
        refine ret_any ⟨_, by simp [results, Try.results7, go_sem, *]; rfl, ?_⟩ rfl
        exact gives_of rfl (Below.refl _ _)
      · go_wp2
        refine ret_any ⟨_, by simp [results, Try.results7, go_sem, *]; rfl, ?_⟩ rfl
        exact gives_of rfl (Below.refl _ _)
end Go.Proofs.Ytoefekojjagjdaa
