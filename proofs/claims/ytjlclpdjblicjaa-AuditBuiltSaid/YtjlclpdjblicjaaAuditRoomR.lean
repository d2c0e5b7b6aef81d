/-
  Room, of the program and of the reference, by contract. No condition but that the numbers fit their kinds.
-/
import Derived.Test.YtjlclpdjblicjaaEnts
namespace Go.Proofs.Ytjlclpdjblicjaa
open Go.RowKit Go.Sort Go.BigFrame
set_option linter.unusedVariables false
attribute [local go_sem ↓] Go.wp_at_zero Go.wp_at_succ
def inB (x : Int) : Bool := decide (0 ≤ x) && decide (x ≤ 1048576)
def subsV (s : Int) : Int := max 0 (min s 64)
/-- Are there slots enough? -/
def roomB (sh sl ri ba hi subs : Int) : Bool := inB sh && (inB sl && (inB ri && (inB ba && (inB hi && decide (8 * ri + sh * (ba + 8) + subsV subs * hi ≤ sl)))))
theorem inB_lo {x : Int} (h : x < 0) : inB x = false := by unfold inB; simp; omega
theorem inB_hi {x : Int} (h : 1048576 < x) : inB x = false := by unfold inB; simp; omega
theorem inB_ok {x : Int} (h : 0 ≤ x) (h' : x ≤ 1048576) : inB x = true := by unfold inB; simp; omega
theorem mul_bd {a b A B : Int} (ha : 0 ≤ a) (ha' : a ≤ A) (hb : 0 ≤ b) (hb' : b ≤ B) : 0 ≤ a * b ∧ a * b ≤ A * B :=
  ⟨Int.mul_nonneg ha hb, Int.mul_le_mul ha' hb' hb (Int.le_trans ha ha')⟩
set_option maxRecDepth 100000 in
set_option maxHeartbeats 8000000 in
theorem auditRoomR (sh sl ri ba hi subs : Int) (w : World) : Calls Try.prog 44 #[.agg #[.int .i64 sh, .int .i64 sl, .int .i64 ri, .int .i64 ba, .int .i64 hi], .int .i64 subs] w (Gives (.bool (roomB sh sl ri ba hi subs)) w) := by
  obtain ⟨res, hres⟩ : ∃ res, res = roomB sh sl ri ba hi subs := ⟨_, rfl⟩
  rw [← hres]
  have HR := Lib.hid hres
  clear hres
  go_enter Try.func44, Try.ntmps44
  go_wp2_with fail
  obtain ⟨W, hW⟩ : ∃ W, W = (w.alloc (.cells #[.int .i64 sh, .int .i64 sl, .int .i64 ri, .int .i64 ba, .int .i64 hi] 73)).alloc (.cells #[.int .i64 sh, .int .i64 sl, .int .i64 ri, .int .i64 ba, .int .i64 hi] 3) := ⟨_, rfl⟩
  have b1 : BlkIs W w.heap.size #[.int .i64 sh, .int .i64 sl, .int .i64 ri, .int .i64 ba, .int .i64 hi] 73 := by rw [hW]; infer_instance
  have b2 : BlkIs W (w.heap.size + 1) #[.int .i64 sh, .int .i64 sl, .int .i64 ri, .int .i64 ba, .int .i64 hi] 3 := by rw [hW]; infer_instance
  have hB : RowKit.Below w.heap.size w W := by rw [hW]; exact (by repeat (first | with_reducible exact Below.refl _ _ | (with_reducible refine Below.alloc ?_ ?_ _; rotate_left; focus ((try simp) <;> omega)) | (with_reducible refine Below.setCell ?_ ?_ _; rotate_left; focus ((try simp) <;> omega)) | (with_reducible refine below_grow ?_ ?_; rotate_left; focus ((try simp) <;> omega)) | (with_reducible refine below_putB ?_ ?_; rotate_left; focus ((try simp) <;> omega)) | with_reducible refine Below.drew ?_ | with_reducible refine below_drewN ?_ | with_reducible assumption | (with_reducible refine below_step (by assumption) ?_ ?_; rotate_left; focus ((try simp) <;> omega))))
  rw [← hW]
  clear hW
  go_loopw [19] (fun s wr => ∃ k : Nat, k ≤ 5 ∧ s = .int .i64 k ∧ (0 < k → 0 ≤ sh ∧ sh ≤ 1048576) ∧ (1 < k → 0 ≤ sl ∧ sl ≤ 1048576) ∧ (2 < k → 0 ≤ ri ∧ ri ≤ 1048576) ∧ (3 < k → 0 ≤ ba ∧ ba ≤ 1048576) ∧ (4 < k → 0 ≤ hi ∧ hi ≤ 1048576) ∧ wr = W) (fun i _ => 5 - (intOf i).toNat)
  case atStart => exact ⟨0, by omega, rfl, by omega, by omega, by omega, by omega, by omega, rfl⟩
  case round =>
    obtain ⟨k, hk, rfl, k0, k1, k2, k3, k4, rfl⟩ := hrel
    rcases (show k = 0 ∨ k = 1 ∨ k = 2 ∨ k = 3 ∨ k = 4 ∨ k = 5 by omega) with rfl | rfl | rfl | rfl | rfl | rfl
    · have K0 := Lib.hid k0
      have K1 := Lib.hid k1
      have K2 := Lib.hid k2
      have K3 := Lib.hid k3
      have K4 := Lib.hid k4
      clear k0 k1 k2 k3 k4
      by_cases h1 : sh < 0
      · have H1 := Lib.hid h1
        go_wp2_with fail
        refine ret_any ⟨_, by simp [results, Try.results44, go_sem, *]; rfl, ?_⟩ rfl
        refine gives_of ?_ hB
        rw [HR.out]; unfold roomB; rw [inB_lo H1.out]; simp
      · by_cases h2 : 1048576 < sh
        · have H2 := Lib.hid h2
          go_wp2_with fail
          refine ret_any ⟨_, by simp [results, Try.results44, go_sem, *]; rfl, ?_⟩ rfl
          refine gives_of ?_ hB
          rw [HR.out]; unfold roomB; rw [inB_hi H2.out]; simp
        · go_wp2_with fail
          go_roundw
          case rel => exact ⟨1, by omega, by first | rfl | go_num, fun _ => ⟨by omega, by omega⟩, fun h => by omega, fun h => by omega, fun h => by omega, fun h => by omega, by first | trivial | rfl⟩
          case measure => simp [intOf]
    · have K0 := Lib.hid k0
      have K1 := Lib.hid k1
      have K2 := Lib.hid k2
      have K3 := Lib.hid k3
      have K4 := Lib.hid k4
      clear k0 k1 k2 k3 k4
      by_cases h1 : sl < 0
      · have H1 := Lib.hid h1
        go_wp2_with fail
        refine ret_any ⟨_, by simp [results, Try.results44, go_sem, *]; rfl, ?_⟩ rfl
        refine gives_of ?_ hB
        rw [HR.out]; unfold roomB; rw [inB_ok (K0.out (by omega)).1 (K0.out (by omega)).2, inB_lo H1.out]; simp
      · by_cases h2 : 1048576 < sl
        · have H2 := Lib.hid h2
          go_wp2_with fail
          refine ret_any ⟨_, by simp [results, Try.results44, go_sem, *]; rfl, ?_⟩ rfl
          refine gives_of ?_ hB
          rw [HR.out]; unfold roomB; rw [inB_ok (K0.out (by omega)).1 (K0.out (by omega)).2, inB_hi H2.out]; simp
        · go_wp2_with fail
          go_roundw
          case rel => exact ⟨2, by omega, by first | rfl | go_num, fun _ => (K0.out (by omega)), fun _ => ⟨by omega, by omega⟩, fun h => by omega, fun h => by omega, fun h => by omega, by first | trivial | rfl⟩
          case measure => simp [intOf]
    · have K0 := Lib.hid k0
      have K1 := Lib.hid k1
      have K2 := Lib.hid k2
      have K3 := Lib.hid k3
      have K4 := Lib.hid k4
      clear k0 k1 k2 k3 k4
      by_cases h1 : ri < 0
      · have H1 := Lib.hid h1
        go_wp2_with fail
        refine ret_any ⟨_, by simp [results, Try.results44, go_sem, *]; rfl, ?_⟩ rfl
        refine gives_of ?_ hB
        rw [HR.out]; unfold roomB; rw [inB_ok (K0.out (by omega)).1 (K0.out (by omega)).2, inB_ok (K1.out (by omega)).1 (K1.out (by omega)).2, inB_lo H1.out]; simp
      · by_cases h2 : 1048576 < ri
        · have H2 := Lib.hid h2
          go_wp2_with fail
          refine ret_any ⟨_, by simp [results, Try.results44, go_sem, *]; rfl, ?_⟩ rfl
          refine gives_of ?_ hB
          rw [HR.out]; unfold roomB; rw [inB_ok (K0.out (by omega)).1 (K0.out (by omega)).2, inB_ok (K1.out (by omega)).1 (K1.out (by omega)).2, inB_hi H2.out]; simp
        · go_wp2_with fail
          go_roundw
          case rel => exact ⟨3, by omega, by first | rfl | go_num, fun _ => (K0.out (by omega)), fun _ => (K1.out (by omega)), fun _ => ⟨by omega, by omega⟩, fun h => by omega, fun h => by omega, by first | trivial | rfl⟩
          case measure => simp [intOf]
    · have K0 := Lib.hid k0
      have K1 := Lib.hid k1
      have K2 := Lib.hid k2
      have K3 := Lib.hid k3
      have K4 := Lib.hid k4
      clear k0 k1 k2 k3 k4
      by_cases h1 : ba < 0
      · have H1 := Lib.hid h1
        go_wp2_with fail
        refine ret_any ⟨_, by simp [results, Try.results44, go_sem, *]; rfl, ?_⟩ rfl
        refine gives_of ?_ hB
        rw [HR.out]; unfold roomB; rw [inB_ok (K0.out (by omega)).1 (K0.out (by omega)).2, inB_ok (K1.out (by omega)).1 (K1.out (by omega)).2, inB_ok (K2.out (by omega)).1 (K2.out (by omega)).2, inB_lo H1.out]; simp
      · by_cases h2 : 1048576 < ba
        · have H2 := Lib.hid h2
          go_wp2_with fail
          refine ret_any ⟨_, by simp [results, Try.results44, go_sem, *]; rfl, ?_⟩ rfl
          refine gives_of ?_ hB
          rw [HR.out]; unfold roomB; rw [inB_ok (K0.out (by omega)).1 (K0.out (by omega)).2, inB_ok (K1.out (by omega)).1 (K1.out (by omega)).2, inB_ok (K2.out (by omega)).1 (K2.out (by omega)).2, inB_hi H2.out]; simp
        · go_wp2_with fail
          go_roundw
          case rel => exact ⟨4, by omega, by first | rfl | go_num, fun _ => (K0.out (by omega)), fun _ => (K1.out (by omega)), fun _ => (K2.out (by omega)), fun _ => ⟨by omega, by omega⟩, fun h => by omega, by first | trivial | rfl⟩
          case measure => simp [intOf]
    · have K0 := Lib.hid k0
      have K1 := Lib.hid k1
      have K2 := Lib.hid k2
      have K3 := Lib.hid k3
      have K4 := Lib.hid k4
      clear k0 k1 k2 k3 k4
      by_cases h1 : hi < 0
      · have H1 := Lib.hid h1
        go_wp2_with fail
        refine ret_any ⟨_, by simp [results, Try.results44, go_sem, *]; rfl, ?_⟩ rfl
        refine gives_of ?_ hB
        rw [HR.out]; unfold roomB; rw [inB_ok (K0.out (by omega)).1 (K0.out (by omega)).2, inB_ok (K1.out (by omega)).1 (K1.out (by omega)).2, inB_ok (K2.out (by omega)).1 (K2.out (by omega)).2, inB_ok (K3.out (by omega)).1 (K3.out (by omega)).2, inB_lo H1.out]; simp
      · by_cases h2 : 1048576 < hi
        · have H2 := Lib.hid h2
          go_wp2_with fail
          refine ret_any ⟨_, by simp [results, Try.results44, go_sem, *]; rfl, ?_⟩ rfl
          refine gives_of ?_ hB
          rw [HR.out]; unfold roomB; rw [inB_ok (K0.out (by omega)).1 (K0.out (by omega)).2, inB_ok (K1.out (by omega)).1 (K1.out (by omega)).2, inB_ok (K2.out (by omega)).1 (K2.out (by omega)).2, inB_ok (K3.out (by omega)).1 (K3.out (by omega)).2, inB_hi H2.out]; simp
        · go_wp2_with fail
          go_roundw
          case rel => exact ⟨5, by omega, by first | rfl | go_num, fun _ => (K0.out (by omega)), fun _ => (K1.out (by omega)), fun _ => (K2.out (by omega)), fun _ => (K3.out (by omega)), fun _ => ⟨by omega, by omega⟩, by first | trivial | rfl⟩
          case measure => simp [intOf]
    · obtain ⟨a0, a1⟩ := k0 (by omega)
      obtain ⟨s0, s1⟩ := k1 (by omega)
      obtain ⟨r0, r1⟩ := k2 (by omega)
      obtain ⟨q0, q1⟩ := k3 (by omega)
      obtain ⟨h0, h1⟩ := k4 (by omega)
      clear k0 k1 k2 k3 k4
      have hr : res = decide (8 * ri + sh * (ba + 8) + subsV subs * hi ≤ sl) := by
        rw [HR.out]; unfold roomB
        rw [inB_ok a0 a1, inB_ok s0 s1, inB_ok r0 r1, inB_ok q0 q1, inB_ok h0 h1]; simp
      have HRR := Lib.hid hr
      clear hr
      obtain ⟨p0, p1⟩ := mul_bd (A := 1048576) (B := 1048584) a0 a1 (show 0 ≤ ba + 8 by omega) (show ba + 8 ≤ 1048584 by omega)
      obtain ⟨P, hP⟩ : ∃ P, P = sh * (ba + 8) := ⟨_, rfl⟩
      rw [← hP] at p0 p1
      have hw1 : IntKind.i64.wrap (sh * (ba + 8)) = P := by rw [← hP]; simp only [IntKind.wrap, IntKind.bits, IntKind.signed]; simp; split <;> omega
      have hw2 : wrap64 (sh * (ba + 8)) = P := by rw [← hP]; unfold wrap64; omega
      have HP := Lib.hid hP
      clear hP
      have hc : subs < 0 ∨ subs = 0 ∨ (0 < subs ∧ subs < 64) ∨ subs = 64 ∨ 64 < subs := by omega
      rcases hc with hc | rfl | ⟨hc, hc2⟩ | rfl | hc
      · go_wp2_with fail
        refine ret_any ⟨_, by simp [results, Try.results44, go_sem, *]; rfl, ?_⟩ rfl
        refine gives_of ?_ hB
        rw [HRR.out, ← HP.out, show subsV subs = 0 by unfold subsV; omega]
        try first | rfl | simp
      · go_wp2_with fail
        refine ret_any ⟨_, by simp [results, Try.results44, go_sem, *]; rfl, ?_⟩ rfl
        refine gives_of ?_ hB
        rw [HRR.out, ← HP.out, show subsV 0 = 0 by unfold subsV; omega]
        try first | rfl | simp
      · obtain ⟨m0, m1⟩ := mul_bd (A := 64) (B := 1048576) (show 0 ≤ subs by omega) (show subs ≤ 64 by omega) h0 h1
        obtain ⟨Q, hQ⟩ : ∃ Q, Q = subs * hi := ⟨_, rfl⟩
        rw [← hQ] at m0 m1
        have hw3 : IntKind.i64.wrap (subs * hi) = Q := by rw [← hQ]; simp only [IntKind.wrap, IntKind.bits, IntKind.signed]; simp; split <;> omega
        have hw4 : wrap64 (subs * hi) = Q := by rw [← hQ]; unfold wrap64; omega
        have HQ := Lib.hid hQ
        clear hQ
        go_wp2_with fail
        refine ret_any ⟨_, by simp [results, Try.results44, go_sem, *]; rfl, ?_⟩ rfl
        refine gives_of ?_ hB
        rw [HRR.out, ← HP.out, show subsV subs = subs by unfold subsV; omega, ← HQ.out]
      · go_wp2_with fail
        refine ret_any ⟨_, by simp [results, Try.results44, go_sem, *]; rfl, ?_⟩ rfl
        refine gives_of ?_ hB
        rw [HRR.out, ← HP.out, show subsV 64 = 64 by unfold subsV; omega]
        try first | rfl | simp
      · go_wp2_with fail
        refine ret_any ⟨_, by simp [results, Try.results44, go_sem, *]; rfl, ?_⟩ rfl
        refine gives_of ?_ hB
        rw [HRR.out, ← HP.out, show subsV subs = 64 by unfold subsV; omega]
        try first | rfl | simp
set_option maxRecDepth 100000 in
set_option maxHeartbeats 8000000 in
theorem auditRefRoomR (sh sl ri ba hi subs : Int) (w : World) : Calls Try.prog 45 #[.agg #[.int .i64 sh, .int .i64 sl, .int .i64 ri, .int .i64 ba, .int .i64 hi], .int .i64 subs] w (Gives (.bool (roomB sh sl ri ba hi subs)) w) := by
  obtain ⟨res, hres⟩ : ∃ res, res = roomB sh sl ri ba hi subs := ⟨_, rfl⟩
  rw [← hres]
  have HR := Lib.hid hres
  clear hres
  go_enter Try.func45, Try.ntmps45
  go_wp2_with fail
  obtain ⟨W, hW⟩ : ∃ W, W = (w.alloc (.cells #[.int .i64 sh, .int .i64 sl, .int .i64 ri, .int .i64 ba, .int .i64 hi] 73)).alloc (.cells #[.int .i64 sh, .int .i64 sl, .int .i64 ri, .int .i64 ba, .int .i64 hi] 3) := ⟨_, rfl⟩
  have b1 : BlkIs W w.heap.size #[.int .i64 sh, .int .i64 sl, .int .i64 ri, .int .i64 ba, .int .i64 hi] 73 := by rw [hW]; infer_instance
  have b2 : BlkIs W (w.heap.size + 1) #[.int .i64 sh, .int .i64 sl, .int .i64 ri, .int .i64 ba, .int .i64 hi] 3 := by rw [hW]; infer_instance
  have hB : RowKit.Below w.heap.size w W := by rw [hW]; exact (by repeat (first | with_reducible exact Below.refl _ _ | (with_reducible refine Below.alloc ?_ ?_ _; rotate_left; focus ((try simp) <;> omega)) | (with_reducible refine Below.setCell ?_ ?_ _; rotate_left; focus ((try simp) <;> omega)) | (with_reducible refine below_grow ?_ ?_; rotate_left; focus ((try simp) <;> omega)) | (with_reducible refine below_putB ?_ ?_; rotate_left; focus ((try simp) <;> omega)) | with_reducible refine Below.drew ?_ | with_reducible refine below_drewN ?_ | with_reducible assumption | (with_reducible refine below_step (by assumption) ?_ ?_; rotate_left; focus ((try simp) <;> omega))))
  rw [← hW]
  clear hW
  go_loopw [19] (fun s wr => ∃ k : Nat, k ≤ 5 ∧ s = .int .i64 k ∧ (0 < k → 0 ≤ sh ∧ sh ≤ 1048576) ∧ (1 < k → 0 ≤ sl ∧ sl ≤ 1048576) ∧ (2 < k → 0 ≤ ri ∧ ri ≤ 1048576) ∧ (3 < k → 0 ≤ ba ∧ ba ≤ 1048576) ∧ (4 < k → 0 ≤ hi ∧ hi ≤ 1048576) ∧ wr = W) (fun i _ => 5 - (intOf i).toNat)
  case atStart => exact ⟨0, by omega, rfl, by omega, by omega, by omega, by omega, by omega, rfl⟩
  case round =>
    obtain ⟨k, hk, rfl, k0, k1, k2, k3, k4, rfl⟩ := hrel
    rcases (show k = 0 ∨ k = 1 ∨ k = 2 ∨ k = 3 ∨ k = 4 ∨ k = 5 by omega) with rfl | rfl | rfl | rfl | rfl | rfl
    · have K0 := Lib.hid k0
      have K1 := Lib.hid k1
      have K2 := Lib.hid k2
      have K3 := Lib.hid k3
      have K4 := Lib.hid k4
      clear k0 k1 k2 k3 k4
      by_cases h1 : sh < 0
      · have H1 := Lib.hid h1
        go_wp2_with fail
        refine ret_any ⟨_, by simp [results, Try.results45, go_sem, *]; rfl, ?_⟩ rfl
        refine gives_of ?_ hB
        rw [HR.out]; unfold roomB; rw [inB_lo H1.out]; simp
      · by_cases h2 : 1048576 < sh
        · have H2 := Lib.hid h2
          go_wp2_with fail
          refine ret_any ⟨_, by simp [results, Try.results45, go_sem, *]; rfl, ?_⟩ rfl
          refine gives_of ?_ hB
          rw [HR.out]; unfold roomB; rw [inB_hi H2.out]; simp
        · go_wp2_with fail
          go_roundw
          case rel => exact ⟨1, by omega, by first | rfl | go_num, fun _ => ⟨by omega, by omega⟩, fun h => by omega, fun h => by omega, fun h => by omega, fun h => by omega, by first | trivial | rfl⟩
          case measure => simp [intOf]
    · have K0 := Lib.hid k0
      have K1 := Lib.hid k1
      have K2 := Lib.hid k2
      have K3 := Lib.hid k3
      have K4 := Lib.hid k4
      clear k0 k1 k2 k3 k4
      by_cases h1 : sl < 0
      · have H1 := Lib.hid h1
        go_wp2_with fail
        refine ret_any ⟨_, by simp [results, Try.results45, go_sem, *]; rfl, ?_⟩ rfl
        refine gives_of ?_ hB
        rw [HR.out]; unfold roomB; rw [inB_ok (K0.out (by omega)).1 (K0.out (by omega)).2, inB_lo H1.out]; simp
      · by_cases h2 : 1048576 < sl
        · have H2 := Lib.hid h2
          go_wp2_with fail
          refine ret_any ⟨_, by simp [results, Try.results45, go_sem, *]; rfl, ?_⟩ rfl
          refine gives_of ?_ hB
          rw [HR.out]; unfold roomB; rw [inB_ok (K0.out (by omega)).1 (K0.out (by omega)).2, inB_hi H2.out]; simp
        · go_wp2_with fail
          go_roundw
          case rel => exact ⟨2, by omega, by first | rfl | go_num, fun _ => (K0.out (by omega)), fun _ => ⟨by omega, by omega⟩, fun h => by omega, fun h => by omega, fun h => by omega, by first | trivial | rfl⟩
          case measure => simp [intOf]
    · have K0 := Lib.hid k0
      have K1 := Lib.hid k1
      have K2 := Lib.hid k2
      have K3 := Lib.hid k3
      have K4 := Lib.hid k4
      clear k0 k1 k2 k3 k4
      by_cases h1 : ri < 0
      · have H1 := Lib.hid h1
        go_wp2_with fail
        refine ret_any ⟨_, by simp [results, Try.results45, go_sem, *]; rfl, ?_⟩ rfl
        refine gives_of ?_ hB
        rw [HR.out]; unfold roomB; rw [inB_ok (K0.out (by omega)).1 (K0.out (by omega)).2, inB_ok (K1.out (by omega)).1 (K1.out (by omega)).2, inB_lo H1.out]; simp
      · by_cases h2 : 1048576 < ri
        · have H2 := Lib.hid h2
          go_wp2_with fail
          refine ret_any ⟨_, by simp [results, Try.results45, go_sem, *]; rfl, ?_⟩ rfl
          refine gives_of ?_ hB
          rw [HR.out]; unfold roomB; rw [inB_ok (K0.out (by omega)).1 (K0.out (by omega)).2, inB_ok (K1.out (by omega)).1 (K1.out (by omega)).2, inB_hi H2.out]; simp
        · go_wp2_with fail
          go_roundw
          case rel => exact ⟨3, by omega, by first | rfl | go_num, fun _ => (K0.out (by omega)), fun _ => (K1.out (by omega)), fun _ => ⟨by omega, by omega⟩, fun h => by omega, fun h => by omega, by first | trivial | rfl⟩
          case measure => simp [intOf]
    · have K0 := Lib.hid k0
      have K1 := Lib.hid k1
      have K2 := Lib.hid k2
      have K3 := Lib.hid k3
      have K4 := Lib.hid k4
      clear k0 k1 k2 k3 k4
      by_cases h1 : ba < 0
      · have H1 := Lib.hid h1
        go_wp2_with fail
        refine ret_any ⟨_, by simp [results, Try.results45, go_sem, *]; rfl, ?_⟩ rfl
        refine gives_of ?_ hB
        rw [HR.out]; unfold roomB; rw [inB_ok (K0.out (by omega)).1 (K0.out (by omega)).2, inB_ok (K1.out (by omega)).1 (K1.out (by omega)).2, inB_ok (K2.out (by omega)).1 (K2.out (by omega)).2, inB_lo H1.out]; simp
      · by_cases h2 : 1048576 < ba
        · have H2 := Lib.hid h2
          go_wp2_with fail
          refine ret_any ⟨_, by simp [results, Try.results45, go_sem, *]; rfl, ?_⟩ rfl
          refine gives_of ?_ hB
          rw [HR.out]; unfold roomB; rw [inB_ok (K0.out (by omega)).1 (K0.out (by omega)).2, inB_ok (K1.out (by omega)).1 (K1.out (by omega)).2, inB_ok (K2.out (by omega)).1 (K2.out (by omega)).2, inB_hi H2.out]; simp
        · go_wp2_with fail
          go_roundw
          case rel => exact ⟨4, by omega, by first | rfl | go_num, fun _ => (K0.out (by omega)), fun _ => (K1.out (by omega)), fun _ => (K2.out (by omega)), fun _ => ⟨by omega, by omega⟩, fun h => by omega, by first | trivial | rfl⟩
          case measure => simp [intOf]
    · have K0 := Lib.hid k0
      have K1 := Lib.hid k1
      have K2 := Lib.hid k2
      have K3 := Lib.hid k3
      have K4 := Lib.hid k4
      clear k0 k1 k2 k3 k4
      by_cases h1 : hi < 0
      · have H1 := Lib.hid h1
        go_wp2_with fail
        refine ret_any ⟨_, by simp [results, Try.results45, go_sem, *]; rfl, ?_⟩ rfl
        refine gives_of ?_ hB
        rw [HR.out]; unfold roomB; rw [inB_ok (K0.out (by omega)).1 (K0.out (by omega)).2, inB_ok (K1.out (by omega)).1 (K1.out (by omega)).2, inB_ok (K2.out (by omega)).1 (K2.out (by omega)).2, inB_ok (K3.out (by omega)).1 (K3.out (by omega)).2, inB_lo H1.out]; simp
      · by_cases h2 : 1048576 < hi
        · have H2 := Lib.hid h2
          go_wp2_with fail
          refine ret_any ⟨_, by simp [results, Try.results45, go_sem, *]; rfl, ?_⟩ rfl
          refine gives_of ?_ hB
          rw [HR.out]; unfold roomB; rw [inB_ok (K0.out (by omega)).1 (K0.out (by omega)).2, inB_ok (K1.out (by omega)).1 (K1.out (by omega)).2, inB_ok (K2.out (by omega)).1 (K2.out (by omega)).2, inB_ok (K3.out (by omega)).1 (K3.out (by omega)).2, inB_hi H2.out]; simp
        · go_wp2_with fail
          go_roundw
          case rel => exact ⟨5, by omega, by first | rfl | go_num, fun _ => (K0.out (by omega)), fun _ => (K1.out (by omega)), fun _ => (K2.out (by omega)), fun _ => (K3.out (by omega)), fun _ => ⟨by omega, by omega⟩, by first | trivial | rfl⟩
          case measure => simp [intOf]
    · obtain ⟨a0, a1⟩ := k0 (by omega)
      obtain ⟨s0, s1⟩ := k1 (by omega)
      obtain ⟨r0, r1⟩ := k2 (by omega)
      obtain ⟨q0, q1⟩ := k3 (by omega)
      obtain ⟨h0, h1⟩ := k4 (by omega)
      clear k0 k1 k2 k3 k4
      have hr : res = decide (8 * ri + sh * (ba + 8) + subsV subs * hi ≤ sl) := by
        rw [HR.out]; unfold roomB
        rw [inB_ok a0 a1, inB_ok s0 s1, inB_ok r0 r1, inB_ok q0 q1, inB_ok h0 h1]; simp
      have HRR := Lib.hid hr
      clear hr
      obtain ⟨p0, p1⟩ := mul_bd (A := 1048576) (B := 1048584) a0 a1 (show 0 ≤ ba + 8 by omega) (show ba + 8 ≤ 1048584 by omega)
      obtain ⟨P, hP⟩ : ∃ P, P = sh * (ba + 8) := ⟨_, rfl⟩
      rw [← hP] at p0 p1
      have hw1 : IntKind.i64.wrap (sh * (ba + 8)) = P := by rw [← hP]; simp only [IntKind.wrap, IntKind.bits, IntKind.signed]; simp; split <;> omega
      have hw2 : wrap64 (sh * (ba + 8)) = P := by rw [← hP]; unfold wrap64; omega
      have HP := Lib.hid hP
      clear hP
      have hc : subs < 0 ∨ subs = 0 ∨ (0 < subs ∧ subs < 64) ∨ subs = 64 ∨ 64 < subs := by omega
      rcases hc with hc | rfl | ⟨hc, hc2⟩ | rfl | hc
      · go_wp2_with fail
        refine ret_any ⟨_, by simp [results, Try.results45, go_sem, *]; rfl, ?_⟩ rfl
        refine gives_of ?_ hB
        rw [HRR.out, ← HP.out, show subsV subs = 0 by unfold subsV; omega]
        try first | rfl | simp
      · go_wp2_with fail
        refine ret_any ⟨_, by simp [results, Try.results45, go_sem, *]; rfl, ?_⟩ rfl
        refine gives_of ?_ hB
        rw [HRR.out, ← HP.out, show subsV 0 = 0 by unfold subsV; omega]
        try first | rfl | simp
      · obtain ⟨m0, m1⟩ := mul_bd (A := 64) (B := 1048576) (show 0 ≤ subs by omega) (show subs ≤ 64 by omega) h0 h1
        obtain ⟨Q, hQ⟩ : ∃ Q, Q = subs * hi := ⟨_, rfl⟩
        rw [← hQ] at m0 m1
        have hw3 : IntKind.i64.wrap (subs * hi) = Q := by rw [← hQ]; simp only [IntKind.wrap, IntKind.bits, IntKind.signed]; simp; split <;> omega
        have hw4 : wrap64 (subs * hi) = Q := by rw [← hQ]; unfold wrap64; omega
        have HQ := Lib.hid hQ
        clear hQ
        go_wp2_with fail
        refine ret_any ⟨_, by simp [results, Try.results45, go_sem, *]; rfl, ?_⟩ rfl
        refine gives_of ?_ hB
        rw [HRR.out, ← HP.out, show subsV subs = subs by unfold subsV; omega, ← HQ.out]
      · go_wp2_with fail
        refine ret_any ⟨_, by simp [results, Try.results45, go_sem, *]; rfl, ?_⟩ rfl
        refine gives_of ?_ hB
        rw [HRR.out, ← HP.out, show subsV 64 = 64 by unfold subsV; omega]
        try first | rfl | simp
      · go_wp2_with fail
        refine ret_any ⟨_, by simp [results, Try.results45, go_sem, *]; rfl, ?_⟩ rfl
        refine gives_of ?_ hB
        rw [HRR.out, ← HP.out, show subsV subs = 64 by unfold subsV; omega]
        try first | rfl | simp
end Go.Proofs.Ytjlclpdjblicjaa
