/-
  The law AuditRoom as a walk. No condition but that the arguments fit their types.
-/
import Derived.Test.YtjlclpdjblicjaaAuditRoomI
namespace Go.Proofs.Ytjlclpdjblicjaa
open Go.RowKit Go.Sort Go.BigFrame
set_option linter.unusedVariables false
attribute [local go_sem ↓] Go.wp_at_zero Go.wp_at_succ
set_option maxRecDepth 100000 in
set_option maxHeartbeats 8000000 in
theorem auditRoom_ok (v0 v1 v2 : Value) (w : World) (h0 : Arg Try.prog w 73 v0) (h1 : Arg Try.prog w 3 v1) (h2 : Arg Try.prog w 3 v2) : Calls Try.prog 14 #[v0, v1, v2] w (Gives (.bool true) w) := by
  obtain ⟨sh, sl, ri, ba, hi, rfl, hsh, hsl, hri, hba, hhi⟩ := arg_conf h0
  obtain ⟨su, rfl, hsu, hsu'⟩ := arg_i64 Try.underlying3 h1
  obtain ⟨mo, rfl, hmo, hmo'⟩ := arg_i64 Try.underlying3 h2
  unfold isI64 at hsh hsl hri hba hhi
  clear h0 h1 h2
  go_enter Try.func14, Try.ntmps14
  go_wp2_with (first | (go_at_call 36; refine (shown28 _).mono ?_; rintro e w1 ⟨rfl, hb1⟩; have ha1 : After _ w1 := ⟨hb1⟩; obtain ⟨hc1, hf1⟩ := after hb1; have hz1 := hb1.size; try simp at hz1))
  obtain ⟨W, hW⟩ : ∃ W, W = w1.alloc (.cells #[.int .i64 sh, .int .i64 sl, .int .i64 ri, .int .i64 ba, .int .i64 hi] 3) := ⟨_, rfl⟩
  have b1 : BlkIs W w.heap.size #[.int .i64 sh, .int .i64 sl, .int .i64 ri, .int .i64 ba, .int .i64 hi] 73 := by rw [hW]; infer_instance
  have b2 : BlkIs W w1.heap.size #[.int .i64 sh, .int .i64 sl, .int .i64 ri, .int .i64 ba, .int .i64 hi] 3 := by rw [hW]; infer_instance
  have hB : RowKit.Below w.heap.size w W := by rw [hW]; exact (by repeat (first | with_reducible exact Below.refl _ _ | (with_reducible refine Below.alloc ?_ ?_ _; rotate_left; focus ((try simp) <;> omega)) | (with_reducible refine Below.setCell ?_ ?_ _; rotate_left; focus ((try simp) <;> omega)) | (with_reducible refine below_grow ?_ ?_; rotate_left; focus ((try simp) <;> omega)) | (with_reducible refine below_putB ?_ ?_; rotate_left; focus ((try simp) <;> omega)) | with_reducible refine Below.drew ?_ | with_reducible refine below_drewN ?_ | with_reducible assumption | (with_reducible refine below_step (by assumption) ?_ ?_; rotate_left; focus ((try simp) <;> omega))))
  have hBs := hB.size
  rw [← hW]
  clear hW
  go_loopw [27] (fun s wr => ∃ k : Nat, k ≤ 5 ∧ s = .int .i64 k ∧ (0 < k → 0 ≤ sh ∧ sh ≤ 1000) ∧ (1 < k → 0 ≤ sl ∧ sl ≤ 1000) ∧ (2 < k → 0 ≤ ri ∧ ri ≤ 1000) ∧ (3 < k → 0 ≤ ba ∧ ba ≤ 1000) ∧ (4 < k → 0 ≤ hi ∧ hi ≤ 1000) ∧ wr = W) (fun i _ => 5 - (intOf i).toNat)
  case atStart => exact ⟨0, by omega, rfl, by omega, by omega, by omega, by omega, by omega, rfl⟩
  case round =>
    obtain ⟨k, hk, rfl, k0, k1, k2, k3, k4, rfl⟩ := hrel
    rcases (show k = 0 ∨ k = 1 ∨ k = 2 ∨ k = 3 ∨ k = 4 ∨ k = 5 by omega) with rfl | rfl | rfl | rfl | rfl | rfl
    · have K0 := Lib.hid k0
      have K1 := Lib.hid k1
      have K2 := Lib.hid k2
      have K3 := Lib.hid k3
      have K4 := Lib.hid k4
      clear k0 k1 k2 k3 k4
      by_cases hbad : sh < 0 ∨ 1000 < sh
      · by_cases hroom : roomB sh sl ri ba hi su = true
        · have hin := roomB_iff.1 hroom
          have hv0 : 0 ≤ sh := by omega
          have hv1 : sh ≤ 1048576 := by omega
          have hv2 : 1000 < sh := by omega
          clear hin hbad
          have HR := Lib.hid hroom
          clear hroom
          go_wp2_with (first | (go_at_call 44; refine (auditRoomR sh sl ri ba hi su _).mono ?_; rintro e w2 ⟨rfl, hb2⟩; have ha2 : After _ w2 := ⟨hb2⟩; rw [HR.out]))
          refine ret_any ⟨_, by simp [results, Try.results14, go_sem, *]; rfl, ?_⟩ rfl
          exact gives_of rfl (hB.trans (hb2.mono hBs))
        · have hroom' : roomB sh sl ri ba hi su = false := by simpa using hroom
          have HR := Lib.hid hroom'
          clear hroom hroom'
          rcases hbad with hbad | hbad
          all_goals (
            go_wp2_with (first | (go_at_call 44; refine (auditRoomR sh sl ri ba hi su _).mono ?_; rintro e w2 ⟨rfl, hb2⟩; have ha2 : After _ w2 := ⟨hb2⟩; rw [HR.out]))
            refine ret_any ⟨_, by simp [results, Try.results14, go_sem, *]; rfl, ?_⟩ rfl
            exact gives_of rfl (hB.trans (hb2.mono hBs)))
      · obtain ⟨hv0, hv1⟩ : 0 ≤ sh ∧ sh ≤ 1000 := by omega
        clear hbad
        go_wp2_with fail
        go_roundw
        case rel => exact ⟨1, by omega, by first | rfl | go_num, fun _ => ⟨hv0, hv1⟩, fun h => by omega, fun h => by omega, fun h => by omega, fun h => by omega, by first | trivial | rfl⟩
        case measure => simp [intOf]
    · have K0 := Lib.hid k0
      have K1 := Lib.hid k1
      have K2 := Lib.hid k2
      have K3 := Lib.hid k3
      have K4 := Lib.hid k4
      clear k0 k1 k2 k3 k4
      by_cases hbad : sl < 0 ∨ 1000 < sl
      · by_cases hroom : roomB sh sl ri ba hi su = true
        · have hin := roomB_iff.1 hroom
          have hv0 : 0 ≤ sl := by omega
          have hv1 : sl ≤ 1048576 := by omega
          have hv2 : 1000 < sl := by omega
          clear hin hbad
          have HR := Lib.hid hroom
          clear hroom
          go_wp2_with (first | (go_at_call 44; refine (auditRoomR sh sl ri ba hi su _).mono ?_; rintro e w2 ⟨rfl, hb2⟩; have ha2 : After _ w2 := ⟨hb2⟩; rw [HR.out]))
          refine ret_any ⟨_, by simp [results, Try.results14, go_sem, *]; rfl, ?_⟩ rfl
          exact gives_of rfl (hB.trans (hb2.mono hBs))
        · have hroom' : roomB sh sl ri ba hi su = false := by simpa using hroom
          have HR := Lib.hid hroom'
          clear hroom hroom'
          rcases hbad with hbad | hbad
          all_goals (
            go_wp2_with (first | (go_at_call 44; refine (auditRoomR sh sl ri ba hi su _).mono ?_; rintro e w2 ⟨rfl, hb2⟩; have ha2 : After _ w2 := ⟨hb2⟩; rw [HR.out]))
            refine ret_any ⟨_, by simp [results, Try.results14, go_sem, *]; rfl, ?_⟩ rfl
            exact gives_of rfl (hB.trans (hb2.mono hBs)))
      · obtain ⟨hv0, hv1⟩ : 0 ≤ sl ∧ sl ≤ 1000 := by omega
        clear hbad
        go_wp2_with fail
        go_roundw
        case rel => exact ⟨2, by omega, by first | rfl | go_num, fun _ => K0.out (by omega), fun _ => ⟨hv0, hv1⟩, fun h => by omega, fun h => by omega, fun h => by omega, by first | trivial | rfl⟩
        case measure => simp [intOf]
    · have K0 := Lib.hid k0
      have K1 := Lib.hid k1
      have K2 := Lib.hid k2
      have K3 := Lib.hid k3
      have K4 := Lib.hid k4
      clear k0 k1 k2 k3 k4
      by_cases hbad : ri < 0 ∨ 1000 < ri
      · by_cases hroom : roomB sh sl ri ba hi su = true
        · have hin := roomB_iff.1 hroom
          have hv0 : 0 ≤ ri := by omega
          have hv1 : ri ≤ 1048576 := by omega
          have hv2 : 1000 < ri := by omega
          clear hin hbad
          have HR := Lib.hid hroom
          clear hroom
          go_wp2_with (first | (go_at_call 44; refine (auditRoomR sh sl ri ba hi su _).mono ?_; rintro e w2 ⟨rfl, hb2⟩; have ha2 : After _ w2 := ⟨hb2⟩; rw [HR.out]))
          refine ret_any ⟨_, by simp [results, Try.results14, go_sem, *]; rfl, ?_⟩ rfl
          exact gives_of rfl (hB.trans (hb2.mono hBs))
        · have hroom' : roomB sh sl ri ba hi su = false := by simpa using hroom
          have HR := Lib.hid hroom'
          clear hroom hroom'
          rcases hbad with hbad | hbad
          all_goals (
            go_wp2_with (first | (go_at_call 44; refine (auditRoomR sh sl ri ba hi su _).mono ?_; rintro e w2 ⟨rfl, hb2⟩; have ha2 : After _ w2 := ⟨hb2⟩; rw [HR.out]))
            refine ret_any ⟨_, by simp [results, Try.results14, go_sem, *]; rfl, ?_⟩ rfl
            exact gives_of rfl (hB.trans (hb2.mono hBs)))
      · obtain ⟨hv0, hv1⟩ : 0 ≤ ri ∧ ri ≤ 1000 := by omega
        clear hbad
        go_wp2_with fail
        go_roundw
        case rel => exact ⟨3, by omega, by first | rfl | go_num, fun _ => K0.out (by omega), fun _ => K1.out (by omega), fun _ => ⟨hv0, hv1⟩, fun h => by omega, fun h => by omega, by first | trivial | rfl⟩
        case measure => simp [intOf]
    · have K0 := Lib.hid k0
      have K1 := Lib.hid k1
      have K2 := Lib.hid k2
      have K3 := Lib.hid k3
      have K4 := Lib.hid k4
      clear k0 k1 k2 k3 k4
      by_cases hbad : ba < 0 ∨ 1000 < ba
      · by_cases hroom : roomB sh sl ri ba hi su = true
        · have hin := roomB_iff.1 hroom
          have hv0 : 0 ≤ ba := by omega
          have hv1 : ba ≤ 1048576 := by omega
          have hv2 : 1000 < ba := by omega
          clear hin hbad
          have HR := Lib.hid hroom
          clear hroom
          go_wp2_with (first | (go_at_call 44; refine (auditRoomR sh sl ri ba hi su _).mono ?_; rintro e w2 ⟨rfl, hb2⟩; have ha2 : After _ w2 := ⟨hb2⟩; rw [HR.out]))
          refine ret_any ⟨_, by simp [results, Try.results14, go_sem, *]; rfl, ?_⟩ rfl
          exact gives_of rfl (hB.trans (hb2.mono hBs))
        · have hroom' : roomB sh sl ri ba hi su = false := by simpa using hroom
          have HR := Lib.hid hroom'
          clear hroom hroom'
          rcases hbad with hbad | hbad
          all_goals (
            go_wp2_with (first | (go_at_call 44; refine (auditRoomR sh sl ri ba hi su _).mono ?_; rintro e w2 ⟨rfl, hb2⟩; have ha2 : After _ w2 := ⟨hb2⟩; rw [HR.out]))
            refine ret_any ⟨_, by simp [results, Try.results14, go_sem, *]; rfl, ?_⟩ rfl
            exact gives_of rfl (hB.trans (hb2.mono hBs)))
      · obtain ⟨hv0, hv1⟩ : 0 ≤ ba ∧ ba ≤ 1000 := by omega
        clear hbad
        go_wp2_with fail
        go_roundw
        case rel => exact ⟨4, by omega, by first | rfl | go_num, fun _ => K0.out (by omega), fun _ => K1.out (by omega), fun _ => K2.out (by omega), fun _ => ⟨hv0, hv1⟩, fun h => by omega, by first | trivial | rfl⟩
        case measure => simp [intOf]
    · have K0 := Lib.hid k0
      have K1 := Lib.hid k1
      have K2 := Lib.hid k2
      have K3 := Lib.hid k3
      have K4 := Lib.hid k4
      clear k0 k1 k2 k3 k4
      by_cases hbad : hi < 0 ∨ 1000 < hi
      · by_cases hroom : roomB sh sl ri ba hi su = true
        · have hin := roomB_iff.1 hroom
          have hv0 : 0 ≤ hi := by omega
          have hv1 : hi ≤ 1048576 := by omega
          have hv2 : 1000 < hi := by omega
          clear hin hbad
          have HR := Lib.hid hroom
          clear hroom
          go_wp2_with (first | (go_at_call 44; refine (auditRoomR sh sl ri ba hi su _).mono ?_; rintro e w2 ⟨rfl, hb2⟩; have ha2 : After _ w2 := ⟨hb2⟩; rw [HR.out]))
          refine ret_any ⟨_, by simp [results, Try.results14, go_sem, *]; rfl, ?_⟩ rfl
          exact gives_of rfl (hB.trans (hb2.mono hBs))
        · have hroom' : roomB sh sl ri ba hi su = false := by simpa using hroom
          have HR := Lib.hid hroom'
          clear hroom hroom'
          rcases hbad with hbad | hbad
          all_goals (
            go_wp2_with (first | (go_at_call 44; refine (auditRoomR sh sl ri ba hi su _).mono ?_; rintro e w2 ⟨rfl, hb2⟩; have ha2 : After _ w2 := ⟨hb2⟩; rw [HR.out]))
            refine ret_any ⟨_, by simp [results, Try.results14, go_sem, *]; rfl, ?_⟩ rfl
            exact gives_of rfl (hB.trans (hb2.mono hBs)))
      · obtain ⟨hv0, hv1⟩ : 0 ≤ hi ∧ hi ≤ 1000 := by omega
        clear hbad
        go_wp2_with fail
        go_roundw
        case rel => exact ⟨5, by omega, by first | rfl | go_num, fun _ => K0.out (by omega), fun _ => K1.out (by omega), fun _ => K2.out (by omega), fun _ => K3.out (by omega), fun _ => ⟨hv0, hv1⟩, by first | trivial | rfl⟩
        case measure => simp [intOf]
    · obtain ⟨a0, a1⟩ := k0 (by omega)
      obtain ⟨s0, s1⟩ := k1 (by omega)
      obtain ⟨r0, r1⟩ := k2 (by omega)
      obtain ⟨q0, q1⟩ := k3 (by omega)
      obtain ⟨h0, h1⟩ := k4 (by omega)
      clear k0 k1 k2 k3 k4
      by_cases hm : mo < 0
      · go_wp2_with fail
        refine ret_any ⟨_, by simp [results, Try.results14, go_sem, *]; rfl, ?_⟩ rfl
        exact gives_of rfl hB
      by_cases hm2 : 1000 < mo
      · go_wp2_with fail
        refine ret_any ⟨_, by simp [results, Try.results14, go_sem, *]; rfl, ?_⟩ rfl
        exact gives_of rfl hB
      by_cases hs : su < 0
      · go_wp2_with fail
        refine ret_any ⟨_, by simp [results, Try.results14, go_sem, *]; rfl, ?_⟩ rfl
        exact gives_of rfl hB
      by_cases hs2 : 60 < su
      · go_wp2_with fail
        refine ret_any ⟨_, by simp [results, Try.results14, go_sem, *]; rfl, ?_⟩ rfl
        exact gives_of rfl hB
      go_wp2_with fail
      have b1' := b1
      refine wp_region_noPanic ?_
      refine wp_region_held_drew (S := (fun w' => BlkIs w' w.heap.size #[.int .i64 sh, .int .i64 sl, .int .i64 ri, .int .i64 ba, .int .i64 hi] 73)) (by kernel_rfl) (by (try dsimp only); infer_instance) (fun hHeld => ?_)
      refine wpAnyH_take (i := 0) (oi := _) (v := ?_) (by simp only [List.getElem?_toArray, List.getElem?_cons_zero]; rfl) (by kernel_rfl) (by kernel_rfl) (by kernel_rfl) (fun _ _ _ h => h) (Or.inl ⟨by rfl, ?_⟩) (by assumption) ?_
      rotate_left
      focus (intro w hSw; (try dsimp only at hSw); (try have hS1 := hSw.1); (try have hS2 := hSw.2); (try have hS3 := hSw.2.1); (try have hS4 := hSw.2.2); go_simp; try with_reducible rfl)
      (try simp only [Act.put, List.setIfInBounds_toArray, List.set_cons_zero, List.set_cons_succ])
      refine wpAnyH_take (i := 1) (oi := _) (v := ?_) (by simp only [List.getElem?_toArray, List.getElem?_cons_succ, List.getElem?_cons_zero]; rfl) (by kernel_rfl) (by kernel_rfl) (by kernel_rfl) (fun _ _ _ h => h) (Or.inl ⟨by rfl, ?_⟩) (by assumption) ?_
      rotate_left
      focus (intro w hSw; (try dsimp only at hSw); (try have hS1 := hSw.1); (try have hS2 := hSw.2); (try have hS3 := hSw.2.1); (try have hS4 := hSw.2.2); go_simp; try with_reducible rfl)
      (try simp only [Act.put, List.setIfInBounds_toArray, List.set_cons_zero, List.set_cons_succ])
      refine wpAnyH_ready (rs := [2, 3]) (by kernel_rfl) (by simp) ?_
      refine AllReadyH.cons (o := _) (by simp only [List.getElem?_toArray, List.getElem?_cons_succ, List.getElem?_cons_zero]; rfl) (fun K hK => ?_) (AllReadyH.cons (o := _) (by simp only [List.getElem?_toArray, List.getElem?_cons_succ, List.getElem?_cons_zero]; rfl) (fun K hK => ?_) AllReadyH.nil)
      · go_simp
        refine hK.out _ _ (by (try dsimp only); infer_instance) (fun hHeld => ?_)
        clear hK K
        (try simp only [Act.put, List.setIfInBounds_toArray, List.set_cons_zero, List.set_cons_succ])
        refine wpAnyH_ready (rs := [3]) (by kernel_rfl) (by simp) ?_
        refine AllReadyH.cons (o := _) (by simp only [List.getElem?_toArray, List.getElem?_cons_succ, List.getElem?_cons_zero]; rfl) (fun K hK => ?_) AllReadyH.nil
        go_simp
        refine hK.out _ _ (by (try dsimp only); infer_instance) (fun hHeld => ?_)
        clear hK K
        (try simp only [Act.put, List.setIfInBounds_toArray, List.set_cons_zero, List.set_cons_succ])
        refine wpAnyH_ready (rs := [4]) (by kernel_rfl) (by simp) ?_
        refine AllReadyH.cons (o := _) (by simp only [List.getElem?_toArray, List.getElem?_cons_succ, List.getElem?_cons_zero]; rfl) (fun K hK => ?_) AllReadyH.nil
        go_simp
        refine hK.out _ _ (by (try dsimp only); infer_instance) (fun hHeld => ?_)
        clear hK K
        (try simp only [Act.put, List.setIfInBounds_toArray, List.set_cons_zero, List.set_cons_succ])
        refine wpAnyH_ready (rs := [5]) (by kernel_rfl) (by simp) ?_
        refine AllReadyH.cons (o := _) (by simp only [List.getElem?_toArray, List.getElem?_cons_succ, List.getElem?_cons_zero]; rfl) (fun K hK => ?_) AllReadyH.nil
        go_simp
        refine hK.out _ _ (by (try dsimp only); infer_instance) (fun hHeld => ?_)
        clear hK K
        (try simp only [Act.put, List.setIfInBounds_toArray, List.set_cons_zero, List.set_cons_succ])
        refine wpAnyH_done (by kernel_rfl) ?_ _
        refine NoPanic.normal ?_
        go_wp2_with fail
        have B0 := hB
        by_cases hr0 : roomB sh sl ri ba hi su = true
        · have G0 := Lib.hid hr0
          have G1 := Lib.hid (room_slots (m := mo) hr0 s1 (by omega) (by omega))
          clear hr0
          refine (auditRoomR sh sl ri ba hi su _).mono ?_
          rintro e w2 ⟨rfl, hb2⟩; have ha2 : After _ w2 := ⟨hb2⟩
          have B2 : RowKit.Below w.heap.size w w2 := (by repeat (first | with_reducible exact Below.refl _ _ | (with_reducible refine Below.alloc ?_ ?_ _; rotate_left; focus ((try simp) <;> omega)) | (with_reducible refine Below.setCell ?_ ?_ _; rotate_left; focus ((try simp) <;> omega)) | (with_reducible refine below_grow ?_ ?_; rotate_left; focus ((try simp) <;> omega)) | (with_reducible refine below_putB ?_ ?_; rotate_left; focus ((try simp) <;> omega)) | with_reducible refine Below.drew ?_ | with_reducible refine below_drewN ?_ | with_reducible assumption | (with_reducible refine below_step (by assumption) ?_ ?_; rotate_left; focus ((try simp) <;> omega))))
          rw [G0.out]
          go_wp2_with fail
          refine (auditRoomR sh (sl + mo) ri ba hi su _).mono ?_
          rintro e w3 ⟨rfl, hb3⟩; have ha3 : After _ w3 := ⟨hb3⟩
          have B3 : RowKit.Below w.heap.size w w3 := B2.trans (hb3.mono B2.size)
          rw [G1.out]
          go_wp2_with fail
          refine ret_any ⟨_, by simp [results, Try.results14, go_sem, *]; rfl, ?_⟩ rfl
          exact gives_of rfl B3
        · have n0 : roomB sh sl ri ba hi su = false := by simpa using hr0
          have n1 : roomB sh sl (ri + mo) ba hi su = false := by cases e : roomB sh sl (ri + mo) ba hi su with | false => rfl | true => exact absurd (room_rings e r0 (by omega)) hr0
          have n2 : roomB sh sl ri ba (hi + mo) su = false := by cases e : roomB sh sl ri ba (hi + mo) su with | false => rfl | true => exact absurd (room_hands e h0 (by omega)) hr0
          have n3 : roomB sh sl ri ba hi (su + 1) = false := by cases e : roomB sh sl ri ba hi (su + 1) with | false => rfl | true => exact absurd (room_subs e) hr0
          have G0 := Lib.hid n0
          have G1 := Lib.hid n1
          have G2 := Lib.hid n2
          have G3 := Lib.hid n3
          clear hr0 n0 n1 n2 n3
          refine (auditRoomR sh sl ri ba hi su _).mono ?_
          rintro e w2 ⟨rfl, hb2⟩; have ha2 : After _ w2 := ⟨hb2⟩
          have B2 : RowKit.Below w.heap.size w w2 := (by repeat (first | with_reducible exact Below.refl _ _ | (with_reducible refine Below.alloc ?_ ?_ _; rotate_left; focus ((try simp) <;> omega)) | (with_reducible refine Below.setCell ?_ ?_ _; rotate_left; focus ((try simp) <;> omega)) | (with_reducible refine below_grow ?_ ?_; rotate_left; focus ((try simp) <;> omega)) | (with_reducible refine below_putB ?_ ?_; rotate_left; focus ((try simp) <;> omega)) | with_reducible refine Below.drew ?_ | with_reducible refine below_drewN ?_ | with_reducible assumption | (with_reducible refine below_step (by assumption) ?_ ?_; rotate_left; focus ((try simp) <;> omega))))
          rw [G0.out]
          go_wp2_with fail
          refine (auditRoomR sh sl (ri + mo) ba hi su _).mono ?_
          rintro e w3 ⟨rfl, hb3⟩; have ha3 : After _ w3 := ⟨hb3⟩
          have B3 : RowKit.Below w.heap.size w w3 := B2.trans (hb3.mono B2.size)
          rw [G1.out]
          go_wp2_with fail
          refine (auditRoomR sh sl ri ba (hi + mo) su _).mono ?_
          rintro e w4 ⟨rfl, hb4⟩; have ha4 : After _ w4 := ⟨hb4⟩
          have B4 : RowKit.Below w.heap.size w w4 := B3.trans (hb4.mono B3.size)
          rw [G2.out]
          go_wp2_with fail
          refine (auditRoomR sh sl ri ba hi (su + 1) _).mono ?_
          rintro e w5 ⟨rfl, hb5⟩; have ha5 : After _ w5 := ⟨hb5⟩
          have B5 : RowKit.Below w.heap.size w w5 := B4.trans (hb5.mono B4.size)
          rw [G3.out]
          go_wp2_with fail
          refine ret_any ⟨_, by simp [results, Try.results14, go_sem, *]; rfl, ?_⟩ rfl
          exact gives_of rfl B5
      · go_simp
        refine hK.out _ _ (by (try dsimp only); infer_instance) (fun hHeld => ?_)
        clear hK K
        (try simp only [Act.put, List.setIfInBounds_toArray, List.set_cons_zero, List.set_cons_succ])
        refine wpAnyH_ready (rs := [2]) (by kernel_rfl) (by simp) ?_
        refine AllReadyH.cons (o := _) (by simp only [List.getElem?_toArray, List.getElem?_cons_succ, List.getElem?_cons_zero]; rfl) (fun K hK => ?_) AllReadyH.nil
        go_simp
        refine hK.out _ _ (by (try dsimp only); infer_instance) (fun hHeld => ?_)
        clear hK K
        (try simp only [Act.put, List.setIfInBounds_toArray, List.set_cons_zero, List.set_cons_succ])
        refine wpAnyH_ready (rs := [4]) (by kernel_rfl) (by simp) ?_
        refine AllReadyH.cons (o := _) (by simp only [List.getElem?_toArray, List.getElem?_cons_succ, List.getElem?_cons_zero]; rfl) (fun K hK => ?_) AllReadyH.nil
        go_simp
        refine hK.out _ _ (by (try dsimp only); infer_instance) (fun hHeld => ?_)
        clear hK K
        (try simp only [Act.put, List.setIfInBounds_toArray, List.set_cons_zero, List.set_cons_succ])
        refine wpAnyH_ready (rs := [5]) (by kernel_rfl) (by simp) ?_
        refine AllReadyH.cons (o := _) (by simp only [List.getElem?_toArray, List.getElem?_cons_succ, List.getElem?_cons_zero]; rfl) (fun K hK => ?_) AllReadyH.nil
        go_simp
        refine hK.out _ _ (by (try dsimp only); infer_instance) (fun hHeld => ?_)
        clear hK K
        (try simp only [Act.put, List.setIfInBounds_toArray, List.set_cons_zero, List.set_cons_succ])
        refine wpAnyH_done (by kernel_rfl) ?_ _
        refine NoPanic.normal ?_
        go_wp2_with fail
        have B0 := hB
        by_cases hr0 : roomB sh sl ri ba hi su = true
        · have G0 := Lib.hid hr0
          have G1 := Lib.hid (room_slots (m := mo) hr0 s1 (by omega) (by omega))
          clear hr0
          refine (auditRoomR sh sl ri ba hi su _).mono ?_
          rintro e w2 ⟨rfl, hb2⟩; have ha2 : After _ w2 := ⟨hb2⟩
          have B2 : RowKit.Below w.heap.size w w2 := (by repeat (first | with_reducible exact Below.refl _ _ | (with_reducible refine Below.alloc ?_ ?_ _; rotate_left; focus ((try simp) <;> omega)) | (with_reducible refine Below.setCell ?_ ?_ _; rotate_left; focus ((try simp) <;> omega)) | (with_reducible refine below_grow ?_ ?_; rotate_left; focus ((try simp) <;> omega)) | (with_reducible refine below_putB ?_ ?_; rotate_left; focus ((try simp) <;> omega)) | with_reducible refine Below.drew ?_ | with_reducible refine below_drewN ?_ | with_reducible assumption | (with_reducible refine below_step (by assumption) ?_ ?_; rotate_left; focus ((try simp) <;> omega))))
          rw [G0.out]
          go_wp2_with fail
          refine (auditRoomR sh (sl + mo) ri ba hi su _).mono ?_
          rintro e w3 ⟨rfl, hb3⟩; have ha3 : After _ w3 := ⟨hb3⟩
          have B3 : RowKit.Below w.heap.size w w3 := B2.trans (hb3.mono B2.size)
          rw [G1.out]
          go_wp2_with fail
          refine ret_any ⟨_, by simp [results, Try.results14, go_sem, *]; rfl, ?_⟩ rfl
          exact gives_of rfl B3
        · have n0 : roomB sh sl ri ba hi su = false := by simpa using hr0
          have n1 : roomB sh sl (ri + mo) ba hi su = false := by cases e : roomB sh sl (ri + mo) ba hi su with | false => rfl | true => exact absurd (room_rings e r0 (by omega)) hr0
          have n2 : roomB sh sl ri ba (hi + mo) su = false := by cases e : roomB sh sl ri ba (hi + mo) su with | false => rfl | true => exact absurd (room_hands e h0 (by omega)) hr0
          have n3 : roomB sh sl ri ba hi (su + 1) = false := by cases e : roomB sh sl ri ba hi (su + 1) with | false => rfl | true => exact absurd (room_subs e) hr0
          have G0 := Lib.hid n0
          have G1 := Lib.hid n1
          have G2 := Lib.hid n2
          have G3 := Lib.hid n3
          clear hr0 n0 n1 n2 n3
          refine (auditRoomR sh sl ri ba hi su _).mono ?_
          rintro e w2 ⟨rfl, hb2⟩; have ha2 : After _ w2 := ⟨hb2⟩
          have B2 : RowKit.Below w.heap.size w w2 := (by repeat (first | with_reducible exact Below.refl _ _ | (with_reducible refine Below.alloc ?_ ?_ _; rotate_left; focus ((try simp) <;> omega)) | (with_reducible refine Below.setCell ?_ ?_ _; rotate_left; focus ((try simp) <;> omega)) | (with_reducible refine below_grow ?_ ?_; rotate_left; focus ((try simp) <;> omega)) | (with_reducible refine below_putB ?_ ?_; rotate_left; focus ((try simp) <;> omega)) | with_reducible refine Below.drew ?_ | with_reducible refine below_drewN ?_ | with_reducible assumption | (with_reducible refine below_step (by assumption) ?_ ?_; rotate_left; focus ((try simp) <;> omega))))
          rw [G0.out]
          go_wp2_with fail
          refine (auditRoomR sh sl (ri + mo) ba hi su _).mono ?_
          rintro e w3 ⟨rfl, hb3⟩; have ha3 : After _ w3 := ⟨hb3⟩
          have B3 : RowKit.Below w.heap.size w w3 := B2.trans (hb3.mono B2.size)
          rw [G1.out]
          go_wp2_with fail
          refine (auditRoomR sh sl ri ba (hi + mo) su _).mono ?_
          rintro e w4 ⟨rfl, hb4⟩; have ha4 : After _ w4 := ⟨hb4⟩
          have B4 : RowKit.Below w.heap.size w w4 := B3.trans (hb4.mono B3.size)
          rw [G2.out]
          go_wp2_with fail
          refine (auditRoomR sh sl ri ba hi (su + 1) _).mono ?_
          rintro e w5 ⟨rfl, hb5⟩; have ha5 : After _ w5 := ⟨hb5⟩
          have B5 : RowKit.Below w.heap.size w w5 := B4.trans (hb5.mono B4.size)
          rw [G3.out]
          go_wp2_with fail
          refine ret_any ⟨_, by simp [results, Try.results14, go_sem, *]; rfl, ?_⟩ rfl
          exact gives_of rfl B5
end Go.Proofs.Ytjlclpdjblicjaa
