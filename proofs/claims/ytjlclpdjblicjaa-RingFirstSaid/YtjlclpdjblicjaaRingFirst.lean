/-
  The law RingFirst as a walk. No condition but that the arguments fit their types.
-/
import Derived.Test.YtjlclpdjblicjaaRingFirstI
namespace Go.Proofs.Ytjlclpdjblicjaa
open Go.RowKit Go.Sort Go.BigFrame
set_option linter.unusedVariables false
attribute [local go_sem ↓] Go.wp_at_zero Go.wp_at_succ
set_option maxRecDepth 100000 in
set_option maxHeartbeats 4000000 in
theorem ringFirst_ok (v0 v1 : Value) (w : World) (h0 : Arg Try.prog w 3 v0) (h1 : Arg Try.prog w 22 v1) : Calls Try.prog 4 #[v0, v1] w (Gives (.bool true) w) := by
  obtain ⟨m, rfl, hm, hm'⟩ := arg_i64 Try.underlying3 h0
  obtain ⟨a, len, cap, he, hlen, hcell⟩ := fit_rowAct rfl (arg_slice Try.underlying22 h1)
  simp only [List.cons.injEq, and_true] at he
  subst he
  clear h0 h1
  unfold maxLen at hlen
  obtain ⟨c, hc⟩ : ∃ c : Nat, c = (max 1 (min m 256)).toNat := ⟨_, rfl⟩
  have hcm : (m ≤ 1 ∧ c = 1) ∨ (256 < m ∧ c = 256) ∨ (1 < m ∧ m ≤ 256 ∧ m = c) := by omega
  have c0 : 0 < c := by omega
  have c1 : c ≤ 256 := by omega
  have HCM := Lib.hid hcm
  have HC := Lib.hid hcell
  clear hc hcm hcell
  obtain ⟨i0, hi, hz0, hz1, hz2⟩ := info_parts info32
  have HI := And.intro (Lib.hid hi) (And.intro (Lib.hid hz0) (And.intro (Lib.hid hz1) (Lib.hid hz2)))
  clear hi hz0 hz1 hz2
  go_enter Try.func4, Try.ntmps4
  go_wp2_with (first | (go_at_call 15; refine (shown13 _).mono ?_; rintro e w1 ⟨rfl, hb1⟩; have ha1 : After _ w1 := ⟨hb1⟩; obtain ⟨hc1, hf1⟩ := after hb1; have hz1 := hb1.size; try simp at hz1))
  obtain ⟨W, hW⟩ : ∃ W : World, W = w1 := ⟨_, rfl⟩
  subst hW
  have hWb : RowKit.Below w.heap.size w W := (by repeat (first | with_reducible exact Below.refl _ _ | (with_reducible refine Below.alloc ?_ ?_ _; rotate_left; focus ((try simp) <;> omega)) | (with_reducible refine Below.setCell ?_ ?_ _; rotate_left; focus ((try simp) <;> omega)) | (with_reducible refine below_grow ?_ ?_; rotate_left; focus ((try simp) <;> omega)) | with_reducible refine Below.drew ?_ | with_reducible refine below_drewN ?_ | with_reducible assumption | (with_reducible refine below_step (by assumption) ?_ ?_; rotate_left; focus ((try simp) <;> omega))))
  have hWs := hWb.size
  clear hc1 hf1 ha1 hb1
  refine (newMid c _ m hm hm' c0 c1 HCM.out).mono ?_; rintro e ws ⟨b, rfl, hlb, H1, A1, B1⟩
  obtain ⟨g, hg⟩ : ∃ g, g = W.heap.size := ⟨_, rfl⟩
  have hlg : W.heap.size ≤ g := Nat.le_of_eq hg.symm
  rw [← hg] at H1 A1
  have F0 : FirstI W ws b g c (.slice none 0 0) (.slice none 0 0) 0 0 0 _ [] [] := ⟨H1, A1, by simp [ringL], by simp, World.ownsRow_nil _ _ _ _, World.ownsRow_nil _ _ _ _, by simp [Value.ownBlock], by simp [Value.ownBlock], by simp [Value.ownBlock], by simp [Value.ownBlock], by simp [Value.ownBlock], B1⟩
  clear hg H1 A1 B1
  go_wp2
  go_loopw [6, 7, 8] (fun s6 s7 s8 wr => ∃ (k f n : Nat) (A : Nat → Int × Int × Int × Int) (I O : List (Int × Int × Int × Int)), k ≤ len ∧ k ≤ 400 ∧ s8 = .int .i64 k ∧ FirstI W wr b g c s6 s7 k f n A I O) (fun _ _ i _ => len - (intOf i).toNat)
  case atStart => exact ⟨0, 0, 0, _, [], [], by omega, by omega, rfl, F0⟩
  case round =>
    clear F0
    obtain ⟨k, f, n, A, I, O, hk, hk4, rfl, J⟩ := hrel
    have hbel := J.bel
    have hbs := hbel.size
    have hIl := J.len
    have hOl : O.length ≤ I.length := by rw [J.eq]; simp
    by_cases hkk : k < len ∧ k < 400
    · obtain ⟨hkl, hk4'⟩ := hkk
      · obtain ⟨ab, off, p, x, y, z, u, rfl, hab, q0, q1, q2, q3, q4⟩ := HC.out k hkl
        have habW : ab < W.heap.size := by omega
        have e0 : wr.cell? ⟨ab, off + k * 5, none⟩ = some (.bool p) := by rw [hbel.cell (by simpa using habW), hWb.cell (by simpa using hab)]; exact q0
        have e1 : wr.cell? ⟨ab, off + k * 5 + 1, none⟩ = some (.int .i64 x) := by rw [hbel.cell (by simpa using habW), hWb.cell (by simpa using hab)]; exact q1
        have e2 : wr.cell? ⟨ab, off + k * 5 + 2, none⟩ = some (.int .i64 y) := by rw [hbel.cell (by simpa using habW), hWb.cell (by simpa using hab)]; exact q2
        have e3 : wr.cell? ⟨ab, off + k * 5 + 3, none⟩ = some (.int .i64 z) := by rw [hbel.cell (by simpa using habW), hWb.cell (by simpa using hab)]; exact q3
        have e4 : wr.cell? ⟨ab, off + k * 5 + 4, none⟩ = some (.int .u32 u) := by rw [hbel.cell (by simpa using habW), hWb.cell (by simpa using hab)]; exact q4
        have oab : Old ab wr := ⟨by omega⟩
        clear q0 q1 q2 q3 q4
        have i3 : (k : Int) < (len : Int) := by omega
        have i4 : (0 : Int) ≤ (k : Int) := by omega
        have i5 : (k : Int) < 400 := by omega
        cases p
        · by_cases hnc : n < c
          · have key := pushR (x := x) (y := y) (z := z) (u := u) J.H J.HA hnc
            have KEY := Lib.hid key
            clear key
            go_wp2_with (first | (go_at_call 20; refine KEY.out.mono ?_; rintro e w3 ⟨rfl, hF, hH, hA⟩; have hbw := (hF.below hlb hlg hbs); have d1 := hbw.cell (p := ⟨ab, off + k * 5 + 1, none⟩) (by simp; omega); have d2 := hbw.cell (p := ⟨ab, off + k * 5 + 2, none⟩) (by simp; omega); have d3 := hbw.cell (p := ⟨ab, off + k * 5 + 3, none⟩) (by simp; omega); have d4 := hbw.cell (p := ⟨ab, off + k * 5 + 4, none⟩) (by simp; omega); rw [e1] at d1; rw [e2] at d2; rw [e3] at d3; rw [e4] at d4; have hz3 := hF.size; have ow3 : Old ab w3 := ⟨by omega⟩) | (at_builtin; refine wpList_append_lies _ rfl _ _ 38 rfl W.heap.size 32 i0 _ 4 32 Try.underlying38 HI.1.out HI.2.1.out HI.2.2.1.out HI.2.2.2.out rfl (by decide) u6 I.length (cells4 I) rfl ((own_frame2 J.own6 hF J.o6b J.o6g).alloc _) ⟨w3.heap.size, 0, none⟩ 1 1 (four (x, y, z, u)) rfl rfl (four_cells (by simp [go_sem]) (by simp [go_sem]) (by simp [go_sem]) (by simp [go_sem])) (four_one _) (by omega) (by unfold maxLen; omega) (by omega) (by simp; omega) (w3.heap.size + 1) (by simp) ?_; intro p' cap' w5 hown hgrow hat hlt5))
            go_roundw
            case rel => exact ⟨k + 1, f, n + 1, _, _, O, by omega, by omega, by go_num, J.push (x := (x, y, z, u)) hlb hlg hnc hF hH hA ((Below.refl _ _).alloc (Nat.le_refl _) _) hown hgrow hat (by simp)⟩
            case measure => simp [intOf]; omega
          · have hnc' : n = c := by have := J.H.ln; omega
            have key := fun (w' : World) (k : RowKit.Below wr.heap.size wr w') => pushFull (x := .int .i64 x) (y := .int .i64 y) (z := .int .i64 z) (u := .int .u32 u) (J.H.keep k) hnc'
            clear hnc hnc'
            go_wp2_with (first | (go_at_call 20; refine (key _ (by repeat (first | with_reducible exact Below.refl _ _ | (with_reducible refine Below.alloc ?_ ?_ _; rotate_left; focus ((try simp) <;> omega)) | (with_reducible refine Below.setCell ?_ ?_ _; rotate_left; focus ((try simp) <;> omega)) | (with_reducible refine below_grow ?_ ?_; rotate_left; focus ((try simp) <;> omega)) | with_reducible refine Below.drew ?_ | with_reducible refine below_drewN ?_ | with_reducible assumption | (with_reducible refine below_step (by assumption) ?_ ?_; rotate_left; focus ((try simp) <;> omega))))).mono ?_; rintro e w1 ⟨rfl, hb1⟩; have ha1 : After _ w1 := ⟨hb1⟩; obtain ⟨hc1, hf1⟩ := after hb1; have hz1 := hb1.size; try simp at hz1))
            go_roundw
            case rel => exact ⟨k + 1, f, n, _, _, O, by omega, by omega, by go_num, J.idle (by repeat (first | with_reducible exact Below.refl _ _ | (with_reducible refine Below.alloc ?_ ?_ _; rotate_left; focus ((try simp) <;> omega)) | (with_reducible refine Below.setCell ?_ ?_ _; rotate_left; focus ((try simp) <;> omega)) | (with_reducible refine below_grow ?_ ?_; rotate_left; focus ((try simp) <;> omega)) | with_reducible refine Below.drew ?_ | with_reducible refine below_drewN ?_ | with_reducible assumption | (with_reducible refine below_step (by assumption) ?_ ?_; rotate_left; focus ((try simp) <;> omega))))⟩
            case measure => simp [intOf]; omega
        · by_cases hn : 0 < n
          · obtain ⟨⟨x1, y1, z1, t1⟩, hq⟩ : ∃ q, q = A f := ⟨_, rfl⟩
            have key := popR J.H J.HA hn
            rw [← hq] at key
            simp only [cellV] at key
            have KEY := Lib.hid key
            have HQ := Lib.hid hq
            clear key hq e1 e2 e3 e4
            go_wp2_with (first | (go_at_call 18; refine KEY.out.mono ?_; rintro e w3 ⟨rfl, hF, hH, hA⟩; have hz3 := hF.size) | (at_builtin; refine wpList_append_lies _ rfl _ _ 38 rfl W.heap.size 32 i0 _ 4 32 Try.underlying38 HI.1.out HI.2.1.out HI.2.2.1.out HI.2.2.2.out rfl (by decide) u7 O.length (cells4 O) rfl (((own_frame2 J.own7 hF J.o7b J.o7g).alloc _).alloc _) ⟨w3.heap.size + 1, 0, none⟩ 1 1 (four (x1, y1, z1, t1)) rfl rfl (four_cells (by simp [go_sem]) (by simp [go_sem]) (by simp [go_sem]) (by simp [go_sem])) (four_one _) (by omega) (by unfold maxLen; omega) (by omega) (by simp; omega) (w3.heap.size + 1 + 1) (by simp) ?_; intro p' cap' w5 hown hgrow hat hlt5))
            have hown' := hown
            rw [HQ.out] at hown'
            have HO := Lib.hid hown'
            clear hown hown'
            go_roundw
            case rel => exact ⟨k + 1, _, n - 1, A, I, _, by omega, by omega, by go_num, J.pop hlb hlg hn hF hH hA (((Below.refl _ _).alloc (Nat.le_refl _) _).alloc (by simp) _) HO.out hgrow hat (by simp)⟩
            case measure => simp [intOf]; omega
          · have hn0 : n = 0 := by omega
            have key := fun (w' : World) (k : RowKit.Below wr.heap.size wr w') => popEmpty (J.H.keep k) hn0
            clear hn hn0
            go_wp2_with (first | (go_at_call 18; refine (key _ (by repeat (first | with_reducible exact Below.refl _ _ | (with_reducible refine Below.alloc ?_ ?_ _; rotate_left; focus ((try simp) <;> omega)) | (with_reducible refine Below.setCell ?_ ?_ _; rotate_left; focus ((try simp) <;> omega)) | (with_reducible refine below_grow ?_ ?_; rotate_left; focus ((try simp) <;> omega)) | with_reducible refine Below.drew ?_ | with_reducible refine below_drewN ?_ | with_reducible assumption | (with_reducible refine below_step (by assumption) ?_ ?_; rotate_left; focus ((try simp) <;> omega))))).mono ?_; rintro e w1 ⟨rfl, hb1⟩; have ha1 : After _ w1 := ⟨hb1⟩; obtain ⟨hc1, hf1⟩ := after hb1; have hz1 := hb1.size; try simp at hz1))
            go_roundw
            case rel => exact ⟨k + 1, f, n, A, I, O, by omega, by omega, by go_num, J.idle (by repeat (first | with_reducible exact Below.refl _ _ | (with_reducible refine Below.alloc ?_ ?_ _; rotate_left; focus ((try simp) <;> omega)) | (with_reducible refine Below.setCell ?_ ?_ _; rotate_left; focus ((try simp) <;> omega)) | (with_reducible refine below_grow ?_ ?_; rotate_left; focus ((try simp) <;> omega)) | with_reducible refine Below.drew ?_ | with_reducible refine below_drewN ?_ | with_reducible assumption | (with_reducible refine below_step (by assumption) ?_ ?_; rotate_left; focus ((try simp) <;> omega))))⟩
            case measure => simp [intOf]; omega
    · have hil : I.length = O.length + n := by rw [J.eq]; simp [ringL]
      have HIL := Lib.hid hil
      have h4n : O.length + n ≤ 400 := by omega
      clear hil
      have hkx : (k = len) ∨ (k = 400 ∧ k < len) := by omega
      clear hkk
      by_cases hn : 0 < n
      · rcases hkx with hx | ⟨hx, hy⟩
        all_goals go_wp2_with (first | (go_at_call 26; refine (allR J.H J.HA).mono ?_; rintro e w4 ⟨v4, rfl, hown4, hb4⟩; obtain ⟨ga, capa, rfl, hga1, hga2⟩ := hown4.form hn; have hz4 := hb4.size) | (at_builtin; refine wpList_append_lies _ rfl _ _ 38 rfl W.heap.size 32 i0 _ 4 32 Try.underlying38 HI.1.out HI.2.1.out HI.2.2.1.out HI.2.2.2.out rfl (by decide) u7 O.length (cells4 O) rfl (own_keep J.own7 hb4) ⟨ga, 0, none⟩ n capa (cells4 (ringL A f c n)) rfl (by rw [cells4_length, ringL_length]) (hown4.cells rfl) (cells4_one _) hn (by unfold maxLen; omega) (by omega) (by omega) w4.heap.size rfl ?_; intro p' cap' w5 hown hgrow hat hlt5; have hown' : w5.ownsRow W.heap.size 32 4 (.slice (some ⟨p', 0, none⟩) (O.length + n) cap') I.length (cells4 I) := (by have h := hown; rw [← cells4_join, ← J.eq] at h; rw [HIL.out]; exact h); have B5 : RowKit.Below w.heap.size w w5 := ((hWb.trans (hbel.mono hWs)).trans (hb4.mono (by omega))).grown hgrow (by omega) (fun r hr => (by have := (own_lt J.own7 hr).1; omega)); have O6 := own_grown (own_keep J.own6 hb4) hgrow (fun r hr e => J.apart r hr e); have HO6 := Lib.hid O6; have HOW := Lib.hid hown'; have hz5 := B5.size; clear hown hown' O6 hat hgrow hown4 hb4) | (go_at_call 25; refine (sameR HOW.out HO6.out (by omega)).mono ?_; rintro e w6 ⟨rfl, hb6⟩))
        all_goals refine ret_any ⟨_, by simp [results, Try.results4, go_sem, *]; rfl, ?_⟩ rfl
        all_goals exact gives_of rfl (below_step hb6 B5 hz5)
      · obtain rfl : n = 0 := by omega
        have hIO : I = O := by rw [J.eq]; simp [ringL]
        subst hIO
        rcases hkx with hx | ⟨hx, hy⟩
        all_goals go_wp2_with (first | (go_at_call 26; refine (allEmpty J.H).mono ?_; rintro e w4 ⟨rfl, hb4⟩; have hz4 := hb4.size) | (at_builtin; refine wpList_append_own_none rfl _ _ 38 rfl W.heap.size 32 i0 4 Try.underlying38 HI.1.out u7 I.length (cells4 I) rfl (own_keep J.own7 hb4) rfl ?_) | (go_at_call 25; refine (sameR (own_keep J.own7 hb4) (own_keep J.own6 hb4) (by omega)).mono ?_; rintro e w6 ⟨rfl, hb6⟩))
        all_goals refine ret_any ⟨_, by simp [results, Try.results4, go_sem, *]; rfl, ?_⟩ rfl
        all_goals exact gives_of rfl (below_step hb6 (below_step hb4 (hWb.trans (hbel.mono hWs)) (by omega)) (by omega))
end Go.Proofs.Ytjlclpdjblicjaa
