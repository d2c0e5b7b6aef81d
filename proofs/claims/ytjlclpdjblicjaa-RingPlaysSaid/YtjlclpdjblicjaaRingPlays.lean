/-
  The law RingPlays as a walk. No condition but that the arguments fit their types.
-/
import Derived.Test.YtjlclpdjblicjaaRingPlaysI
namespace Go.Proofs.Ytjlclpdjblicjaa
open Go.RowKit Go.Sort Go.BigFrame
set_option linter.unusedVariables false
attribute [local go_sem ↓] Go.wp_at_zero Go.wp_at_succ
set_option maxRecDepth 100000 in
set_option maxHeartbeats 6400000 in
theorem ringPlays_ok (v0 v1 : Value) (w : World) (h0 : Arg Try.prog w 3 v0) (h1 : Arg Try.prog w 22 v1) : Calls Try.prog 3 #[v0, v1] w (Gives (.bool true) w) := by
  obtain ⟨m, rfl, hm, hm'⟩ := arg_i64 Try.underlying3 h0
  obtain ⟨a, len, cap, he, hlen, hcell⟩ := fit_rowAct rfl (arg_slice Try.underlying22 h1)
  simp only [List.cons.injEq, and_true] at he
  subst he
  clear h0 h1
  unfold maxLen at hlen
  obtain ⟨c, hc⟩ : ∃ c : Nat, c = (max 1 (min m 256)).toNat := ⟨_, rfl⟩
  have hcm : (m ≤ 1 ∧ c = 1) ∨ (256 < m ∧ c = 256) ∨ (1 < m ∧ m ≤ 256 ∧ m = c) := by omega
  have c0 : 0 < c := by omega
  have c1 : c ≤ 256 := by omega
  have HCM := Lib.hid hcm
  have HC := Lib.hid hcell
  clear hc hcm hcell
  go_enter Try.func3, Try.ntmps3
  go_wp2_with (first | (go_at_call 15; refine (shown13 _).mono ?_; rintro e w1 ⟨rfl, hb1⟩; have ha1 : After _ w1 := ⟨hb1⟩; obtain ⟨hc1, hf1⟩ := after hb1; have hz1 := hb1.size; try simp at hz1))
  obtain ⟨W, hW⟩ : ∃ W : World, W = w1 := ⟨_, rfl⟩
  subst hW
  have hWb : RowKit.Below w.heap.size w W := (by repeat (first | with_reducible exact Below.refl _ _ | (with_reducible refine Below.alloc ?_ ?_ _; rotate_left; focus ((try simp) <;> omega)) | (with_reducible refine Below.setCell ?_ ?_ _; rotate_left; focus ((try simp) <;> omega)) | (with_reducible refine below_grow ?_ ?_; rotate_left; focus ((try simp) <;> omega)) | with_reducible refine Below.drew ?_ | with_reducible refine below_drewN ?_ | with_reducible assumption | (with_reducible refine below_step (by assumption) ?_ ?_; rotate_left; focus ((try simp) <;> omega))))
  have hWs := hWb.size
  clear hc1 hf1 ha1 hb1
  refine (newMid c _ m hm hm' c0 c1 HCM.out).mono ?_; rintro e ws ⟨b, rfl, hlb, H1, A1, B1⟩
  obtain ⟨g, hg⟩ : ∃ g, g = W.heap.size := ⟨_, rfl⟩
  have hlg : W.heap.size ≤ g := Nat.le_of_eq hg.symm
  rw [← hg] at H1 A1
  go_wp2_with fail
  refine (newRef c _ m hm hm' HCM.out).mono ?_; rintro e wp ⟨rfl, R1, B2, Z2⟩
  obtain ⟨rb, hrb⟩ : ∃ rb, rb = ws.heap.size := ⟨_, rfl⟩
  have hB1 := B1.size
  have hlr : W.heap.size ≤ rb := by omega
  have F0 : PlayI W wp b g c rb 0 0 _ (.slice none 0 0) := ⟨H1.keep B2, A1.keep H1.lg B2, by rw [hrb]; exact R1, Line.nil _ _ _, by simp [Value.ownBlock], by simp [Value.ownBlock], by simp [Value.ownBlock], by have := H1.lb; omega, by have := H1.lg; omega, B1.trans (B2.mono hB1)⟩
  rw [← hrb]
  clear hg H1 A1 B1 R1 B2 Z2 hrb hB1
  go_wp2
  go_loopw [7] (fun s7 wr => ∃ (k f n : Nat) (A : Nat → Int × Int × Int × Int) (v : Value), k ≤ len ∧ k ≤ 400 ∧ s7 = .int .i64 k ∧ PlayI W wr b g c rb f n A v) (fun i _ => len - (intOf i).toNat)
  case atStart => exact ⟨0, 0, 0, _, _, by omega, by omega, rfl, F0⟩
  case round =>
    clear F0
    obtain ⟨k, f, n, A, v, hk, hk4, rfl, J⟩ := hrel
    have hbel := J.bel
    have hbs := hbel.size
    have hln := J.H.ln
    by_cases hkk : k < len ∧ k < 400
    · obtain ⟨hkl, hk4'⟩ := hkk
      obtain ⟨ab, off, p, x, y, z, u, rfl, hab, q0, q1, q2, q3, q4⟩ := HC.out k hkl
      have habW : ab < W.heap.size := by omega
      have e0 : wr.cell? ⟨ab, off + k * 5, none⟩ = some (.bool p) := by rw [hbel.cell (by simpa using habW), hWb.cell (by simpa using hab)]; exact q0
      have e1 : wr.cell? ⟨ab, off + k * 5 + 1, none⟩ = some (.int .i64 x) := by rw [hbel.cell (by simpa using habW), hWb.cell (by simpa using hab)]; exact q1
      have e2 : wr.cell? ⟨ab, off + k * 5 + 2, none⟩ = some (.int .i64 y) := by rw [hbel.cell (by simpa using habW), hWb.cell (by simpa using hab)]; exact q2
      have e3 : wr.cell? ⟨ab, off + k * 5 + 3, none⟩ = some (.int .i64 z) := by rw [hbel.cell (by simpa using habW), hWb.cell (by simpa using hab)]; exact q3
      have e4 : wr.cell? ⟨ab, off + k * 5 + 4, none⟩ = some (.int .u32 u) := by rw [hbel.cell (by simpa using habW), hWb.cell (by simpa using hab)]; exact q4
      have oab : Old ab wr := ⟨by omega⟩
      clear q0 q1 q2 q3 q4
      have i3 : (k : Int) < (len : Int) := by omega
      have i4 : (0 : Int) ≤ (k : Int) := by omega
      have i5 : (k : Int) < 400 := by omega
      go_upto_if 34 with (fail)
      go_cut [] (fun wx => ∃ (f n : Nat) (A : Nat → Int × Int × Int × Int) (v : Value), PlayI W wx b g c rb f n A v)
      case first =>
        cases p
        · by_cases hnc : n < c
          · have JH := Lib.hid J
            go_wp2_with fail
            go_region_held3 (fun w' => w'.cell? ⟨ab, off + k * 5 + 1, none⟩ = some (.int .i64 x) ∧ w'.cell? ⟨ab, off + k * 5 + 2, none⟩ = some (.int .i64 y) ∧ w'.cell? ⟨ab, off + k * 5 + 3, none⟩ = some (.int .i64 z) ∧ w'.cell? ⟨ab, off + k * 5 + 4, none⟩ = some (.int .u32 u)) ((simp [*, go_sem]; done))
              ((first | (go_at_call 20; refine (pushMid JH.out hlb hlg hlr hnc (by repeat (first | with_reducible exact Below.refl _ _ | (with_reducible refine Below.alloc ?_ ?_ _; rotate_left; focus ((try simp) <;> omega)) | (with_reducible refine Below.setCell ?_ ?_ _; rotate_left; focus ((try simp) <;> omega)) | (with_reducible refine below_grow ?_ ?_; rotate_left; focus ((try simp) <;> omega)) | with_reducible refine Below.drew ?_ | with_reducible refine below_drewN ?_ | with_reducible assumption | (with_reducible refine below_step (by assumption) ?_ ?_; rotate_left; focus ((try simp) <;> omega))))).mono ?_; rintro e w3 ⟨rfl, hb3, hz3, hM⟩; have d1 : w3.cell? ⟨ab, off + k * 5 + 1, none⟩ = some (.int .i64 x) := (by rw [hb3.cell (by simpa using habW), ← hbel.cell (by simpa using habW)]; exact e1); have d2 : w3.cell? ⟨ab, off + k * 5 + 2, none⟩ = some (.int .i64 y) := (by rw [hb3.cell (by simpa using habW), ← hbel.cell (by simpa using habW)]; exact e2); have d3 : w3.cell? ⟨ab, off + k * 5 + 3, none⟩ = some (.int .i64 z) := (by rw [hb3.cell (by simpa using habW), ← hbel.cell (by simpa using habW)]; exact e3); have d4 : w3.cell? ⟨ab, off + k * 5 + 4, none⟩ = some (.int .u32 u) := (by rw [hb3.cell (by simpa using habW), ← hbel.cell (by simpa using habW)]; exact e4); have hM' := Lib.hid hM; clear hM; have ow3 : Old ab w3 := ⟨by omega⟩) | (go_at_call 21; refine (refPushMid hM'.out c1 (by repeat (first | with_reducible exact Below.refl _ _ | (with_reducible refine Below.alloc ?_ ?_ _; rotate_left; focus ((try simp) <;> omega)) | (with_reducible refine Below.setCell ?_ ?_ _; rotate_left; focus ((try simp) <;> omega)) | (with_reducible refine below_grow ?_ ?_; rotate_left; focus ((try simp) <;> omega)) | with_reducible refine Below.drew ?_ | with_reducible refine below_drewN ?_ | with_reducible assumption | (with_reducible refine below_step (by assumption) ?_ ?_; rotate_left; focus ((try simp) <;> omega))))).mono ?_; rintro e w4 ⟨rfl, hb4, hz4, v', hJ4⟩; have f1 : w4.cell? ⟨ab, off + k * 5 + 1, none⟩ = some (.int .i64 x) := (by rw [hb4.cell (by simpa using habW), ← hbel.cell (by simpa using habW)]; exact e1); have f2 : w4.cell? ⟨ab, off + k * 5 + 2, none⟩ = some (.int .i64 y) := (by rw [hb4.cell (by simpa using habW), ← hbel.cell (by simpa using habW)]; exact e2); have f3 : w4.cell? ⟨ab, off + k * 5 + 3, none⟩ = some (.int .i64 z) := (by rw [hb4.cell (by simpa using habW), ← hbel.cell (by simpa using habW)]; exact e3); have f4 : w4.cell? ⟨ab, off + k * 5 + 4, none⟩ = some (.int .u32 u) := (by rw [hb4.cell (by simpa using habW), ← hbel.cell (by simpa using habW)]; exact e4); have hJ' := Lib.hid hJ4; clear hJ4; have ow4 : Old ab w4 := ⟨by omega⟩)))
            all_goals (go_wp2_with fail; go_meet)
            all_goals exact ⟨f, n + 1, _, v', hJ'.out.idle (by repeat (first | with_reducible exact Below.refl _ _ | (with_reducible refine Below.alloc ?_ ?_ _; rotate_left; focus ((try simp) <;> omega)) | (with_reducible refine Below.setCell ?_ ?_ _; rotate_left; focus ((try simp) <;> omega)) | (with_reducible refine below_grow ?_ ?_; rotate_left; focus ((try simp) <;> omega)) | with_reducible refine Below.drew ?_ | with_reducible refine below_drewN ?_ | with_reducible assumption | (with_reducible refine below_step (by assumption) ?_ ?_; rotate_left; focus ((try simp) <;> omega))))⟩
          · have hnc' : n = c := by omega
            have key1 := fun (w' : World) (k : RowKit.Below wr.heap.size wr w') => pushFull (x := .int .i64 x) (y := .int .i64 y) (z := .int .i64 z) (u := .int .u32 u) (J.H.keep k) hnc'
            have key2 := fun (w' : World) (k : RowKit.Below wr.heap.size wr w') => refPushFull (x := .int .i64 x) (y := .int .i64 y) (z := .int .i64 z) (u := .int .u32 u) (J.R.keep k) (J.L.keep k) hnc' c1
            clear hnc hnc'
            go_wp2_with fail
            go_region_held3 (fun w' => w'.cell? ⟨ab, off + k * 5 + 1, none⟩ = some (.int .i64 x) ∧ w'.cell? ⟨ab, off + k * 5 + 2, none⟩ = some (.int .i64 y) ∧ w'.cell? ⟨ab, off + k * 5 + 3, none⟩ = some (.int .i64 z) ∧ w'.cell? ⟨ab, off + k * 5 + 4, none⟩ = some (.int .u32 u)) ((simp [*, go_sem]; done)) (first | (go_at_call 20; refine (key1 _ (by repeat (first | with_reducible exact Below.refl _ _ | (with_reducible refine Below.alloc ?_ ?_ _; rotate_left; focus ((try simp) <;> omega)) | (with_reducible refine Below.setCell ?_ ?_ _; rotate_left; focus ((try simp) <;> omega)) | (with_reducible refine below_grow ?_ ?_; rotate_left; focus ((try simp) <;> omega)) | with_reducible refine Below.drew ?_ | with_reducible refine below_drewN ?_ | with_reducible assumption | (with_reducible refine below_step (by assumption) ?_ ?_; rotate_left; focus ((try simp) <;> omega))))).mono ?_; rintro e w1 ⟨rfl, hb1⟩; have ha1 : After _ w1 := ⟨hb1⟩; obtain ⟨hc1, hf1⟩ := after hb1; have hz1 := hb1.size; try simp at hz1) | (go_at_call 21; refine (key2 _ (by repeat (first | with_reducible exact Below.refl _ _ | (with_reducible refine Below.alloc ?_ ?_ _; rotate_left; focus ((try simp) <;> omega)) | (with_reducible refine Below.setCell ?_ ?_ _; rotate_left; focus ((try simp) <;> omega)) | (with_reducible refine below_grow ?_ ?_; rotate_left; focus ((try simp) <;> omega)) | with_reducible refine Below.drew ?_ | with_reducible refine below_drewN ?_ | with_reducible assumption | (with_reducible refine below_step (by assumption) ?_ ?_; rotate_left; focus ((try simp) <;> omega))))).mono ?_; rintro e w1 ⟨rfl, hb1⟩; have ha1 : After _ w1 := ⟨hb1⟩; obtain ⟨hc1, hf1⟩ := after hb1; have hz1 := hb1.size; try simp at hz1))
            all_goals (go_wp2_with fail; go_meet)
            all_goals exact ⟨f, n, A, v, J.idle (by repeat (first | with_reducible exact Below.refl _ _ | (with_reducible refine Below.alloc ?_ ?_ _; rotate_left; focus ((try simp) <;> omega)) | (with_reducible refine Below.setCell ?_ ?_ _; rotate_left; focus ((try simp) <;> omega)) | (with_reducible refine below_grow ?_ ?_; rotate_left; focus ((try simp) <;> omega)) | with_reducible refine Below.drew ?_ | with_reducible refine below_drewN ?_ | with_reducible assumption | (with_reducible refine below_step (by assumption) ?_ ?_; rotate_left; focus ((try simp) <;> omega))))⟩
        · by_cases hn : 0 < n
          · obtain ⟨⟨x1, y1, z1, t1⟩, hq⟩ : ∃ q, q = A f := ⟨_, rfl⟩
            have key := popR J.H J.HA hn
            have hl := J.L
            rw [ringL_head A f c n J.H.lf hn] at hl
            rw [← hq] at key hl
            simp only [cellV] at key
            have KEY := Lib.hid key
            clear key hl e1 e2 e3 e4
            go_wp2_with (first | (go_at_call 18; refine KEY.out.mono ?_; rintro e w3 ⟨rfl, hF, hH, hA⟩; have hz3 := hF.size; have JR := (J.frame (f' := 0) (n' := 0) (A' := A) (Below.refl _ _) hF).1; have JL := Lib.hid (J.frame (f' := 0) (n' := 0) (A' := A) (Below.refl _ _) hF).2) | (go_at_call 19; refine (refPopR (x := x1) (y := y1) (z := z1) (u := t1) (xs := cells4 (ringL A ((f + 1) % c) c (n - 1))) (base := W.heap.size) (JR.keep (by exact (by repeat (first | with_reducible exact Below.refl _ _ | (with_reducible refine Below.alloc ?_ ?_ _; rotate_left; focus ((try simp) <;> omega)) | (with_reducible refine Below.setCell ?_ ?_ _; rotate_left; focus ((try simp) <;> omega)) | (with_reducible refine below_grow ?_ ?_; rotate_left; focus ((try simp) <;> omega)) | with_reducible refine Below.drew ?_ | with_reducible refine below_drewN ?_ | with_reducible assumption | (with_reducible refine below_step (by assumption) ?_ ?_; rotate_left; focus ((try simp) <;> omega)))))) (by have h := JL.out; rw [ringL_head A f c n J.H.lf hn, ← hq] at h; exact h.keep (by repeat (first | with_reducible exact Below.refl _ _ | (with_reducible refine Below.alloc ?_ ?_ _; rotate_left; focus ((try simp) <;> omega)) | (with_reducible refine Below.setCell ?_ ?_ _; rotate_left; focus ((try simp) <;> omega)) | (with_reducible refine below_grow ?_ ?_; rotate_left; focus ((try simp) <;> omega)) | with_reducible refine Below.drew ?_ | with_reducible refine below_drewN ?_ | with_reducible assumption | (with_reducible refine below_step (by assumption) ?_ ?_; rotate_left; focus ((try simp) <;> omega))))) hn J.nr (by omega)).mono ?_; rintro e w4 ⟨rfl, hR4, hF4⟩; have hz4 := hF4.size; have d0 : w4.cell? ⟨w3.heap.size, 0, none⟩ = some (.int .i64 x1) := (by rw [World.cell?_of_block (a := ⟨w3.heap.size, 0, none⟩) (hF4.block w3.heap.size (by simp) (by have := JR.lt; omega))]; simp [go_sem]); have d1 : w4.cell? ⟨w3.heap.size, 1, none⟩ = some (.int .i64 y1) := (by rw [World.cell?_of_block (a := ⟨w3.heap.size, 1, none⟩) (hF4.block w3.heap.size (by simp) (by have := JR.lt; omega))]; simp [go_sem]); have d2 : w4.cell? ⟨w3.heap.size, 2, none⟩ = some (.int .i64 z1) := (by rw [World.cell?_of_block (a := ⟨w3.heap.size, 2, none⟩) (hF4.block w3.heap.size (by simp) (by have := JR.lt; omega))]; simp [go_sem]); have d3 : w4.cell? ⟨w3.heap.size, 3, none⟩ = some (.int .u32 t1) := (by rw [World.cell?_of_block (a := ⟨w3.heap.size, 3, none⟩) (hF4.block w3.heap.size (by simp) (by have := JR.lt; omega))]; simp [go_sem]); have ow4 : Old w3.heap.size w4 := ⟨by simp at hz4; omega⟩))
            go_meet
            exact ⟨_, _, A, _, (J.pop hlb hlg hlr hn (Below.refl _ _) hF hH hA ((Below.refl _ _).alloc (Nat.le_refl _) _) hR4 hF4).idle (by repeat (first | with_reducible exact Below.refl _ _ | (with_reducible refine Below.alloc ?_ ?_ _; rotate_left; focus ((try simp) <;> omega)) | (with_reducible refine Below.setCell ?_ ?_ _; rotate_left; focus ((try simp) <;> omega)) | (with_reducible refine below_grow ?_ ?_; rotate_left; focus ((try simp) <;> omega)) | with_reducible refine Below.drew ?_ | with_reducible refine below_drewN ?_ | with_reducible assumption | (with_reducible refine below_step (by assumption) ?_ ?_; rotate_left; focus ((try simp) <;> omega))))⟩
          · obtain rfl : n = 0 := by omega
            have key1 := fun (w' : World) (k : RowKit.Below wr.heap.size wr w') => popEmpty (J.H.keep k) rfl
            have key2 := fun (w' : World) (k : RowKit.Below wr.heap.size wr w') => refPopE (J.R.keep k) (J.L.keep k)
            clear hn
            go_wp2_with (first | (go_at_call 18; refine (key1 _ (by repeat (first | with_reducible exact Below.refl _ _ | (with_reducible refine Below.alloc ?_ ?_ _; rotate_left; focus ((try simp) <;> omega)) | (with_reducible refine Below.setCell ?_ ?_ _; rotate_left; focus ((try simp) <;> omega)) | (with_reducible refine below_grow ?_ ?_; rotate_left; focus ((try simp) <;> omega)) | with_reducible refine Below.drew ?_ | with_reducible refine below_drewN ?_ | with_reducible assumption | (with_reducible refine below_step (by assumption) ?_ ?_; rotate_left; focus ((try simp) <;> omega))))).mono ?_; rintro e w1 ⟨rfl, hb1⟩; have ha1 : After _ w1 := ⟨hb1⟩; obtain ⟨hc1, hf1⟩ := after hb1; have hz1 := hb1.size; try simp at hz1) | (go_at_call 19; refine (key2 _ (by repeat (first | with_reducible exact Below.refl _ _ | (with_reducible refine Below.alloc ?_ ?_ _; rotate_left; focus ((try simp) <;> omega)) | (with_reducible refine Below.setCell ?_ ?_ _; rotate_left; focus ((try simp) <;> omega)) | (with_reducible refine below_grow ?_ ?_; rotate_left; focus ((try simp) <;> omega)) | with_reducible refine Below.drew ?_ | with_reducible refine below_drewN ?_ | with_reducible assumption | (with_reducible refine below_step (by assumption) ?_ ?_; rotate_left; focus ((try simp) <;> omega))))).mono ?_; rintro e w1 ⟨rfl, hb1⟩; have ha1 : After _ w1 := ⟨hb1⟩; obtain ⟨hc1, hf1⟩ := after hb1; have hz1 := hb1.size; try simp at hz1))
            go_meet
            exact ⟨f, 0, A, v, J.idle (by repeat (first | with_reducible exact Below.refl _ _ | (with_reducible refine Below.alloc ?_ ?_ _; rotate_left; focus ((try simp) <;> omega)) | (with_reducible refine Below.setCell ?_ ?_ _; rotate_left; focus ((try simp) <;> omega)) | (with_reducible refine below_grow ?_ ?_; rotate_left; focus ((try simp) <;> omega)) | with_reducible refine Below.drew ?_ | with_reducible refine below_drewN ?_ | with_reducible assumption | (with_reducible refine below_step (by assumption) ?_ ?_; rotate_left; focus ((try simp) <;> omega))))⟩
      case rest =>
        clear e0 e1 e2 e3 e4 oab hbel hbs hln J
        clear A v n f
        obtain ⟨f, n, A, v, J⟩ := hcut
        have hln := J.H.ln
        have JH := Lib.hid J
        have c2 := J.R.c0
        have c3 := J.R.c1
        have orb : Old rb wc := ⟨J.R.lt⟩
        by_cases hn : 0 < n
        · obtain ⟨gv, ov, cv, rfl, hgv, p0, p1, p2, p3⟩ := line_cell J.L 0 hn
          have i6 : (0 : Int) < (n : Int) := by omega
          have ogv : Old gv wc := ⟨hgv⟩
          rw [Nat.zero_mul, Nat.add_zero] at p0 p1 p2 p3
          have key1 := fun (w' : World) (k : RowKit.Below wc.heap.size wc w') => headR (JH.out.H.keep k) (JH.out.HA.keep JH.out.H.lg k) hn
          have key2 := fun (w' : World) (k : RowKit.Below wc.heap.size wc w') => lenR (JH.out.H.keep k)
          have key3 := fun (w' : World) (k : RowKit.Below wc.heap.size wc w') => roomR (JH.out.H.keep k)
          rw [ringL_head A f c n J.H.lf hn] at p0 p1 p2 p3
          simp only [List.getD_cons_zero] at p0 p1 p2 p3
          generalize A f = q at p0 p1 p2 p3 key1
          obtain ⟨x1, y1, z1, t1⟩ := q
          dsimp only [cellV] at p0 p1 p2 p3 key1
          obtain ⟨_, _, ecv, hcv, hcv'⟩ := J.L.shape
          simp only [Value.slice.injEq, true_and] at ecv
          obtain ⟨rfl, rfl⟩ := ecv
          unfold maxLen at hcv'
          clear J
          go_wp2_with (go_at_call 22; refine (key1 _ (by repeat (first | with_reducible exact Below.refl _ _ | (with_reducible refine Below.alloc ?_ ?_ _; rotate_left; focus ((try simp) <;> omega)) | (with_reducible refine Below.setCell ?_ ?_ _; rotate_left; focus ((try simp) <;> omega)) | (with_reducible refine below_grow ?_ ?_; rotate_left; focus ((try simp) <;> omega)) | with_reducible refine Below.drew ?_ | with_reducible refine below_drewN ?_ | with_reducible assumption | (with_reducible refine below_step (by assumption) ?_ ?_; rotate_left; focus ((try simp) <;> omega))))).mono ?_; rintro e w1 ⟨rfl, hb1⟩; have ha1 : After _ w1 := ⟨hb1⟩; obtain ⟨hc1, hf1⟩ := after hb1; have hz1 := hb1.size; try simp at hz1)
          refine wp_region_quiet_below (by kernel_rfl) (by kernel_rfl) ?_
          repeat (first | go_big_quiet_step (((first | (go_at_call 23; exact Calls.regrown_gives (Calls.gives_of_pure (key2 _ (by repeat (first | with_reducible exact Below.refl _ _ | (with_reducible refine Below.alloc ?_ ?_ _; rotate_left; focus ((try simp) <;> omega)) | (with_reducible refine Below.setCell ?_ ?_ _; rotate_left; focus ((try simp) <;> omega)) | (with_reducible refine below_grow ?_ ?_; rotate_left; focus ((try simp) <;> omega)) | with_reducible refine Below.drew ?_ | with_reducible refine below_drewN ?_ | with_reducible assumption | (with_reducible refine below_step (by assumption) ?_ ?_; rotate_left; focus ((try simp) <;> omega))))))) | (go_at_call 24; exact Calls.regrown_gives (key3 _ (by repeat (first | with_reducible exact Below.refl _ _ | (with_reducible refine Below.alloc ?_ ?_ _; rotate_left; focus ((try simp) <;> omega)) | (with_reducible refine Below.setCell ?_ ?_ _; rotate_left; focus ((try simp) <;> omega)) | (with_reducible refine below_grow ?_ ?_; rotate_left; focus ((try simp) <;> omega)) | with_reducible refine Below.drew ?_ | with_reducible refine below_drewN ?_ | with_reducible assumption | (with_reducible refine below_step (by assumption) ?_ ?_; rotate_left; focus ((try simp) <;> omega))))))))) | quiet_step (((first | (go_at_call 23; exact Calls.regrown_gives (Calls.gives_of_pure (key2 _ (by repeat (first | with_reducible exact Below.refl _ _ | (with_reducible refine Below.alloc ?_ ?_ _; rotate_left; focus ((try simp) <;> omega)) | (with_reducible refine Below.setCell ?_ ?_ _; rotate_left; focus ((try simp) <;> omega)) | (with_reducible refine below_grow ?_ ?_; rotate_left; focus ((try simp) <;> omega)) | with_reducible refine Below.drew ?_ | with_reducible refine below_drewN ?_ | with_reducible assumption | (with_reducible refine below_step (by assumption) ?_ ?_; rotate_left; focus ((try simp) <;> omega))))))) | (go_at_call 24; exact Calls.regrown_gives (key3 _ (by repeat (first | with_reducible exact Below.refl _ _ | (with_reducible refine Below.alloc ?_ ?_ _; rotate_left; focus ((try simp) <;> omega)) | (with_reducible refine Below.setCell ?_ ?_ _; rotate_left; focus ((try simp) <;> omega)) | (with_reducible refine below_grow ?_ ?_; rotate_left; focus ((try simp) <;> omega)) | with_reducible refine Below.drew ?_ | with_reducible refine below_drewN ?_ | with_reducible assumption | (with_reducible refine below_step (by assumption) ?_ ?_; rotate_left; focus ((try simp) <;> omega))))))))))
          refine wpQuiet_nil ?_
          intro _ hw'
          obtain ⟨⟨dq, osq⟩, hw''⟩ := hw'
          subst hw''
          go_wp2
          go_roundw
          case rel => exact ⟨k + 1, f, n, A, _, by omega, by omega, by go_num, JH.out.idle (by repeat (first | with_reducible exact Below.refl _ _ | (with_reducible refine Below.alloc ?_ ?_ _; rotate_left; focus ((try simp) <;> omega)) | (with_reducible refine Below.setCell ?_ ?_ _; rotate_left; focus ((try simp) <;> omega)) | (with_reducible refine below_grow ?_ ?_; rotate_left; focus ((try simp) <;> omega)) | with_reducible refine Below.drew ?_ | with_reducible refine below_drewN ?_ | with_reducible assumption | (with_reducible refine below_step (by assumption) ?_ ?_; rotate_left; focus ((try simp) <;> omega))))⟩
          case measure => simp [intOf]; omega
        · obtain rfl : n = 0 := by omega
          obtain ⟨ao, cv, rfl, hcv, hcv'⟩ := J.L.shape
          unfold maxLen at hcv'
          have key1 := fun (w' : World) (k : RowKit.Below wc.heap.size wc w') => headEmpty (JH.out.H.keep k)
          have key2 := fun (w' : World) (k : RowKit.Below wc.heap.size wc w') => lenR (JH.out.H.keep k)
          have key3 := fun (w' : World) (k : RowKit.Below wc.heap.size wc w') => roomR (JH.out.H.keep k)
          clear J
          go_wp2_with (go_at_call 22; refine (key1 _ (by repeat (first | with_reducible exact Below.refl _ _ | (with_reducible refine Below.alloc ?_ ?_ _; rotate_left; focus ((try simp) <;> omega)) | (with_reducible refine Below.setCell ?_ ?_ _; rotate_left; focus ((try simp) <;> omega)) | (with_reducible refine below_grow ?_ ?_; rotate_left; focus ((try simp) <;> omega)) | with_reducible refine Below.drew ?_ | with_reducible refine below_drewN ?_ | with_reducible assumption | (with_reducible refine below_step (by assumption) ?_ ?_; rotate_left; focus ((try simp) <;> omega))))).mono ?_; rintro e w1 ⟨rfl, hb1⟩; have ha1 : After _ w1 := ⟨hb1⟩; obtain ⟨hc1, hf1⟩ := after hb1; have hz1 := hb1.size; try simp at hz1)
          refine wp_region_quiet_below (by kernel_rfl) (by kernel_rfl) ?_
          repeat (first | go_big_quiet_step (((first | (go_at_call 23; exact Calls.regrown_gives (Calls.gives_of_pure (key2 _ (by repeat (first | with_reducible exact Below.refl _ _ | (with_reducible refine Below.alloc ?_ ?_ _; rotate_left; focus ((try simp) <;> omega)) | (with_reducible refine Below.setCell ?_ ?_ _; rotate_left; focus ((try simp) <;> omega)) | (with_reducible refine below_grow ?_ ?_; rotate_left; focus ((try simp) <;> omega)) | with_reducible refine Below.drew ?_ | with_reducible refine below_drewN ?_ | with_reducible assumption | (with_reducible refine below_step (by assumption) ?_ ?_; rotate_left; focus ((try simp) <;> omega))))))) | (go_at_call 24; exact Calls.regrown_gives (key3 _ (by repeat (first | with_reducible exact Below.refl _ _ | (with_reducible refine Below.alloc ?_ ?_ _; rotate_left; focus ((try simp) <;> omega)) | (with_reducible refine Below.setCell ?_ ?_ _; rotate_left; focus ((try simp) <;> omega)) | (with_reducible refine below_grow ?_ ?_; rotate_left; focus ((try simp) <;> omega)) | with_reducible refine Below.drew ?_ | with_reducible refine below_drewN ?_ | with_reducible assumption | (with_reducible refine below_step (by assumption) ?_ ?_; rotate_left; focus ((try simp) <;> omega))))))))) | quiet_step (((first | (go_at_call 23; exact Calls.regrown_gives (Calls.gives_of_pure (key2 _ (by repeat (first | with_reducible exact Below.refl _ _ | (with_reducible refine Below.alloc ?_ ?_ _; rotate_left; focus ((try simp) <;> omega)) | (with_reducible refine Below.setCell ?_ ?_ _; rotate_left; focus ((try simp) <;> omega)) | (with_reducible refine below_grow ?_ ?_; rotate_left; focus ((try simp) <;> omega)) | with_reducible refine Below.drew ?_ | with_reducible refine below_drewN ?_ | with_reducible assumption | (with_reducible refine below_step (by assumption) ?_ ?_; rotate_left; focus ((try simp) <;> omega))))))) | (go_at_call 24; exact Calls.regrown_gives (key3 _ (by repeat (first | with_reducible exact Below.refl _ _ | (with_reducible refine Below.alloc ?_ ?_ _; rotate_left; focus ((try simp) <;> omega)) | (with_reducible refine Below.setCell ?_ ?_ _; rotate_left; focus ((try simp) <;> omega)) | (with_reducible refine below_grow ?_ ?_; rotate_left; focus ((try simp) <;> omega)) | with_reducible refine Below.drew ?_ | with_reducible refine below_drewN ?_ | with_reducible assumption | (with_reducible refine below_step (by assumption) ?_ ?_; rotate_left; focus ((try simp) <;> omega))))))))))
          refine wpQuiet_nil ?_
          intro _ hw'
          obtain ⟨⟨dq, osq⟩, hw''⟩ := hw'
          subst hw''
          go_wp2
          go_roundw
          case rel => exact ⟨k + 1, f, 0, A, _, by omega, by omega, by go_num, JH.out.idle (by repeat (first | with_reducible exact Below.refl _ _ | (with_reducible refine Below.alloc ?_ ?_ _; rotate_left; focus ((try simp) <;> omega)) | (with_reducible refine Below.setCell ?_ ?_ _; rotate_left; focus ((try simp) <;> omega)) | (with_reducible refine below_grow ?_ ?_; rotate_left; focus ((try simp) <;> omega)) | with_reducible refine Below.drew ?_ | with_reducible refine below_drewN ?_ | with_reducible assumption | (with_reducible refine below_step (by assumption) ?_ ?_; rotate_left; focus ((try simp) <;> omega))))⟩
          case measure => simp [intOf]; omega
    · have hkx : (k = len) ∨ (k = 400 ∧ k < len) := by omega
      have JH := Lib.hid J
      have c3 := J.R.c1
      have orb : Old rb wr := ⟨J.R.lt⟩
      have hww : RowKit.Below w.heap.size w wr := hWb.trans (hbel.mono hWs)
      have hwws := hww.size
      clear hkk J
      rcases hkx with hx | ⟨hx, hy⟩
      all_goals go_wp2_with fail
      all_goals go_region_held3 (fun w' => w'.cell? ⟨rb, 1, none⟩ = some v) ((simp [*, go_sem]; done)) ((first | (go_at_call 26; refine (allR (JH.out.H.keep (by repeat (first | with_reducible exact Below.refl _ _ | (with_reducible refine Below.alloc ?_ ?_ _; rotate_left; focus ((try simp) <;> omega)) | (with_reducible refine Below.setCell ?_ ?_ _; rotate_left; focus ((try simp) <;> omega)) | (with_reducible refine below_grow ?_ ?_; rotate_left; focus ((try simp) <;> omega)) | with_reducible refine Below.drew ?_ | with_reducible refine below_drewN ?_ | with_reducible assumption | (with_reducible refine below_step (by assumption) ?_ ?_; rotate_left; focus ((try simp) <;> omega))))) (JH.out.HA.keep JH.out.H.lg (by repeat (first | with_reducible exact Below.refl _ _ | (with_reducible refine Below.alloc ?_ ?_ _; rotate_left; focus ((try simp) <;> omega)) | (with_reducible refine Below.setCell ?_ ?_ _; rotate_left; focus ((try simp) <;> omega)) | (with_reducible refine below_grow ?_ ?_; rotate_left; focus ((try simp) <;> omega)) | with_reducible refine Below.drew ?_ | with_reducible refine below_drewN ?_ | with_reducible assumption | (with_reducible refine below_step (by assumption) ?_ ?_; rotate_left; focus ((try simp) <;> omega)))))).mono ?_; rintro e w4 ⟨v4, rfl, hown4, hb4⟩; have ha4 : After _ w4 := ⟨hb4⟩; obtain ⟨hc4, hf4⟩ := after hb4; have hz4 := hb4.size; try simp at hz4; have HO4 := Lib.hid hown4; clear hown4) | (go_at_call 25; refine (sameL (Line.of_own HO4.out) (JH.out.L.keep (by repeat (first | with_reducible exact Below.refl _ _ | (with_reducible refine Below.alloc ?_ ?_ _; rotate_left; focus ((try simp) <;> omega)) | (with_reducible refine Below.setCell ?_ ?_ _; rotate_left; focus ((try simp) <;> omega)) | (with_reducible refine below_grow ?_ ?_; rotate_left; focus ((try simp) <;> omega)) | with_reducible refine Below.drew ?_ | with_reducible refine below_drewN ?_ | with_reducible assumption | (with_reducible refine below_step (by assumption) ?_ ?_; rotate_left; focus ((try simp) <;> omega))))) (by omega)).mono ?_; rintro e w6 ⟨rfl, hb6⟩; have ha6 : After _ w6 := ⟨hb6⟩; obtain ⟨hc6, hf6⟩ := after hb6; have hz6 := hb6.size; try simp at hz6)))
      all_goals go_wp2
      all_goals refine ret_any ⟨_, by simp [results, Try.results3, go_sem, *]; rfl, ?_⟩ rfl
      all_goals exact gives_of rfl (by repeat (first | with_reducible exact Below.refl _ _ | (with_reducible refine Below.alloc ?_ ?_ _; rotate_left; focus ((try simp) <;> omega)) | (with_reducible refine Below.setCell ?_ ?_ _; rotate_left; focus ((try simp) <;> omega)) | (with_reducible refine below_grow ?_ ?_; rotate_left; focus ((try simp) <;> omega)) | with_reducible refine Below.drew ?_ | with_reducible refine below_drewN ?_ | with_reducible assumption | (with_reducible refine below_step (by assumption) ?_ ?_; rotate_left; focus ((try simp) <;> omega))))
end Go.Proofs.Ytjlclpdjblicjaa
