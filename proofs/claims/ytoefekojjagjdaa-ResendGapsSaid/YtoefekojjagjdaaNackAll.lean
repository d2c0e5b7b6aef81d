/-
  NackAll: Expand, Pack and Has answer as the reference's do. For slices that are not too long.
-/
import Derived.Test.YtoefekojjagjdaaNackAllI
import Derived.Test.YtoefekojjagjdaaNackRefPack
import Derived.Test.YtoefekojjagjdaaSmall
namespace Go.Proofs.Ytoefekojjagjdaa
open Go.RowKit Go.Sort Go.BigFrame
set_option linter.unusedVariables false
attribute [local go_sem ↓] Go.wp_at_zero Go.wp_at_succ
theorem mem_take_succ (E : List Int) (k : Nat) (s : Int) (h : k < E.length) : decide (s ∈ E.take (k + 1)) = (decide (s ∈ E.take k) || (E.getD k 0 == s)) := by
  have e : E.take (k + 1) = E.take k ++ [E.getD k 0] := by
    rw [List.take_succ_eq_append_getElem h, List.getD_eq_getElem?_getD, List.getElem?_eq_getElem h]; rfl
  rw [e]
  generalize E.getD k 0 = x
  generalize E.take k = T
  by_cases h1 : s ∈ T <;> by_cases h2 : x = s
  · simp [h1]
  · simp [h1]
  · simp [h1, h2]
  · have : ¬ s = x := fun e => h2 e.symm
    simp [h1, h2, this]
theorem line_at {w : World} {base n : Nat} {v : Value} {l : List (Int × Int)} (h : Line w base 2 v n (prs l)) (hl : l.length = n) (k : Nat) (hk : k < n) :
    ∃ g off cap, v = .slice (some ⟨g, off, none⟩) n cap ∧ g < w.heap.size ∧ cap ≤ maxLen ∧ w.cell? ⟨g, off + k * 2, none⟩ = some (.int .u16 (l.getD k (0, 0)).1) ∧ w.cell? ⟨g, off + k * 2 + 1, none⟩ = some (.int .u16 (l.getD k (0, 0)).2) := by
  obtain ⟨g, off, cap, rfl, _, hg, _, hc⟩ := h.form (by omega)
  have hkl : k < l.length := by omega
  have e : l.getD k (0, 0) = l[k] := by rw [List.getD_eq_getElem?_getD, List.getElem?_eq_getElem hkl]; rfl
  have := prs_get l k hkl
  rw [e]
  refine ⟨g, off, cap, rfl, hg, hc, h.cell this.1, ?_⟩
  have h2 := h.cell this.2
  rwa [← Nat.add_assoc] at h2
set_option maxRecDepth 100000 in
set_option maxHeartbeats 8000000 in
theorem nackAll_ok (v0 v1 v2 : Value) (w : World) (h0 : Arg Try.prog w 39 v0) (h1 : Arg Try.prog w 36 v1) (h2 : Arg Try.prog w 22 v2) (s0 : Small v0) (s1 : Small v1) : Calls Try.prog 13 #[v0, v1, v2] w (Gives (.bool true) w) := by
  obtain ⟨l, hf, hh⟩ := arg_prs h0
  obtain ⟨m, hm, hhm⟩ := arg_nums h1
  obtain ⟨s, rfl, hs, hs'⟩ := arg_u16 Try.underlying22 h2
  obtain ⟨ao, cap, hv, hcap, hcap'⟩ := hh.shape
  obtain ⟨am, cam, hvm, hcam, hcam'⟩ := hhm.shape
  have hn' : l.length ≤ 1048576 := s0 ao _ cap hv
  have hm' : m.length ≤ 1048576 := s1 am _ cam hvm
  have kx := fun (w' : World) (k : Below w.heap.size w w') => expandR (hh.keep k) rfl hf (by omega)
  have ky := fun (w' : World) (k : Below w.heap.size w w') => refExpandR (hh.keep k) rfl hf (by omega)
  have kh := fun (w' : World) (k : Below w.heap.size w w') => hasR (x := s) (hh.keep k) rfl hf (by omega)
  have kp := fun (w' : World) (k : Below w.heap.size w w') => packR (hhm.keep k) rfl hm (by omega)
  have kq := fun (w' : World) (k : Below w.heap.size w w') => refPackR (hhm.keep k) rfl hm (by omega)
  have hel : (expand l).length ≤ 17 * l.length := expand_len l
  have hpl : (pack m).length ≤ m.length := packTo_len m m.length
  obtain ⟨E, hE⟩ : ∃ E, E = expand l := ⟨_, rfl⟩
  rw [← hE] at kx ky kh hel
  have ks := fun (w' : World) (v v' : Value) (h : Has w' 1 v E.length (nums E)) (h' : Has w' 1 v' E.length (nums E)) => sameN h h' rfl (by omega)
  obtain ⟨P, hP⟩ : ∃ P, P = pack m := ⟨_, rfl⟩
  rw [← hP] at kp kq hpl
  obtain ⟨n, hn⟩ : ∃ n, n = E.length := ⟨_, rfl⟩
  obtain ⟨q, hq⟩ : ∃ q, q = P.length := ⟨_, rfl⟩
  rw [← hn] at kx ky ks hel
  rw [← hq] at kp kq hpl
  have KX := Lib.hid kx
  have KY := Lib.hid ky
  have KH := Lib.hid kh
  have KP := Lib.hid kp
  have KQ := Lib.hid kq
  have KS := Lib.hid ks
  have HN := Lib.hid hn
  have HQ := Lib.hid hq
  have hn2 : n ≤ 20000000 := by omega
  have hq2 : q ≤ 1048576 := by omega
  clear kx ky kh kp kq ks hn hq hE hP hel hpl hv hvm h0 h1 h2 s0 s1 hf hm hh hhm hcap hcam hn' hm'
  go_enter Try.func13, Try.ntmps13
  go_wp2_with (first | (go_at_call 27; refine (shown8 _).mono ?_; rintro e w1 ⟨rfl, hb1⟩; have ha1 : After _ w1 := ⟨hb1⟩; obtain ⟨hc1, hf1⟩ := after hb1; have hz1 := hb1.size; try simp at hz1))
  refine (KX.out _ (by repeat (first | with_reducible exact Below.refl _ _ | (with_reducible refine Below.alloc ?_ ?_ _; rotate_left; focus ((try simp) <;> omega)) | (with_reducible refine Below.setCell ?_ ?_ _; rotate_left; focus ((try simp) <;> omega)) | (with_reducible refine below_grow ?_ ?_; rotate_left; focus ((try simp) <;> omega)) | (with_reducible refine below_putB ?_ ?_; rotate_left; focus ((try simp) <;> omega)) | with_reducible refine Below.drew ?_ | with_reducible refine below_drewN ?_ | with_reducible assumption | (with_reducible refine below_step (by assumption) ?_ ?_; rotate_left; focus ((try simp) <;> omega))))).mono ?_; rintro e w2 ⟨v2, rfl, hL2, hb2⟩
  have B2 : RowKit.Below w.heap.size w w2 := (by repeat (first | with_reducible exact Below.refl _ _ | (with_reducible refine Below.alloc ?_ ?_ _; rotate_left; focus ((try simp) <;> omega)) | (with_reducible refine Below.setCell ?_ ?_ _; rotate_left; focus ((try simp) <;> omega)) | (with_reducible refine below_grow ?_ ?_; rotate_left; focus ((try simp) <;> omega)) | (with_reducible refine below_putB ?_ ?_; rotate_left; focus ((try simp) <;> omega)) | with_reducible refine Below.drew ?_ | with_reducible refine below_drewN ?_ | with_reducible assumption | (with_reducible refine below_step (by assumption) ?_ ?_; rotate_left; focus ((try simp) <;> omega))))
  have B2s := B2.size
  go_wp2_with fail
  refine (KY.out _ B2).mono ?_; rintro e w3 ⟨v3, rfl, hL3, hb3⟩
  have B3 : RowKit.Below w.heap.size w w3 := B2.trans (hb3.mono B2s)
  have B3s := B3.size
  have X2 := Lib.hid ((Has.of_line hL2).keep hb3)
  have X3 := Lib.hid (Has.of_line hL3)
  obtain ⟨a2, c2, rfl, _, _⟩ := X2.out.shape
  obtain ⟨a3, c3, rfl, _, _⟩ := X3.out.shape
  clear hL2 hL3 hb2 hb3 hc1 hf1 ha1 hb1 hz1
  go_wp2_with fail
  obtain ⟨W, hW⟩ : ∃ W : World, W = w3 := ⟨_, rfl⟩
  subst hW
  go_loopw [9, 23] (fun s9 s23 wr => ∃ k : Nat, k ≤ n ∧ s23 = .int .i64 k ∧ s9 = .bool (decide (s ∈ E.take k)) ∧ Below W.heap.size W wr) (fun _ i _ => n - (intOf i).toNat)
  case atStart => exact ⟨0, by omega, rfl, by simp, Below.refl _ _⟩
  case round =>
    obtain ⟨k, hk, rfl, rfl, hbel⟩ := hrel
    have hbs := hbel.size
    by_cases hlt : k < n
    · obtain ⟨g, o1, c1, e1, l1, p0⟩ := has_cell1 X3.out HN.out.symm k hlt
      simp only [Value.slice.injEq, true_and] at e1
      obtain ⟨rfl, rfl⟩ := e1
      rw [← hbel.cell (by simpa using l1)] at p0
      have hms := mem_take_succ E k s (by rw [← HN.out]; exact hlt)
      generalize E.getD k 0 = x at p0 hms
      have HMS := Lib.hid hms
      clear hms
      obtain ⟨f, hf⟩ : ∃ f, f = decide (s ∈ E.take k) := ⟨_, rfl⟩
      rw [← hf]
      have HF := Lib.hid hf
      clear hf
      have i3 : (k : Int) < (n : Int) := by omega
      have i4 : (0 : Int) ≤ (k : Int) := by omega
      cases f
      all_goals
        go_wp2_with fail
        go_roundw
        case rel => exact ⟨k + 1, by omega, by go_num, by rw [HMS.out, ← HF.out]; simp, (by repeat (first | with_reducible exact Below.refl _ _ | (with_reducible refine Below.alloc ?_ ?_ _; rotate_left; focus ((try simp) <;> omega)) | (with_reducible refine Below.setCell ?_ ?_ _; rotate_left; focus ((try simp) <;> omega)) | (with_reducible refine below_grow ?_ ?_; rotate_left; focus ((try simp) <;> omega)) | (with_reducible refine below_putB ?_ ?_; rotate_left; focus ((try simp) <;> omega)) | with_reducible refine Below.drew ?_ | with_reducible refine below_drewN ?_ | with_reducible assumption | (with_reducible refine below_step (by assumption) ?_ ?_; rotate_left; focus ((try simp) <;> omega))))⟩
        case measure => simp [intOf]; omega
    · obtain rfl : k = n := by omega
      have ht : E.take k = E := List.take_of_length_le (by rw [← HN.out]; exact Nat.le_refl _)
      rw [ht]
      clear ht
      have B4 : RowKit.Below w.heap.size w wr := B3.trans (hbel.mono B3s)
      have B4s := B4.size
      have X2 := Lib.hid (X2.out.keep hbel)
      have X3 := Lib.hid (X3.out.keep hbel)
      go_wp2_with fail
      refine (KP.out _ B4).mono ?_; rintro e w5 ⟨v5, rfl, hL5, hb5⟩
      have B5 : RowKit.Below w.heap.size w w5 := B4.trans (hb5.mono B4s)
      have B5s := B5.size
      go_wp2_with fail
      refine (KQ.out _ B5).mono ?_; rintro e w6 ⟨v6, rfl, hL6, hb6⟩
      have B6 : RowKit.Below w.heap.size w w6 := B5.trans (hb6.mono B5s)
      have B6s := B6.size
      obtain ⟨a5, c5, rfl, _, _⟩ := hL5.shape
      obtain ⟨a6, c6, rfl, _, _⟩ := hL6.shape
      have X2' := Lib.hid ((X2.out.keep hb5).keep hb6)
      have X3' := Lib.hid ((X3.out.keep hb5).keep hb6)
      have L5 := Lib.hid (hL5.keep hb6)
      have L6 := Lib.hid hL6
      clear hL5 hL6 hb5 hb6
      go_wp2_with fail
      refine (KS.out _ _ _ X2'.out X3'.out).mono ?_; rintro e w7 ⟨rfl, hb7⟩
      have B7 : RowKit.Below w.heap.size w w7 := B6.trans (hb7.mono B6s)
      have B7s := B7.size
      go_wp2_with fail
      refine (KH.out _ B7).mono ?_; rintro e w8 ⟨rfl, hb8⟩
      have B8 : RowKit.Below w.heap.size w w8 := B7.trans (hb8.mono B7s)
      have B8s := B8.size
      have L5' := Lib.hid ((L5.out.keep hb7).keep hb8)
      have L6' := Lib.hid ((L6.out.keep hb7).keep hb8)
      clear hb7 hb8
      go_wp2_with fail
      obtain ⟨wl, hwl⟩ : ∃ wl : World, wl = w8 := ⟨_, rfl⟩
      subst hwl
      go_loopw [58] (fun s wr => ∃ k : Nat, k ≤ q ∧ s = .int .i64 k ∧ Below wl.heap.size wl wr) (fun i _ => q - (intOf i).toNat)
      case atStart => exact ⟨0, by omega, rfl, Below.refl _ _⟩
      case round =>
        obtain ⟨j, hj, rfl, hbel9⟩ := hrel
        have hbs9 := hbel9.size
        by_cases hlt2 : j < q
        · obtain ⟨g, o1, c1, e1, l1, _, p0, p1⟩ := line_at L5'.out HQ.out.symm j hlt2
          simp only [Value.slice.injEq, true_and] at e1
          obtain ⟨rfl, rfl⟩ := e1
          obtain ⟨g', o2, c2, e2, l2, _, q0, q1⟩ := line_at L6'.out HQ.out.symm j hlt2
          simp only [Value.slice.injEq, true_and] at e2
          obtain ⟨rfl, rfl⟩ := e2
          rw [← hbel9.cell (by simpa using l1)] at p0 p1
          rw [← hbel9.cell (by simpa using l2)] at q0 q1
          generalize (P.getD j (0, 0)).1 = x at p0 q0
          generalize (P.getD j (0, 0)).2 = y at p1 q1
          have og1 : Old g wr := ⟨by omega⟩
          have og2 : Old g' wr := ⟨by omega⟩
          have i3 : (j : Int) < (q : Int) := by omega
          have i4 : (0 : Int) ≤ (j : Int) := by omega
          go_wp2_with fail
          refine wp_region_quiet_below (by kernel_rfl) (by kernel_rfl) ?_
          repeat (first | go_big_quiet_step (((fail))) | quiet_step (((fail))))
          refine wpQuiet_nil ?_
          intro _ hw'
          obtain ⟨⟨dq, osq⟩, hw''⟩ := hw'
          subst hw''
          go_wp2_with fail
          go_roundw
          case rel => exact ⟨j + 1, by omega, by go_num, (by repeat (first | with_reducible exact Below.refl _ _ | (with_reducible refine Below.alloc ?_ ?_ _; rotate_left; focus ((try simp) <;> omega)) | (with_reducible refine Below.setCell ?_ ?_ _; rotate_left; focus ((try simp) <;> omega)) | (with_reducible refine below_grow ?_ ?_; rotate_left; focus ((try simp) <;> omega)) | (with_reducible refine below_putB ?_ ?_; rotate_left; focus ((try simp) <;> omega)) | with_reducible refine Below.drew ?_ | with_reducible refine below_drewN ?_ | with_reducible assumption | (with_reducible refine below_step (by assumption) ?_ ?_; rotate_left; focus ((try simp) <;> omega))))⟩
          case measure => simp [intOf]; omega
        · go_wp2_with fail
          refine ret_any ⟨_, by simp [results, Try.results13, go_sem, *]; rfl, ?_⟩ rfl
          exact gives_of rfl (B8.trans (hbel9.mono B8s))
end Go.Proofs.Ytoefekojjagjdaa
