/-
  ResendAll: Of, Missing and Numbers answer as the reference's do. For slices that are not too long.
-/
import Derived.Test.YtoefekojjagjdaaShown19
import Derived.Test.YtoefekojjagjdaaSameEnts
import Derived.Test.YtoefekojjagjdaaNackAll
namespace Go.Proofs.Ytoefekojjagjdaa
open Go.RowKit Go.Sort Go.BigFrame
set_option linter.unusedVariables false
attribute [local go_sem ↓] Go.wp_at_zero Go.wp_at_succ
theorem seqs_getD (l : List Ent) (k : Nat) (h : k < l.length) : (seqs l).getD k 0 = (l.getD k e0).1 := by
  unfold seqs
  rw [List.getD_eq_getElem?_getD, List.getD_eq_getElem?_getD, List.getElem?_map, List.getElem?_eq_getElem h]
  rfl
theorem seqs_len (l : List Ent) : (seqs l).length = l.length := by simp [seqs]
set_option maxRecDepth 100000 in
set_option maxHeartbeats 8000000 in
theorem resendAll_ok (v0 v1 : Value) (w : World) (h0 : Arg Try.prog w 48 v0) (h1 : Arg Try.prog w 39 v1) (s0 : Small v0) (s1 : Small v1) : Calls Try.prog 14 #[v0, v1] w (Gives (.bool true) w) := by
  obtain ⟨l, hf, hh⟩ := arg_ents h0
  obtain ⟨m, hm, hhm⟩ := arg_prs h1
  obtain ⟨ao, cap, hv, hcap, hcap'⟩ := hh.shape
  obtain ⟨am, cam, hvm, hcam, hcam'⟩ := hhm.shape
  have hn' : l.length ≤ 1048576 := s0 ao _ cap hv
  have hm' : m.length ≤ 1048576 := s1 am _ cam hvm
  have ko := fun (w' : World) (k : Below w.heap.size w w') => ofR (hh.keep k) rfl (by omega) (hhm.keep k) rfl hm (by omega)
  have kq := fun (w' : World) (k : Below w.heap.size w w') => refOfR (hh.keep k) rfl (by omega) (hhm.keep k) rfl hm (by omega)
  have kp := fun (w' : World) (k : Below w.heap.size w w') => missingR (hh.keep k) rfl hf (by omega)
  have kr := fun (w' : World) (k : Below w.heap.size w w') => refMissingR (hh.keep k) rfl hf (by omega)
  have kn := fun (w' : World) (k : Below w.heap.size w w') => numbersR (hh.keep k) rfl (by omega)
  have hel : (expand m).length ≤ 17 * m.length := expand_len m
  have hol : (ofL l (expand m)).length ≤ (expand m).length := ofL_len _ _
  have hml : (miss l).length ≤ 16 * l.length := missTo_len l l.length
  have hpl : (pack (miss l)).length ≤ (miss l).length := packTo_len _ _
  obtain ⟨c, hc⟩ : ∃ c : Int, c = ((expand m).length : Int) - (ofL l (expand m)).length := ⟨_, rfl⟩
  rw [← hc] at ko kq
  clear hc
  obtain ⟨O, hO⟩ : ∃ O, O = ofL l (expand m) := ⟨_, rfl⟩
  rw [← hO] at ko kq hol
  obtain ⟨P, hP⟩ : ∃ P, P = pack (miss l) := ⟨_, rfl⟩
  rw [← hP] at kp kr hpl
  obtain ⟨N, hN⟩ : ∃ N, N = l.length := ⟨_, rfl⟩
  rw [← hN] at hh hv kn hn' hml
  obtain ⟨q, hq⟩ : ∃ q, q = P.length := ⟨_, rfl⟩
  rw [← hq] at kp kr hpl
  obtain ⟨r, hr⟩ : ∃ r, r = O.length := ⟨_, rfl⟩
  rw [← hr] at ko kq hol
  have ks := fun (w' : World) (v v' : Value) (h : Has w' 7 v r (ents O)) (h' : Has w' 7 v' r (ents O)) => sameE h h' hr.symm (by omega)
  have KO := Lib.hid ko
  have KQ := Lib.hid kq
  have KP := Lib.hid kp
  have KR := Lib.hid kr
  have KN := Lib.hid kn
  have KS := Lib.hid ks
  have HH := Lib.hid hh
  have HN := Lib.hid hN
  have HQ := Lib.hid hq
  have hq2 : q ≤ 20000000 := by omega
  subst hv
  unfold maxLen at hcap'
  clear ko kq kp kr kn ks hN hq hr hO hP hel hpl hol hml hvm h0 h1 s0 s1 hf hm hh hhm hcam hm'
  go_enter Try.func14, Try.ntmps14
  go_wp2_with (first | (go_at_call 34; refine (shown19 _).mono ?_; rintro e w1 ⟨rfl, hb1⟩; have ha1 : After _ w1 := ⟨hb1⟩; obtain ⟨hc1, hf1⟩ := after hb1; have hz1 := hb1.size; try simp at hz1))
  refine (KO.out _ (by repeat (first | with_reducible exact Below.refl _ _ | (with_reducible refine Below.alloc ?_ ?_ _; rotate_left; focus ((try simp) <;> omega)) | (with_reducible refine Below.setCell ?_ ?_ _; rotate_left; focus ((try simp) <;> omega)) | (with_reducible refine below_grow ?_ ?_; rotate_left; focus ((try simp) <;> omega)) | (with_reducible refine below_putB ?_ ?_; rotate_left; focus ((try simp) <;> omega)) | with_reducible refine Below.drew ?_ | with_reducible refine below_drewN ?_ | with_reducible assumption | (with_reducible refine below_step (by assumption) ?_ ?_; rotate_left; focus ((try simp) <;> omega))))).mono ?_; rintro e w2 ⟨v2, rfl, hL2, hb2⟩
  have B2 : RowKit.Below w.heap.size w w2 := (by repeat (first | with_reducible exact Below.refl _ _ | (with_reducible refine Below.alloc ?_ ?_ _; rotate_left; focus ((try simp) <;> omega)) | (with_reducible refine Below.setCell ?_ ?_ _; rotate_left; focus ((try simp) <;> omega)) | (with_reducible refine below_grow ?_ ?_; rotate_left; focus ((try simp) <;> omega)) | (with_reducible refine below_putB ?_ ?_; rotate_left; focus ((try simp) <;> omega)) | with_reducible refine Below.drew ?_ | with_reducible refine below_drewN ?_ | with_reducible assumption | (with_reducible refine below_step (by assumption) ?_ ?_; rotate_left; focus ((try simp) <;> omega))))
  have B2s := B2.size
  go_wp2_with fail
  refine (KQ.out _ B2).mono ?_; rintro e w3 ⟨v3, rfl, hL3, hb3⟩
  have B3 : RowKit.Below w.heap.size w w3 := B2.trans (hb3.mono B2s)
  have B3s := B3.size
  have X2 := Lib.hid ((Has.of_line hL2).keep hb3)
  have X3 := Lib.hid (Has.of_line hL3)
  clear hL2 hL3 hb2 hb3 hc1 hf1 ha1 hb1 hz1
  go_wp2_with fail
  refine (KP.out _ B3).mono ?_; rintro e w4 ⟨v4, rfl, hL4, hb4⟩
  have B4 : RowKit.Below w.heap.size w w4 := B3.trans (hb4.mono B3s)
  have B4s := B4.size
  go_wp2_with fail
  refine (KR.out _ B4).mono ?_; rintro e w5 ⟨v5, rfl, hL5, hb5⟩
  have B5 : RowKit.Below w.heap.size w w5 := B4.trans (hb5.mono B4s)
  have B5s := B5.size
  go_wp2_with fail
  refine (KN.out _ B5).mono ?_; rintro e w6 ⟨v6, rfl, hL6, hb6⟩
  have B6 : RowKit.Below w.heap.size w w6 := B5.trans (hb6.mono B5s)
  have B6s := B6.size
  have X2' := Lib.hid (((X2.out.keep hb4).keep hb5).keep hb6)
  have X3' := Lib.hid (((X3.out.keep hb4).keep hb5).keep hb6)
  go_wp2_with fail
  refine (KS.out _ _ _ X2'.out X3'.out).mono ?_; rintro e w7 ⟨rfl, hb7⟩
  have B7 : RowKit.Below w.heap.size w w7 := B6.trans (hb7.mono B6s)
  have B7s := B7.size
  obtain ⟨a4, c4, rfl, _, _⟩ := hL4.shape
  obtain ⟨a5, c5, rfl, _, _⟩ := hL5.shape
  obtain ⟨a6, c6, rfl, _, _⟩ := hL6.shape
  have L4 := Lib.hid (((hL4.keep hb5).keep hb6).keep hb7)
  have L5 := Lib.hid ((hL5.keep hb6).keep hb7)
  have X6 := Lib.hid (Has.of_line (hL6.keep hb7))
  clear hL4 hL5 hL6 hb4 hb5 hb6 hb7
  go_wp2_with fail
  obtain ⟨wl, hwl⟩ : ∃ wl : World, wl = w7 := ⟨_, rfl⟩
  subst hwl
  go_loopw [59] (fun s wr => ∃ k : Nat, k ≤ q ∧ s = .int .i64 k ∧ Below wl.heap.size wl wr) (fun i _ => q - (intOf i).toNat)
  case atStart => exact ⟨0, by omega, rfl, Below.refl _ _⟩
  case round =>
    obtain ⟨j, hj, rfl, hbel9⟩ := hrel
    have hbs9 := hbel9.size
    by_cases hlt2 : j < q
    · obtain ⟨g, o1, c1, e1, l1, _, p0, p1⟩ := line_at L4.out HQ.out.symm j hlt2
      simp only [Value.slice.injEq, true_and] at e1
      obtain ⟨rfl, rfl⟩ := e1
      obtain ⟨g', o2, c2, e2, l2, _, q0, q1⟩ := line_at L5.out HQ.out.symm j hlt2
      simp only [Value.slice.injEq, true_and] at e2
      obtain ⟨rfl, rfl⟩ := e2
      rw [← hbel9.cell (by simpa using l1)] at p0 p1
      rw [← hbel9.cell (by simpa using l2)] at q0 q1
      generalize (P.getD j (0, 0)).1 = x at p0 q0
      generalize (P.getD j (0, 0)).2 = y at p1 q1
      have og1 : Old g wr := ⟨by omega⟩
      have og2 : Old g' wr := ⟨by omega⟩
      have i3 : (j : Int) < (q : Int) := by omega
      have i4 : (0 : Int) ≤ (j : Int) := by omega
      go_wp2_with fail
      refine wp_region_quiet_below (by kernel_rfl) (by kernel_rfl) ?_
      repeat (first | go_big_quiet_step (((fail))) | quiet_step (((fail))))
      refine wpQuiet_nil ?_
      intro _ hw'
      obtain ⟨⟨dq, osq⟩, hw''⟩ := hw'
      subst hw''
      go_wp2_with fail
      go_roundw
      case rel => exact ⟨j + 1, by omega, by go_num, (by repeat (first | with_reducible exact Below.refl _ _ | (with_reducible refine Below.alloc ?_ ?_ _; rotate_left; focus ((try simp) <;> omega)) | (with_reducible refine Below.setCell ?_ ?_ _; rotate_left; focus ((try simp) <;> omega)) | (with_reducible refine below_grow ?_ ?_; rotate_left; focus ((try simp) <;> omega)) | (with_reducible refine below_putB ?_ ?_; rotate_left; focus ((try simp) <;> omega)) | with_reducible refine Below.drew ?_ | with_reducible refine below_drewN ?_ | with_reducible assumption | (with_reducible refine below_step (by assumption) ?_ ?_; rotate_left; focus ((try simp) <;> omega))))⟩
      case measure => simp [intOf]; omega
    · obtain rfl : j = q := by omega
      have B8 : RowKit.Below w.heap.size w wr := B7.trans (hbel9.mono B7s)
      have B8s := B8.size
      have X6' := Lib.hid (X6.out.keep hbel9)
      have HH' := Lib.hid (HH.out.keep B8)
      go_wp2_with fail
      obtain ⟨wm, hwm⟩ : ∃ wm : World, wm = wr := ⟨_, rfl⟩
      subst hwm
      go_loopw [74] (fun s wr => ∃ k : Nat, k ≤ N ∧ s = .int .i64 k ∧ Below wm.heap.size wm wr) (fun i _ => N - (intOf i).toNat)
      case atStart => exact ⟨0, by omega, rfl, Below.refl _ _⟩
      case round =>
        obtain ⟨i, hi, rfl, hbelA⟩ := hrel
        have hbsA := hbelA.size
        by_cases hlt3 : i < N
        · obtain ⟨g, o1, c1, e1, l1, p0⟩ := has_cell1 X6'.out (by rw [seqs_len]; exact HN.out.symm) i hlt3
          simp only [Value.slice.injEq, true_and] at e1
          obtain ⟨rfl, rfl⟩ := e1
          obtain ⟨g', o2, c2, e2, l2, _, q0⟩ := ent_cells HH'.out HN.out.symm i hlt3
          simp only [Value.slice.injEq, true_and] at e2
          obtain ⟨rfl, rfl⟩ := e2
          rw [← hbelA.cell (by simpa using l1)] at p0
          have q1 := (hbelA.cell (p := ⟨g', o2 + i * 7 + 0, none⟩) (by simpa using l2)).trans (q0 0 (by omega))
          simp only [entC, List.getElem?_cons_zero, Nat.add_zero] at q1
          rw [seqs_getD _ _ (by rw [← HN.out]; exact hlt3)] at p0
          clear q0
          generalize (l.getD i e0).1 = x at p0 q1
          have og1 : Old g wr := ⟨by omega⟩
          have og2 : Old g' wr := ⟨by omega⟩
          have i3 : (i : Int) < (N : Int) := by omega
          have i4 : (0 : Int) ≤ (i : Int) := by omega
          go_wp2_with fail
          refine wp_region_quiet_below (by kernel_rfl) (by kernel_rfl) ?_
          repeat (first | go_big_quiet_step (((fail))) | quiet_step (((fail))))
          refine wpQuiet_nil ?_
          intro _ hw'
          obtain ⟨⟨dq, osq⟩, hw''⟩ := hw'
          subst hw''
          go_wp2_with fail
          go_roundw
          case rel => exact ⟨i + 1, by omega, by go_num, (by repeat (first | with_reducible exact Below.refl _ _ | (with_reducible refine Below.alloc ?_ ?_ _; rotate_left; focus ((try simp) <;> omega)) | (with_reducible refine Below.setCell ?_ ?_ _; rotate_left; focus ((try simp) <;> omega)) | (with_reducible refine below_grow ?_ ?_; rotate_left; focus ((try simp) <;> omega)) | (with_reducible refine below_putB ?_ ?_; rotate_left; focus ((try simp) <;> omega)) | with_reducible refine Below.drew ?_ | with_reducible refine below_drewN ?_ | with_reducible assumption | (with_reducible refine below_step (by assumption) ?_ ?_; rotate_left; focus ((try simp) <;> omega))))⟩
          case measure => simp [intOf]; omega
        · go_wp2_with fail
          refine ret_any ⟨_, by simp [results, Try.results14, go_sem, *]; rfl, ?_⟩ rfl
          exact gives_of rfl (B8.trans (hbelA.mono B8s))
end Go.Proofs.Ytoefekojjagjdaa
