/-
  ResendOnly: what is sent again is one of the entries, of a number that is asked for; each number is sent or missed. For slices that are not too long.
-/
import Derived.Test.YtoefekojjagjdaaResendAll
namespace Go.Proofs.Ytoefekojjagjdaa
open Go.RowKit Go.Sort Go.BigFrame
set_option linter.unusedVariables false
attribute [local go_sem ↓] Go.wp_at_zero Go.wp_at_succ
theorem findE_yes {l : List Ent} {s : Int} {x : Ent} (h : findE l s = some x) : x ∈ l ∧ x.1 = s := by
  unfold findE at h
  have h1 := List.mem_of_find?_eq_some h
  have h2 := List.find?_some h
  exact ⟨by simpa using h1, by simpa using h2⟩
theorem findE_no {l : List Ent} {s : Int} : findE l s = none ↔ ¬ s ∈ seqs l := by
  unfold findE seqs
  rw [List.find?_eq_none]
  constructor
  · intro h hm
    obtain ⟨x, hx, e⟩ := List.mem_map.1 hm
    exact h x (by simpa using hx) (by simpa using e)
  · intro h x hx e
    exact h (List.mem_map.2 ⟨x, by simpa using hx, by simpa using e⟩)
theorem ofL_at (l : List Ent) (E : List Int) (k : Nat) (hk : k < E.length) (x : Ent) (h : findE l (E.getD k 0) = some x) :
    (ofL l (E.take k)).length < (ofL l E).length ∧ (ofL l E).getD (ofL l (E.take k)).length e0 = x := by
  have h1 := ofL_snoc l E k hk
  rw [h, Option.toList_some] at h1
  have h2 : ofL l E = ofL l (E.take (k + 1)) ++ ofL l (E.drop (k + 1)) := by
    unfold ofL; rw [← List.filterMap_append, List.take_append_drop]
  rw [h2, h1, List.append_assoc]
  refine ⟨by simp, ?_⟩
  rw [List.getD_eq_getElem?_getD, List.getElem?_append_right (Nat.le_refl _), Nat.sub_self]
  rfl
theorem mem_at {l : List Ent} {x : Ent} (h : x ∈ l) : ∃ j, j < l.length ∧ l.getD j e0 = x := by
  obtain ⟨j, hj, e⟩ := List.getElem_of_mem h
  exact ⟨j, hj, by rw [List.getD_eq_getElem?_getD, List.getElem?_eq_getElem hj, e]; rfl⟩
/-- Whether two entries are alike. -/
def eqE (x y : Ent) : Bool := x.1 == y.1 && (x.2.1 == y.2.1 && (x.2.2.1 == y.2.2.1 && (x.2.2.2.1 == y.2.2.2.1 && (x.2.2.2.2.1 == y.2.2.2.2.1 && (x.2.2.2.2.2.1 == y.2.2.2.2.2.1 && x.2.2.2.2.2.2 == y.2.2.2.2.2.2)))))
@[go_sem] theorem eqE_self (x : Ent) : eqE x x = true := by simp [eqE]
theorem run_eq_ent (w : World) (x0 x1 x2 x3 x4 x5 x6 y0 y1 y2 y3 y4 y5 y6 : Int) :
    (Op.equalIn 10000 59 (.agg #[.int .u16 x0, .int .i64 x1, .int .u32 x2, .int .u16 x3, .int .u32 x4, .int .u32 x5, .int .u16 x6]) (.agg #[.int .u16 y0, .int .i64 y1, .int .u32 y2, .int .u16 y3, .int .u32 y4, .int .u32 y5, .int .u16 y6])).run Try.prog w
      = .ok (eqE (x0, x1, x2, x3, x4, x5, x6) (y0, y1, y2, y3, y4, y5, y6)) w := by
  unfold eqE
  dsimp only
  simp [go_sem]
  repeat' split
  all_goals simp [*]
attribute [local go_sem high] run_eq_ent
set_option maxRecDepth 100000 in
set_option maxHeartbeats 8000000 in
theorem resendOnly_ok (v0 v1 : Value) (w : World) (h0 : Arg Try.prog w 48 v0) (h1 : Arg Try.prog w 39 v1) (s0 : Small v0) (s1 : Small v1) : Calls Try.prog 15 #[v0, v1] w (Gives (.bool true) w) := by
  obtain ⟨l, hf, hh⟩ := arg_ents h0
  obtain ⟨m, hm, hhm⟩ := arg_prs h1
  obtain ⟨ao, cap, hv, hcap, hcap'⟩ := hh.shape
  obtain ⟨am, cam, hvm, hcam, hcam'⟩ := hhm.shape
  have hn' : l.length ≤ 1048576 := s0 ao _ cap hv
  have hm' : m.length ≤ 1048576 := s1 am _ cam hvm
  have ko := fun (w' : World) (k : Below w.heap.size w w') => ofR (hh.keep k) rfl (by omega) (hhm.keep k) rfl hm (by omega)
  have kx := fun (w' : World) (k : Below w.heap.size w w') => expandR (hhm.keep k) rfl hm (by omega)
  have hel : (expand m).length ≤ 17 * m.length := expand_len m
  obtain ⟨E, hE⟩ : ∃ E, E = expand m := ⟨_, rfl⟩
  rw [← hE] at ko kx hel
  have hol : (ofL l E).length ≤ E.length := ofL_len _ _
  obtain ⟨c, hc⟩ : ∃ c : Int, c = (E.length : Int) - (ofL l E).length := ⟨_, rfl⟩
  rw [← hc] at ko
  obtain ⟨N, hN⟩ : ∃ N, N = E.length := ⟨_, rfl⟩
  obtain ⟨r, hr⟩ : ∃ r, r = (ofL l E).length := ⟨_, rfl⟩
  obtain ⟨n, hn⟩ : ∃ n, n = l.length := ⟨_, rfl⟩
  rw [← hr] at ko hol hc
  rw [← hN] at kx hel hol hc
  rw [← hn] at hh hv hn'
  have i0 : ((r : Int) + c != (N : Int)) = false := by rw [hc]; simp; omega
  have i1 : 0 ≤ c := by omega
  have i2 : c ≤ 20000000 := by omega
  have i3 : N ≤ 20000000 := by omega
  have KO := Lib.hid ko
  have KX := Lib.hid kx
  have HH := Lib.hid hh
  have HN := Lib.hid hN
  have HR := Lib.hid hr
  have HL := Lib.hid hn
  subst hv
  unfold maxLen at hcap'
  clear ko kx hc hN hr hn hE hel hvm h0 h1 s0 s1 hf hm hh hhm hcam hm'
  go_enter Try.func15, Try.ntmps15
  go_wp2_with (first | (go_at_call 34; refine (shown19 _).mono ?_; rintro e w1 ⟨rfl, hb1⟩; have ha1 : After _ w1 := ⟨hb1⟩; obtain ⟨hc1, hf1⟩ := after hb1; have hz1 := hb1.size; try simp at hz1))
  refine (KO.out _ (by repeat (first | with_reducible exact Below.refl _ _ | (with_reducible refine Below.alloc ?_ ?_ _; rotate_left; focus ((try simp) <;> omega)) | (with_reducible refine Below.setCell ?_ ?_ _; rotate_left; focus ((try simp) <;> omega)) | (with_reducible refine below_grow ?_ ?_; rotate_left; focus ((try simp) <;> omega)) | (with_reducible refine below_putB ?_ ?_; rotate_left; focus ((try simp) <;> omega)) | with_reducible refine Below.drew ?_ | with_reducible refine below_drewN ?_ | with_reducible assumption | (with_reducible refine below_step (by assumption) ?_ ?_; rotate_left; focus ((try simp) <;> omega))))).mono ?_; rintro e w2 ⟨v2, rfl, hL2, hb2⟩
  have B2 : RowKit.Below w.heap.size w w2 := (by repeat (first | with_reducible exact Below.refl _ _ | (with_reducible refine Below.alloc ?_ ?_ _; rotate_left; focus ((try simp) <;> omega)) | (with_reducible refine Below.setCell ?_ ?_ _; rotate_left; focus ((try simp) <;> omega)) | (with_reducible refine below_grow ?_ ?_; rotate_left; focus ((try simp) <;> omega)) | (with_reducible refine below_putB ?_ ?_; rotate_left; focus ((try simp) <;> omega)) | with_reducible refine Below.drew ?_ | with_reducible refine below_drewN ?_ | with_reducible assumption | (with_reducible refine below_step (by assumption) ?_ ?_; rotate_left; focus ((try simp) <;> omega))))
  have B2s := B2.size
  go_wp2_with fail
  refine (KX.out _ B2).mono ?_; rintro e w3 ⟨v3, rfl, hL3, hb3⟩
  have B3 : RowKit.Below w.heap.size w w3 := B2.trans (hb3.mono B2s)
  have B3s := B3.size
  have X2 := Lib.hid (Has.of_line (hL2.keep hb3))
  have X3 := Lib.hid (Has.of_line hL3)
  obtain ⟨a2, c2, rfl, hc2, hc2'⟩ := X2.out.shape
  obtain ⟨a3, c3, rfl, _, _⟩ := X3.out.shape
  unfold maxLen at hc2'
  clear hL2 hL3 hb2 hb3 hc1 hf1 ha1 hb1 hz1
  go_wp2_with fail
  obtain ⟨W, hW⟩ : ∃ W : World, W = w3 := ⟨_, rfl⟩
  subst hW
  have X1 := Lib.hid (HH.out.keep B3)
  go_loopw [8, 40] (fun s8 s40 wr => ∃ k : Nat, k ≤ N ∧ s40 = .int .i64 k ∧ s8 = .int .i64 (ofL l (E.take k)).length ∧ Below W.heap.size W wr) (fun _ i _ => N - (intOf i).toNat)
  case atStart => exact ⟨0, by omega, rfl, by simp [ofL], Below.refl _ _⟩
  case round =>
    obtain ⟨k, hk, rfl, rfl, hbel⟩ := hrel
    have hbs := hbel.size
    have hok : (ofL l (E.take k)).length ≤ k := Nat.le_trans (ofL_len l (E.take k)) (by simp; omega)
    by_cases hlt : k < N
    · obtain ⟨g, o1, c1, e1, l1, p0⟩ := has_cell1 X3.out HN.out.symm k hlt
      simp only [Value.slice.injEq, true_and] at e1
      obtain ⟨rfl, rfl⟩ := e1
      rw [← hbel.cell (by simpa using l1)] at p0
      have hkE : k < E.length := by rw [← HN.out]; exact hlt
      have hsn := ofL_snoc l E k hkE
      have hat := ofL_at l E k hkE
      obtain ⟨s, hs⟩ : ∃ s, s = E.getD k 0 := ⟨_, rfl⟩
      rw [← hs] at p0 hsn hat
      have HSN := Lib.hid hsn
      have HAT := Lib.hid hat
      obtain ⟨z, hz⟩ : ∃ z, z = (ofL l (E.take k)).length := ⟨_, rfl⟩
      rw [← hz] at hok ⊢
      have HZ := Lib.hid hz
      have i4 : (k : Int) < (N : Int) := by omega
      have i5 : (0 : Int) ≤ (k : Int) := by omega
      have i6 : (0 : Int) ≤ (z : Int) := by omega
      have i7 : (z : Int) ≤ 20000000 := by omega
      have oga : Old g wr := ⟨by omega⟩
      have HK := Lib.hid hkE
      clear hs hsn hat hz hkE
      obtain ⟨wo, hwo⟩ : ∃ wo : World, wo = wr := ⟨_, rfl⟩
      subst hwo
      go_wp2_with fail
      go_loopw [11, 46] (fun s11 s46 wi => ∃ i : Nat, i ≤ n ∧ s46 = .int .i64 i ∧ s11 = .bool (decide (s ∈ (seqs l).take i)) ∧ Below W.heap.size W wi) (fun _ i _ => n - (intOf i).toNat)
      case atStart => exact ⟨0, by omega, rfl, by simp, hbel⟩
      case round =>
        obtain ⟨i, hi, rfl, rfl, hbi⟩ := hrel
        have hbis := hbi.size
        by_cases hli : i < n
        · obtain ⟨g', o2, c2, e2, l2, _, q0⟩ := ent_cells X1.out HL.out.symm i hli
          simp only [Value.slice.injEq, true_and] at e2
          obtain ⟨rfl, rfl⟩ := e2
          have hms := mem_take_succ (seqs l) i s (by rw [seqs_len, ← HL.out]; exact hli)
          rw [seqs_getD _ _ (by rw [← HL.out]; exact hli)] at hms
          have hcc := fun j hj => (hbi.cell (p := ⟨g', o2 + i * 7 + j, none⟩) (by simpa using l2)).trans (q0 j hj)
          clear q0
          generalize l.getD i e0 = x at hcc hms
          obtain ⟨x0, x1, x2, x3, x4, x5, x6⟩ := x
          have d0 := hcc 0 (by omega)
          have d1 := hcc 1 (by omega)
          have d2 := hcc 2 (by omega)
          have d3 := hcc 3 (by omega)
          have d4 := hcc 4 (by omega)
          have d5 := hcc 5 (by omega)
          have d6 := hcc 6 (by omega)
          simp only [entC, List.getElem?_cons_zero, List.getElem?_cons_succ, Nat.add_zero] at d0 d1 d2 d3 d4 d5 d6
          have HMS := Lib.hid hms
          clear hcc hms
          obtain ⟨f, hf⟩ : ∃ f, f = decide (s ∈ (seqs l).take i) := ⟨_, rfl⟩
          rw [← hf]
          have HF := Lib.hid hf
          clear hf
          have og' : Old g' wr := ⟨by omega⟩
          have i8 : (i : Int) < (n : Int) := by omega
          have i9 : (0 : Int) ≤ (i : Int) := by omega
          cases f
          all_goals
            go_wp2_with fail
            go_roundw
            case rel => exact ⟨i + 1, by omega, by go_num, by rw [HMS.out, ← HF.out]; simp, (by repeat (first | with_reducible exact Below.refl _ _ | (with_reducible refine Below.alloc ?_ ?_ _; rotate_left; focus ((try simp) <;> omega)) | (with_reducible refine Below.setCell ?_ ?_ _; rotate_left; focus ((try simp) <;> omega)) | (with_reducible refine below_grow ?_ ?_; rotate_left; focus ((try simp) <;> omega)) | (with_reducible refine below_putB ?_ ?_; rotate_left; focus ((try simp) <;> omega)) | with_reducible refine Below.drew ?_ | with_reducible refine below_drewN ?_ | with_reducible assumption | (with_reducible refine below_step (by assumption) ?_ ?_; rotate_left; focus ((try simp) <;> omega))))⟩
            case measure => simp [intOf]; omega
        · obtain rfl : i = n := by omega
          have ht : (seqs l).take i = seqs l := List.take_of_length_le (by rw [seqs_len, HL.out]; exact Nat.le_refl _)
          rw [ht]
          clear ht
          by_cases hin : s ∈ seqs l
          · have hd : decide (s ∈ seqs l) = true := decide_eq_true hin
            rw [hd]
            obtain ⟨x, hx⟩ : ∃ x, findE l s = some x := by
              cases h : findE l s with
              | none => exact absurd hin (findE_no.1 h)
              | some x => exact ⟨x, rfl⟩
            obtain ⟨hxm, hxs⟩ := findE_yes hx
            obtain ⟨hzr, hxz⟩ := HAT.out x hx
            rw [← HZ.out, ← HR.out] at hzr
            rw [← HZ.out] at hxz
            obtain ⟨j0, hj0, hjx⟩ := mem_at hxm
            rw [← HL.out] at hj0
            have hnx := HSN.out
            rw [hx, Option.toList_some] at hnx
            have HNX := Lib.hid hnx
            obtain ⟨g2, o2, k2, e2, l2, _, q0⟩ := ent_cells X2.out HR.out.symm z hzr
            simp only [Value.slice.injEq, true_and] at e2
            obtain ⟨rfl, rfl⟩ := e2
            have HCC := Lib.hid (fun j (hj : j < 7) => q0 j hj)
            rw [hxz] at HCC
            have HJX := Lib.hid hjx
            obtain ⟨y0, y1, y2, y3, y4, y5, y6⟩ := x
            have hcc := fun j hj => (hbi.cell (p := ⟨g2, o2 + z * 7 + j, none⟩) (by simpa using l2)).trans (HCC.out j hj)
            have d0 := hcc 0 (by omega)
            simp only [entC, List.getElem?_cons_zero, Nat.add_zero] at d0
            dsimp only at hxs
            subst hxs
            have og' : Old g2 wr := ⟨by omega⟩
            have i8 : (z : Int) < (r : Int) := by omega
            have iC : decide (r ≤ z) = false := by simpa using hzr
            clear hd hin hx hxm hcc hxz hjx hnx q0
            obtain ⟨wu, hwu⟩ : ∃ wu : World, wu = wr := ⟨_, rfl⟩
            subst hwu
            go_wp2_with fail
            go_loopw [14, 75] (fun s14 s75 wi => ∃ (u : Nat) (f : Bool), u ≤ i ∧ s75 = .int .i64 u ∧ s14 = .bool f ∧ (j0 < u → f = true) ∧ Below W.heap.size W wi) (fun _ i' _ => i - (intOf i').toNat)
            case atStart => exact ⟨0, false, by omega, rfl, rfl, fun h => by omega, hbi⟩
            case round =>
              obtain ⟨u, f, hu, rfl, rfl, hfu, hbu⟩ := hrel
              have hbus := hbu.size
              by_cases hlu : u < i
              · obtain ⟨g', o3, c3, e3, l3, _, q0⟩ := ent_cells X1.out HL.out.symm u hlu
                simp only [Value.slice.injEq, true_and] at e3
                obtain ⟨rfl, rfl⟩ := e3
                have hcc := fun j hj => (hbu.cell (p := ⟨g', o3 + u * 7 + j, none⟩) (by simpa using l3)).trans (q0 j hj)
                have hcd := fun j hj => (hbu.cell (p := ⟨g2, o2 + z * 7 + j, none⟩) (by simpa using l2)).trans (HCC.out j hj)
                clear q0
                have HFU := Lib.hid hfu
                have og1 : Old g' wr := ⟨by omega⟩
                have og2 : Old g2 wr := ⟨by omega⟩
                have i9 : (u : Int) < (i : Int) := by omega
                have iA : (0 : Int) ≤ (u : Int) := by omega
                by_cases huj : u = j0
                · subst huj
                  rw [HJX.out] at hcc
                  have d0 := hcc 0 (by omega)
                  have d1 := hcc 1 (by omega)
                  have d2 := hcc 2 (by omega)
                  have d3 := hcc 3 (by omega)
                  have d4 := hcc 4 (by omega)
                  have d5 := hcc 5 (by omega)
                  have d6 := hcc 6 (by omega)
                  have f0 := hcd 0 (by omega)
                  have f1 := hcd 1 (by omega)
                  have f2 := hcd 2 (by omega)
                  have f3 := hcd 3 (by omega)
                  have f4 := hcd 4 (by omega)
                  have f5 := hcd 5 (by omega)
                  have f6 := hcd 6 (by omega)
                  simp only [entC, List.getElem?_cons_zero, List.getElem?_cons_succ, Nat.add_zero] at d0 d1 d2 d3 d4 d5 d6 f0 f1 f2 f3 f4 f5 f6
                  clear hcc hcd hfu
                  cases f
                  all_goals
                    go_wp2_with fail
                    refine wp_region_quiet_below (by kernel_rfl) (by kernel_rfl) ?_
                    repeat (first | go_big_quiet_step (((fail))) | quiet_step (((fail))))
                    refine wpQuiet_nil ?_
                    intro _ hw'
                    obtain ⟨⟨dq, osq⟩, hw''⟩ := hw'
                    subst hw''
                    go_wp2_with fail
                    go_roundw
                    case rel => exact ⟨u + 1, true, by omega, by go_num, rfl, fun _ => rfl, (by repeat (first | with_reducible exact Below.refl _ _ | (with_reducible refine Below.alloc ?_ ?_ _; rotate_left; focus ((try simp) <;> omega)) | (with_reducible refine Below.setCell ?_ ?_ _; rotate_left; focus ((try simp) <;> omega)) | (with_reducible refine below_grow ?_ ?_; rotate_left; focus ((try simp) <;> omega)) | (with_reducible refine below_putB ?_ ?_; rotate_left; focus ((try simp) <;> omega)) | with_reducible refine Below.drew ?_ | with_reducible refine below_drewN ?_ | with_reducible assumption | (with_reducible refine below_step (by assumption) ?_ ?_; rotate_left; focus ((try simp) <;> omega))))⟩
                    case measure => simp [intOf]; omega
                · generalize l.getD u e0 = x at hcc
                  obtain ⟨x0, x1, x2, x3, x4, x5, x6⟩ := x
                  have d0 := hcc 0 (by omega)
                  have d1 := hcc 1 (by omega)
                  have d2 := hcc 2 (by omega)
                  have d3 := hcc 3 (by omega)
                  have d4 := hcc 4 (by omega)
                  have d5 := hcc 5 (by omega)
                  have d6 := hcc 6 (by omega)
                  have f0 := hcd 0 (by omega)
                  have f1 := hcd 1 (by omega)
                  have f2 := hcd 2 (by omega)
                  have f3 := hcd 3 (by omega)
                  have f4 := hcd 4 (by omega)
                  have f5 := hcd 5 (by omega)
                  have f6 := hcd 6 (by omega)
                  simp only [entC, List.getElem?_cons_zero, List.getElem?_cons_succ, Nat.add_zero] at d0 d1 d2 d3 d4 d5 d6 f0 f1 f2 f3 f4 f5 f6
                  clear hcc hcd
                  have HUJ := Lib.hid huj
                  have hfu' := HFU.out
                  clear hfu
                  clear huj
                  cases f
                  · go_wp2_with fail
                    refine wp_region_quiet_below (by kernel_rfl) (by kernel_rfl) ?_
                    repeat (first | go_big_quiet_step (((fail))) | quiet_step (((fail))))
                    refine wpQuiet_nil ?_
                    intro _ hw'
                    obtain ⟨⟨dq, osq⟩, hw''⟩ := hw'
                    subst hw''
                    go_wp2_with fail
                    go_roundw
                    case rel => exact ⟨u + 1, _, by omega, by go_num, rfl, fun h => absurd (hfu' (by have := HUJ.out; omega)) (by decide), (by repeat (first | with_reducible exact Below.refl _ _ | (with_reducible refine Below.alloc ?_ ?_ _; rotate_left; focus ((try simp) <;> omega)) | (with_reducible refine Below.setCell ?_ ?_ _; rotate_left; focus ((try simp) <;> omega)) | (with_reducible refine below_grow ?_ ?_; rotate_left; focus ((try simp) <;> omega)) | (with_reducible refine below_putB ?_ ?_; rotate_left; focus ((try simp) <;> omega)) | with_reducible refine Below.drew ?_ | with_reducible refine below_drewN ?_ | with_reducible assumption | (with_reducible refine below_step (by assumption) ?_ ?_; rotate_left; focus ((try simp) <;> omega))))⟩
                    case measure => simp [intOf]; omega
                  · go_wp2_with fail
                    refine wp_region_quiet_below (by kernel_rfl) (by kernel_rfl) ?_
                    repeat (first | go_big_quiet_step (((fail))) | quiet_step (((fail))))
                    refine wpQuiet_nil ?_
                    intro _ hw'
                    obtain ⟨⟨dq, osq⟩, hw''⟩ := hw'
                    subst hw''
                    go_wp2_with fail
                    go_roundw
                    case rel => exact ⟨u + 1, true, by omega, by go_num, rfl, fun _ => rfl, (by repeat (first | with_reducible exact Below.refl _ _ | (with_reducible refine Below.alloc ?_ ?_ _; rotate_left; focus ((try simp) <;> omega)) | (with_reducible refine Below.setCell ?_ ?_ _; rotate_left; focus ((try simp) <;> omega)) | (with_reducible refine below_grow ?_ ?_; rotate_left; focus ((try simp) <;> omega)) | (with_reducible refine below_putB ?_ ?_; rotate_left; focus ((try simp) <;> omega)) | with_reducible refine Below.drew ?_ | with_reducible refine below_drewN ?_ | with_reducible assumption | (with_reducible refine below_step (by assumption) ?_ ?_; rotate_left; focus ((try simp) <;> omega))))⟩
                    case measure => simp [intOf]; omega
              · obtain rfl : u = i := by omega
                have hft := hfu hj0
                subst hft
                have iB : (z : Int) + 1 ≤ 20000001 := by omega
                go_wp2_with fail
                go_roundw
                case rel =>
                  refine ⟨k + 1, by omega, by go_num, ?_, (by repeat (first | with_reducible exact Below.refl _ _ | (with_reducible refine Below.alloc ?_ ?_ _; rotate_left; focus ((try simp) <;> omega)) | (with_reducible refine Below.setCell ?_ ?_ _; rotate_left; focus ((try simp) <;> omega)) | (with_reducible refine below_grow ?_ ?_; rotate_left; focus ((try simp) <;> omega)) | (with_reducible refine below_putB ?_ ?_; rotate_left; focus ((try simp) <;> omega)) | with_reducible refine Below.drew ?_ | with_reducible refine below_drewN ?_ | with_reducible assumption | (with_reducible refine below_step (by assumption) ?_ ?_; rotate_left; focus ((try simp) <;> omega))))⟩
                  rw [HNX.out, List.length_append, ← HZ.out]
                  rfl
                case measure => simp [intOf]; omega
          · have hd : decide (s ∈ seqs l) = false := decide_eq_false hin
            rw [hd]
            have hno := HSN.out
            rw [findE_no.2 hin, Option.toList_none, List.append_nil] at hno
            have HNO := Lib.hid hno
            clear hd hin hno
            go_wp2_with fail
            go_roundw
            case rel => exact ⟨k + 1, by omega, by go_num, by rw [HNO.out, ← HZ.out], hbi⟩
            case measure => simp [intOf]; omega
    · obtain rfl : k = N := by omega
      have ht : E.take k = E := List.take_of_length_le (by rw [← HN.out]; exact Nat.le_refl _)
      rw [ht, ← HR.out]
      clear ht
      go_wp2_with fail
      refine ret_any ⟨_, by simp [results, Try.results15, go_sem, *]; rfl, ?_⟩ rfl
      exact gives_of rfl (B3.trans (hbel.mono B3s))
end Go.Proofs.Ytoefekojjagjdaa
