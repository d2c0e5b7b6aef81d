/-
  The reference's Holds, by its contract, and same of two rows that are alike. No condition but that slots and handles are not too many.
-/
import Derived.Test.YtjlclpdjblicjaaAuditLeaks
namespace Go.Proofs.Ytjlclpdjblicjaa
open Go.RowKit Go.Sort Go.BigFrame
set_option linter.unusedVariables false
attribute [local go_sem ↓] Go.wp_at_zero Go.wp_at_succ
/-- How many handles are of one of the first k slots. -/
def heldN (S L : List (Int × Int)) (k : Nat) : Nat := L.countP fun h => ofB S h && decide (h.1 < (k : Int))
theorem ofB_nonneg {S : List (Int × Int)} {h : Int × Int} (e : ofB S h = true) : 0 ≤ h.1 ∧ h.1 < S.length := by
  unfold ofB at e
  simp only [Bool.and_eq_true, decide_eq_true_eq] at e
  exact ⟨e.1, e.2.1⟩
theorem heldN_zero (S L : List (Int × Int)) : heldN S L 0 = 0 := by
  unfold heldN
  rw [List.countP_eq_zero]
  intro h _ e
  simp only [Bool.and_eq_true, decide_eq_true_eq] at e
  have := (ofB_nonneg e.1).1
  omega
theorem heldN_succ (S L : List (Int × Int)) (k : Nat) : heldN S L (k + 1) = heldN S L k + L.countP (fun h => ofB S h && (h.1 == (k : Int))) := by
  unfold heldN
  induction L with
  | nil => rfl
  | cons x r ih =>
    rw [List.countP_cons, List.countP_cons, List.countP_cons, ih]
    cases hx : ofB S x
    · simp
    · have h0 := (ofB_nonneg hx).1
      simp only [Bool.true_and]
      rcases (show x.1 < (k : Int) ∨ x.1 = k ∨ (k : Int) < x.1 by omega) with h | h | h
      · have e1 : decide (x.1 < ((k + 1 : Nat) : Int)) = true := by simp; omega
        have e2 : decide (x.1 < (k : Int)) = true := by simp; omega
        have e3 : (x.1 == (k : Int)) = false := by rw [beq_eq_false_iff_ne]; omega
        rw [e1, e2, e3]; simp; omega
      · have e1 : decide (x.1 < ((k + 1 : Nat) : Int)) = true := by simp; omega
        have e2 : decide (x.1 < (k : Int)) = false := by simp; omega
        have e3 : (x.1 == (k : Int)) = true := by rw [beq_iff_eq]; omega
        rw [e1, e2, e3]; simp; omega
      · have e1 : decide (x.1 < ((k + 1 : Nat) : Int)) = false := by simp; omega
        have e2 : decide (x.1 < (k : Int)) = false := by simp; omega
        have e3 : (x.1 == (k : Int)) = false := by rw [beq_eq_false_iff_ne]; omega
        rw [e1, e2, e3]; simp
theorem heldN_le (S L : List (Int × Int)) (k : Nat) : heldN S L k ≤ L.length := List.countP_le_length
theorem heldN_all (S L : List (Int × Int)) (n : Nat) (hn : S.length = n) : ((heldN S L n : Nat) : Int) = (L.length : Int) ↔ L.all (ofB S) = true := by
  have e : heldN S L n = L.countP (ofB S) := by
    unfold heldN
    apply List.countP_congr
    intro h _
    cases hx : ofB S h
    · simp
    · have := (ofB_nonneg hx).2
      rw [hn] at this
      simp; omega
  rw [e, List.all_eq_true]
  constructor
  · intro h
    exact List.countP_eq_length.1 (by omega)
  · intro h
    rw [List.countP_eq_length.2 h]
theorem heldN_cnt (S L : List (Int × Int)) (n k : Nat) (hk : k < n) : (cntL S L n L.length).getD k 0 = ((heldN S L (k + 1) : Nat) : Int) - (heldN S L k : Nat) := by
  rw [cntL_getD _ _ _ _ _ hk, List.take_length, heldN_succ]; omega
set_option maxRecDepth 100000 in
set_option maxHeartbeats 4000000 in
theorem refHoldsS {sv rv wv hv : Value} {n nr nw nh : Nat} {S R Wr H : List (Int × Int)} {w : World} (h : SnapW w sv rv wv hv n nr nw nh S R Wr H) :
    Calls Try.prog 41 #[snapV sv rv wv hv] w (Gives (.bool (holdsB S (R ++ Wr ++ H) n)) w) := by
  have kc := fun (w' : World) (k : Below w.heap.size w w') => refCountedS (h.keep k)
  have hbs := h.bs
  have hbr := h.br
  have hbw := h.bw
  have hbh := h.bh
  have hL : (R ++ Wr ++ H).length = nr + nw + nh := by rw [List.length_append, List.length_append, h.lr, h.lw, h.lh]
  obtain ⟨L, hLL⟩ : ∃ L, L = R ++ Wr ++ H := ⟨_, rfl⟩
  unfold snapV at kc ⊢
  rw [← hLL] at hL kc ⊢
  rw [← hL] at kc
  have KC := Lib.hid kc
  have HL := Lib.hid hL
  have HSN := Lib.hid h
  obtain ⟨sa, sc, rfl, _, hsc⟩ := h.s.shape
  obtain ⟨ra, rc, rfl, _, _⟩ := h.r.shape
  obtain ⟨wa, wc, rfl, _, _⟩ := h.p.shape
  obtain ⟨ha, hc, rfl, _, _⟩ := h.h.shape
  unfold maxLen at hsc
  clear kc h hLL hL
  go_enter Try.func41, Try.ntmps41
  go_wp2_with fail
  refine (KC.out _ (by repeat (first | with_reducible exact Below.refl _ _ | (with_reducible refine Below.alloc ?_ ?_ _; rotate_left; focus ((try simp) <;> omega)) | (with_reducible refine Below.setCell ?_ ?_ _; rotate_left; focus ((try simp) <;> omega)) | (with_reducible refine below_grow ?_ ?_; rotate_left; focus ((try simp) <;> omega)) | (with_reducible refine below_putB ?_ ?_; rotate_left; focus ((try simp) <;> omega)) | with_reducible refine Below.drew ?_ | with_reducible refine below_drewN ?_ | with_reducible assumption | (with_reducible refine below_step (by assumption) ?_ ?_; rotate_left; focus ((try simp) <;> omega))))).mono ?_; rintro e w5 ⟨v5, rfl, hL5, hb5⟩; have ha5 : After _ w5 := ⟨hb5⟩
  have B5 : RowKit.Below w.heap.size w w5 := (by repeat (first | with_reducible exact Below.refl _ _ | (with_reducible refine Below.alloc ?_ ?_ _; rotate_left; focus ((try simp) <;> omega)) | (with_reducible refine Below.setCell ?_ ?_ _; rotate_left; focus ((try simp) <;> omega)) | (with_reducible refine below_grow ?_ ?_; rotate_left; focus ((try simp) <;> omega)) | (with_reducible refine below_putB ?_ ?_; rotate_left; focus ((try simp) <;> omega)) | with_reducible refine Below.drew ?_ | with_reducible refine below_drewN ?_ | with_reducible assumption | (with_reducible refine below_step (by assumption) ?_ ?_; rotate_left; focus ((try simp) <;> omega))))
  have bx5 : BlkIs w5 w.heap.size #[.slice sa n sc, .slice ra nr rc, .slice wa nw wc, .slice ha nh hc] 71 := inferInstance
  have HV5 := Lib.hid (Has.of_line hL5)
  obtain ⟨a5, c5, rfl, _, _⟩ := hL5.shape
  clear hL5 ha5 hb5
  go_wp2_with fail
  go_loopw [3, 9] (fun s3 s9 wr => ∃ j : Nat, j ≤ n ∧ s9 = .int .i64 j ∧ s3 = .int .i64 (heldN S L j : Nat) ∧ cntB S L n j = true ∧ wr = w5) (fun _ i _ => n - (intOf i).toNat)
  case atStart => exact ⟨0, by omega, rfl, by rw [heldN_zero]; rfl, by simp [cntB], rfl⟩
  case round =>
    obtain ⟨j, hj, rfl, rfl, hcb, rfl⟩ := hrel
    have HCB := Lib.hid hcb
    have hlen := HL.out
    have hle := heldN_le S L j
    rw [hlen] at hle
    clear hcb hlen
    by_cases hlj : j < n
    · obtain ⟨g, off, c, ev, hg, _, p0⟩ := int_cells HV5.out (cntL_len _ _ _ _) j hlj
      simp only [Value.slice.injEq, true_and] at ev
      obtain ⟨rfl, rfl⟩ := ev
      obtain ⟨g', off', c', ev, hg', _, q0, q1⟩ := sl_cells (HSN.out.keep B5).s HSN.out.ls j hlj
      simp only [Value.slice.injEq, true_and] at ev
      obtain ⟨rfl, rfl⟩ := ev
      have og : Old g wr := ⟨hg⟩
      have og' : Old g' wr := ⟨hg'⟩
      have hcs := cntB_succ S L n j
      have hcn := cntB_no S L n j hlj
      have hhc := heldN_cnt S L n j hlj
      have hle2 := heldN_le S L (j + 1)
      rw [HL.out] at hle2
      obtain ⟨x, hx⟩ : ∃ x, x = (cntL S L n L.length).getD j 0 := ⟨_, rfl⟩
      rw [← hx] at p0 hcs hcn hhc
      generalize (S.getD j (0, 0)).2 = y at q1 hcs hcn
      obtain ⟨z, hz⟩ : ∃ z, z = heldN S L j := ⟨_, rfl⟩
      rw [← hz] at hhc hle ⊢
      obtain ⟨z', hz'⟩ : ∃ z', z' = heldN S L (j + 1) := ⟨_, rfl⟩
      rw [← hz'] at hhc hle2
      have HZ' := Lib.hid hz'
      have HCS := Lib.hid hcs
      have HCN := Lib.hid hcn
      have HHC := Lib.hid hhc
      have i3 : (j : Int) < (n : Int) := by omega
      have i4 : (0 : Int) ≤ (j : Int) := by omega
      have i5 : (z : Int) + x = (z' : Int) := by omega
      have HI5 := Lib.hid i5
      have i6 : -30000000 ≤ x := by omega
      have i7 : x ≤ 30000000 := by omega
      have i8 : (z : Int) ≤ 30000000 := by omega
      clear q0 hcs hcn hx hz hz' hhc i5
      by_cases hxy : x = y
      · subst hxy
        go_wp2_with fail
        go_roundw
        case rel => exact ⟨j + 1, by omega, by go_num, by rw [HI5.out, HZ'.out], by rw [HCS.out, HCB.out]; simp, by first | trivial | rfl⟩
        case measure => simp [intOf]; omega
      · have hb : (x == y) = false := by rw [beq_eq_false_iff_ne]; exact hxy
        have HB := Lib.hid hb
        go_wp2_with fail
        refine ret_any ⟨_, by simp [results, Try.results41, go_sem, *]; rfl, ?_⟩ rfl
        refine gives_of ?_ B5
        unfold holdsB
        rw [HCN.out HB.out]
        simp
    · obtain rfl : j = n := by omega
      have hal := heldN_all S L j HSN.out.ls
      rw [HL.out] at hal
      have HAL := Lib.hid hal
      obtain ⟨z, hz⟩ : ∃ z, z = heldN S L j := ⟨_, rfl⟩
      rw [← hz] at hle ⊢
      have HZ := Lib.hid hz
      clear hal hz
      go_wp2_with fail
      refine ret_any ⟨_, by simp [results, Try.results41, go_sem, *]; rfl, ?_⟩ rfl
      refine gives_of ?_ B5
      unfold holdsB
      rw [HCB.out, Bool.and_true]
      congr 1
      have h := HAL.out
      rw [← HZ.out] at h
      cases hx : L.all (ofB S)
      · rw [beq_eq_false_iff_ne]
        intro e
        have := h.1 (by omega)
        rw [hx] at this
        cases this
      · rw [beq_iff_eq]
        have := h.2 hx
        omega
set_option maxRecDepth 100000 in
set_option maxHeartbeats 4000000 in
theorem sameI {n : Nat} {va vb : Value} {l : List Int} {w : World} (h1 : Has w 1 va n (ints l)) (h2 : Has w 1 vb n (ints l)) (hl : l.length = n) (hn : n ≤ 100000000) : Calls Try.prog 37 #[va, vb] w (Gives (.bool true) w) := by
  have O1 := Lib.hid h1
  have O2 := Lib.hid h2
  have HL := Lib.hid hl
  obtain ⟨ao, cap, ha, _⟩ := h1.shape
  obtain ⟨bo, cap', hb, _⟩ := h2.shape
  subst ha hb
  clear h1 h2 hl
  go_enter Try.func37, Try.ntmps37
  go_wp2
  go_loopw [13] (fun s wr => ∃ k : Nat, k ≤ n ∧ s = .int .i64 k ∧ Below w.heap.size w wr) (fun i _ => n - (intOf i).toNat)
  case atStart => exact ⟨0, by omega, rfl, Below.refl _ _⟩
  case round =>
    obtain ⟨k, hk, rfl, hbel⟩ := hrel
    have hbs := hbel.size
    by_cases hlt : k < n
    · obtain ⟨g, off, c, ev, hg, _, p0⟩ := int_cells (O1.out.keep hbel) HL.out k hlt
      simp only [Value.slice.injEq, true_and] at ev
      obtain ⟨rfl, rfl⟩ := ev
      obtain ⟨g', off', c', ev', hg', _, q0⟩ := int_cells (O2.out.keep hbel) HL.out k hlt
      simp only [Value.slice.injEq, true_and] at ev'
      obtain ⟨rfl, rfl⟩ := ev'
      generalize l.getD k 0 = x at p0 q0
      have og : Old g wr := ⟨hg⟩
      have og' : Old g' wr := ⟨hg'⟩
      have i3 : (k : Int) < (n : Int) := by omega
      have i4 : (0 : Int) ≤ (k : Int) := by omega
      go_wp2_with fail
      refine wp_region_quiet_below (by kernel_rfl) (by kernel_rfl) ?_
      repeat (first | go_big_quiet_step (((fail))) | quiet_step (((fail))))
      refine wpQuiet_nil ?_
      intro _ hw'
      obtain ⟨⟨dq, osq⟩, hw''⟩ := hw'
      subst hw''
      go_wp2_with fail
      go_roundw
      case rel => exact ⟨k + 1, by omega, by go_num, (by repeat (first | with_reducible exact Below.refl _ _ | (with_reducible refine Below.alloc ?_ ?_ _; rotate_left; focus ((try simp) <;> omega)) | (with_reducible refine Below.setCell ?_ ?_ _; rotate_left; focus ((try simp) <;> omega)) | (with_reducible refine below_grow ?_ ?_; rotate_left; focus ((try simp) <;> omega)) | (with_reducible refine below_putB ?_ ?_; rotate_left; focus ((try simp) <;> omega)) | with_reducible refine Below.drew ?_ | with_reducible refine below_drewN ?_ | with_reducible assumption | (with_reducible refine below_step (by assumption) ?_ ?_; rotate_left; focus ((try simp) <;> omega))))⟩
      case measure => simp [intOf]; omega
    · go_wp2
      refine ret_any ⟨_, by simp [results, Try.results37, go_sem, *]; rfl, ?_⟩ rfl
      exact gives_of rfl hbel
end Go.Proofs.Ytjlclpdjblicjaa
