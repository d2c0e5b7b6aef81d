/-
  Leaks, of the program and of the reference, by contract; the reference's Holds. No condition but that slots and handles are not too many.
-/
import Derived.Test.YtjlclpdjblicjaaAuditHolds
namespace Go.Proofs.Ytjlclpdjblicjaa
open Go.RowKit Go.Sort Go.BigFrame
set_option linter.unusedVariables false
attribute [local go_sem ↓] Go.wp_at_zero Go.wp_at_succ
/-- The first k slots that have references which nobody holds. -/
def leaksL (S L : List (Int × Int)) (n k : Nat) : List Int := ((List.range k).filter fun i => decide ((cntL S L n L.length).getD i 0 < (S.getD i (0, 0)).2)).map fun i : Nat => (i : Int)
theorem leaksL_succ (S L : List (Int × Int)) (n k : Nat) : leaksL S L n (k + 1) = leaksL S L n k ++ (if (cntL S L n L.length).getD k 0 < (S.getD k (0, 0)).2 then [(k : Int)] else []) := by
  unfold leaksL
  rw [List.range_succ, List.filter_append, List.map_append]
  congr 1
  by_cases h : (cntL S L n L.length).getD k 0 < (S.getD k (0, 0)).2
  · rw [if_pos h]; simp only [List.filter_cons, decide_eq_true h]; rfl
  · rw [if_neg h]; simp only [List.filter_cons, decide_eq_false h]; rfl
theorem leaksL_len (S L : List (Int × Int)) (n k : Nat) : (leaksL S L n k).length ≤ k := by
  unfold leaksL
  rw [List.length_map]
  have := List.length_filter_le (fun i => decide ((cntL S L n L.length).getD i 0 < (S.getD i (0, 0)).2)) (List.range k)
  rwa [List.length_range] at this
theorem ints_app (a b : List Int) : ints (a ++ b) = ints a ++ ints b := by simp [ints]
theorem one_at {w : World} {b : Nat} {v : Value} (h : w.cell? ⟨b, 0, none⟩ = some v) : ∀ j u, [v][j]? = some u → w.cell? ⟨b, j, none⟩ = some u := by
  intro j u hu
  match j, hu with
  | 0, hu => simp at hu; subst hu; exact h
theorem ints_one (l : List Int) : ∀ u ∈ ints l, u.oneCell' = true := by
  intro u hu
  simp only [ints, List.mem_map] at hu
  obtain ⟨x, _, rfl⟩ := hu
  rfl
set_option maxRecDepth 100000 in
set_option maxHeartbeats 4000000 in
theorem leaksS {sv rv wv hv : Value} {n nr nw nh : Nat} {S R Wr H : List (Int × Int)} {w : World} (h : SnapW w sv rv wv hv n nr nw nh S R Wr H) :
    Calls Try.prog 42 #[snapV sv rv wv hv] w fun e w' => ∃ v, e = .returned v ∧ Line w' w.heap.size 1 v (leaksL S (R ++ Wr ++ H) n n).length (ints (leaksL S (R ++ Wr ++ H) n n)) ∧ Below w.heap.size w w' := by
  have kc := fun (w' : World) (k : Below w.heap.size w w') => countedS (h.keep k)
  have hbs := h.bs
  have hL : (R ++ Wr ++ H).length = nr + nw + nh := by rw [List.length_append, List.length_append, h.lr, h.lw, h.lh]
  obtain ⟨L, hLL⟩ : ∃ L, L = R ++ Wr ++ H := ⟨_, rfl⟩
  unfold snapV at kc ⊢
  rw [← hLL] at hL kc ⊢
  rw [← hL] at kc
  have KC := Lib.hid kc
  have HSN := Lib.hid h
  obtain ⟨sa, sc, rfl, _, hsc⟩ := h.s.shape
  obtain ⟨ra, rc, rfl, _, _⟩ := h.r.shape
  obtain ⟨wa, wc, rfl, _, _⟩ := h.p.shape
  obtain ⟨ha, hc, rfl, _, _⟩ := h.h.shape
  unfold maxLen at hsc
  clear kc h hLL hL
  obtain ⟨i0, hi, hz0, hz1, hz2⟩ := info_parts info3
  have HI := And.intro (Lib.hid hi) (And.intro (Lib.hid hz0) (And.intro (Lib.hid hz1) (Lib.hid hz2)))
  clear hi hz0 hz1 hz2
  go_enter Try.func42, Try.ntmps42
  go_wp2_with fail
  refine (KC.out _ (by repeat (first | with_reducible exact Below.refl _ _ | (with_reducible refine Below.alloc ?_ ?_ _; rotate_left; focus ((try simp) <;> omega)) | (with_reducible refine Below.setCell ?_ ?_ _; rotate_left; focus ((try simp) <;> omega)) | (with_reducible refine below_grow ?_ ?_; rotate_left; focus ((try simp) <;> omega)) | (with_reducible refine below_putB ?_ ?_; rotate_left; focus ((try simp) <;> omega)) | with_reducible refine Below.drew ?_ | with_reducible refine below_drewN ?_ | with_reducible assumption | (with_reducible refine below_step (by assumption) ?_ ?_; rotate_left; focus ((try simp) <;> omega))))).mono ?_; rintro e w5 ⟨v5, rfl, hL5, hb5⟩; have ha5 : After _ w5 := ⟨hb5⟩
  have hb5s := hb5.size
  have B5 : RowKit.Below w.heap.size w w5 := (by repeat (first | with_reducible exact Below.refl _ _ | (with_reducible refine Below.alloc ?_ ?_ _; rotate_left; focus ((try simp) <;> omega)) | (with_reducible refine Below.setCell ?_ ?_ _; rotate_left; focus ((try simp) <;> omega)) | (with_reducible refine below_grow ?_ ?_; rotate_left; focus ((try simp) <;> omega)) | (with_reducible refine below_putB ?_ ?_; rotate_left; focus ((try simp) <;> omega)) | with_reducible refine Below.drew ?_ | with_reducible refine below_drewN ?_ | with_reducible assumption | (with_reducible refine below_step (by assumption) ?_ ?_; rotate_left; focus ((try simp) <;> omega))))
  have bx5 : BlkIs w5 w.heap.size #[.slice sa n sc, .slice ra nr rc, .slice wa nw wc, .slice ha nh hc] 71 := inferInstance
  have HV5 := Lib.hid (Has.of_line hL5)
  obtain ⟨a5, c5, rfl, _, _⟩ := hL5.shape
  simp at hb5s
  clear hL5 ha5 hb5
  go_wp2_with fail
  go_loopw [3, 9] (fun s3 s9 wr => ∃ j : Nat, j ≤ n ∧ s9 = .int .i64 j ∧ Line wr w5.heap.size 1 s3 (leaksL S L n j).length (ints (leaksL S L n j)) ∧ Below w5.heap.size w5 wr) (fun _ i _ => n - (intOf i).toNat)
  case atStart => exact ⟨0, by omega, rfl, by simpa [leaksL, ints] using Line.nil w5 w5.heap.size 1, Below.refl _ _⟩
  case round =>
    obtain ⟨j, hj, rfl, hO, hbel⟩ := hrel
    have hbls := hbel.size
    have bx : BlkIs wr w.heap.size #[.slice sa n sc, .slice ra nr rc, .slice wa nw wc, .slice ha nh hc] 71 := ⟨by rw [hbel.block _ bx5.lt]; exact bx5.eq⟩
    have HO := Lib.hid hO
    have Bw : RowKit.Below w.heap.size w wr := B5.trans (hbel.mono (by omega))
    clear hO
    by_cases hlj : j < n
    · obtain ⟨g, off, c, ev, hg, _, p0⟩ := int_cells (HV5.out.keep hbel) (cntL_len _ _ _ _) j hlj
      simp only [Value.slice.injEq, true_and] at ev
      obtain ⟨rfl, rfl⟩ := ev
      obtain ⟨g', off', c', ev, hg', _, q0, q1⟩ := sl_cells (HSN.out.keep Bw).s HSN.out.ls j hlj
      simp only [Value.slice.injEq, true_and] at ev
      obtain ⟨rfl, rfl⟩ := ev
      have og : Old g wr := ⟨hg⟩
      have og' : Old g' wr := ⟨hg'⟩
      have hcs := leaksL_succ S L n j
      have hll := leaksL_len S L n j
      generalize (cntL S L n L.length).getD j 0 = x at p0 hcs
      generalize (S.getD j (0, 0)).2 = y at q1 hcs
      have HCS := Lib.hid hcs
      obtain ⟨O, hOO⟩ : ∃ O, O = leaksL S L n j := ⟨_, rfl⟩
      rw [← hOO] at hll HO
      have HOO := Lib.hid hOO
      have i3 : (j : Int) < (n : Int) := by omega
      have i4 : (0 : Int) ≤ (j : Int) := by omega
      clear q0 hcs hOO
      by_cases hxy : x < y
      · have HXY := Lib.hid hxy
        go_wp2_with (at_builtin; refine wpList_append_line _ (by rfl) _ _ 75 (by rfl) w5.heap.size 3 i0 _ 1 8 Try.underlying75 HI.1.out HI.2.1.out HI.2.2.1.out HI.2.2.2.out rfl (by decide) _ _ O.length 1 (ints O) [.int .i64 j] (by rfl) (by rfl) (HO.out.keep (by repeat (first | with_reducible exact Below.refl _ _ | (with_reducible refine Below.alloc ?_ ?_ _; rotate_left; focus ((try simp) <;> omega)) | (with_reducible refine Below.setCell ?_ ?_ _; rotate_left; focus ((try simp) <;> omega)) | (with_reducible refine below_grow ?_ ?_; rotate_left; focus ((try simp) <;> omega)) | (with_reducible refine below_putB ?_ ?_; rotate_left; focus ((try simp) <;> omega)) | with_reducible refine Below.drew ?_ | with_reducible refine below_drewN ?_ | with_reducible assumption | (with_reducible refine below_step (by assumption) ?_ ?_; rotate_left; focus ((try simp) <;> omega))))) (Src.one rfl (by simp [Value.oneCell']) (one_at (by simp [go_sem]))) (by unfold maxLen; omega) (by omega) (by first | omega | (simp; omega)) _ rfl ?_; intro v6 w6 hown6 hgrow6 hat6)
        have hB6 : RowKit.Below w5.heap.size w5 w6 := RowKit.Below.grown (w := _) (by repeat (first | with_reducible exact Below.refl _ _ | (with_reducible refine Below.alloc ?_ ?_ _; rotate_left; focus ((try simp) <;> omega)) | (with_reducible refine Below.setCell ?_ ?_ _; rotate_left; focus ((try simp) <;> omega)) | (with_reducible refine below_grow ?_ ?_; rotate_left; focus ((try simp) <;> omega)) | (with_reducible refine below_putB ?_ ?_; rotate_left; focus ((try simp) <;> omega)) | with_reducible refine Below.drew ?_ | with_reducible refine below_drewN ?_ | with_reducible assumption | (with_reducible refine below_step (by assumption) ?_ ?_; rotate_left; focus ((try simp) <;> omega)))) hgrow6 (by simp; omega) (fun q hq => (HO.out.lt hq).1)
        have HO6 := Lib.hid hown6
        clear hown6 hgrow6 hat6
        go_roundw
        case rel =>
          refine ⟨j + 1, by omega, by go_num, ?_, hB6⟩
          rw [HCS.out, if_pos HXY.out, ← HOO.out, List.length_append, ints_app]
          exact HO6.out
        case measure => simp [intOf]; omega
      · have HXY := Lib.hid hxy
        go_wp2_with fail
        go_roundw
        case rel =>
          refine ⟨j + 1, by omega, by go_num, ?_, hbel⟩
          rw [HCS.out, if_neg HXY.out, List.append_nil, ← HOO.out]
          exact HO.out
        case measure => simp [intOf]; omega
    · obtain rfl : j = n := by omega
      go_wp2_with fail
      refine ret_any ⟨_, by simp [results, Try.results42, go_sem, *]; rfl, ?_⟩ rfl
      exact ⟨_, rfl, HO.out.weak (by omega), Bw⟩
set_option maxRecDepth 100000 in
set_option maxHeartbeats 4000000 in
theorem refLeaksS {sv rv wv hv : Value} {n nr nw nh : Nat} {S R Wr H : List (Int × Int)} {w : World} (h : SnapW w sv rv wv hv n nr nw nh S R Wr H) :
    Calls Try.prog 43 #[snapV sv rv wv hv] w fun e w' => ∃ v, e = .returned v ∧ Line w' w.heap.size 1 v (leaksL S (R ++ Wr ++ H) n n).length (ints (leaksL S (R ++ Wr ++ H) n n)) ∧ Below w.heap.size w w' := by
  have kc := fun (w' : World) (k : Below w.heap.size w w') => refCountedS (h.keep k)
  have hbs := h.bs
  have hL : (R ++ Wr ++ H).length = nr + nw + nh := by rw [List.length_append, List.length_append, h.lr, h.lw, h.lh]
  obtain ⟨L, hLL⟩ : ∃ L, L = R ++ Wr ++ H := ⟨_, rfl⟩
  unfold snapV at kc ⊢
  rw [← hLL] at hL kc ⊢
  rw [← hL] at kc
  have KC := Lib.hid kc
  have HSN := Lib.hid h
  obtain ⟨sa, sc, rfl, _, hsc⟩ := h.s.shape
  obtain ⟨ra, rc, rfl, _, _⟩ := h.r.shape
  obtain ⟨wa, wc, rfl, _, _⟩ := h.p.shape
  obtain ⟨ha, hc, rfl, _, _⟩ := h.h.shape
  unfold maxLen at hsc
  clear kc h hLL hL
  obtain ⟨i0, hi, hz0, hz1, hz2⟩ := info_parts info3
  have HI := And.intro (Lib.hid hi) (And.intro (Lib.hid hz0) (And.intro (Lib.hid hz1) (Lib.hid hz2)))
  clear hi hz0 hz1 hz2
  go_enter Try.func43, Try.ntmps43
  go_wp2_with fail
  refine (KC.out _ (by repeat (first | with_reducible exact Below.refl _ _ | (with_reducible refine Below.alloc ?_ ?_ _; rotate_left; focus ((try simp) <;> omega)) | (with_reducible refine Below.setCell ?_ ?_ _; rotate_left; focus ((try simp) <;> omega)) | (with_reducible refine below_grow ?_ ?_; rotate_left; focus ((try simp) <;> omega)) | (with_reducible refine below_putB ?_ ?_; rotate_left; focus ((try simp) <;> omega)) | with_reducible refine Below.drew ?_ | with_reducible refine below_drewN ?_ | with_reducible assumption | (with_reducible refine below_step (by assumption) ?_ ?_; rotate_left; focus ((try simp) <;> omega))))).mono ?_; rintro e w5 ⟨v5, rfl, hL5, hb5⟩; have ha5 : After _ w5 := ⟨hb5⟩
  have hb5s := hb5.size
  have B5 : RowKit.Below w.heap.size w w5 := (by repeat (first | with_reducible exact Below.refl _ _ | (with_reducible refine Below.alloc ?_ ?_ _; rotate_left; focus ((try simp) <;> omega)) | (with_reducible refine Below.setCell ?_ ?_ _; rotate_left; focus ((try simp) <;> omega)) | (with_reducible refine below_grow ?_ ?_; rotate_left; focus ((try simp) <;> omega)) | (with_reducible refine below_putB ?_ ?_; rotate_left; focus ((try simp) <;> omega)) | with_reducible refine Below.drew ?_ | with_reducible refine below_drewN ?_ | with_reducible assumption | (with_reducible refine below_step (by assumption) ?_ ?_; rotate_left; focus ((try simp) <;> omega))))
  have bx5 : BlkIs w5 w.heap.size #[.slice sa n sc, .slice ra nr rc, .slice wa nw wc, .slice ha nh hc] 71 := inferInstance
  have HV5 := Lib.hid (Has.of_line hL5)
  obtain ⟨a5, c5, rfl, _, _⟩ := hL5.shape
  simp at hb5s
  clear hL5 ha5 hb5
  go_wp2_with fail
  go_loopw [3, 9] (fun s3 s9 wr => ∃ j : Nat, j ≤ n ∧ s9 = .int .i64 j ∧ Line wr w5.heap.size 1 s3 (leaksL S L n j).length (ints (leaksL S L n j)) ∧ Below w5.heap.size w5 wr) (fun _ i _ => n - (intOf i).toNat)
  case atStart => exact ⟨0, by omega, rfl, by simpa [leaksL, ints] using Line.nil w5 w5.heap.size 1, Below.refl _ _⟩
  case round =>
    obtain ⟨j, hj, rfl, hO, hbel⟩ := hrel
    have hbls := hbel.size
    have bx : BlkIs wr w.heap.size #[.slice sa n sc, .slice ra nr rc, .slice wa nw wc, .slice ha nh hc] 71 := ⟨by rw [hbel.block _ bx5.lt]; exact bx5.eq⟩
    have HO := Lib.hid hO
    have Bw : RowKit.Below w.heap.size w wr := B5.trans (hbel.mono (by omega))
    clear hO
    by_cases hlj : j < n
    · obtain ⟨g, off, c, ev, hg, _, p0⟩ := int_cells (HV5.out.keep hbel) (cntL_len _ _ _ _) j hlj
      simp only [Value.slice.injEq, true_and] at ev
      obtain ⟨rfl, rfl⟩ := ev
      obtain ⟨g', off', c', ev, hg', _, q0, q1⟩ := sl_cells (HSN.out.keep Bw).s HSN.out.ls j hlj
      simp only [Value.slice.injEq, true_and] at ev
      obtain ⟨rfl, rfl⟩ := ev
      have og : Old g wr := ⟨hg⟩
      have og' : Old g' wr := ⟨hg'⟩
      have hcs := leaksL_succ S L n j
      have hll := leaksL_len S L n j
      generalize (cntL S L n L.length).getD j 0 = x at p0 hcs
      generalize (S.getD j (0, 0)).2 = y at q1 hcs
      have HCS := Lib.hid hcs
      obtain ⟨O, hOO⟩ : ∃ O, O = leaksL S L n j := ⟨_, rfl⟩
      rw [← hOO] at hll HO
      have HOO := Lib.hid hOO
      have i3 : (j : Int) < (n : Int) := by omega
      have i4 : (0 : Int) ≤ (j : Int) := by omega
      clear q0 hcs hOO
      by_cases hxy : x < y
      · have HXY := Lib.hid hxy
        go_wp2_with (at_builtin; refine wpList_append_line _ (by rfl) _ _ 75 (by rfl) w5.heap.size 3 i0 _ 1 8 Try.underlying75 HI.1.out HI.2.1.out HI.2.2.1.out HI.2.2.2.out rfl (by decide) _ _ O.length 1 (ints O) [.int .i64 j] (by rfl) (by rfl) (HO.out.keep (by repeat (first | with_reducible exact Below.refl _ _ | (with_reducible refine Below.alloc ?_ ?_ _; rotate_left; focus ((try simp) <;> omega)) | (with_reducible refine Below.setCell ?_ ?_ _; rotate_left; focus ((try simp) <;> omega)) | (with_reducible refine below_grow ?_ ?_; rotate_left; focus ((try simp) <;> omega)) | (with_reducible refine below_putB ?_ ?_; rotate_left; focus ((try simp) <;> omega)) | with_reducible refine Below.drew ?_ | with_reducible refine below_drewN ?_ | with_reducible assumption | (with_reducible refine below_step (by assumption) ?_ ?_; rotate_left; focus ((try simp) <;> omega))))) (Src.one rfl (by simp [Value.oneCell']) (one_at (by simp [go_sem]))) (by unfold maxLen; omega) (by omega) (by first | omega | (simp; omega)) _ rfl ?_; intro v6 w6 hown6 hgrow6 hat6)
        have hB6 : RowKit.Below w5.heap.size w5 w6 := RowKit.Below.grown (w := _) (by repeat (first | with_reducible exact Below.refl _ _ | (with_reducible refine Below.alloc ?_ ?_ _; rotate_left; focus ((try simp) <;> omega)) | (with_reducible refine Below.setCell ?_ ?_ _; rotate_left; focus ((try simp) <;> omega)) | (with_reducible refine below_grow ?_ ?_; rotate_left; focus ((try simp) <;> omega)) | (with_reducible refine below_putB ?_ ?_; rotate_left; focus ((try simp) <;> omega)) | with_reducible refine Below.drew ?_ | with_reducible refine below_drewN ?_ | with_reducible assumption | (with_reducible refine below_step (by assumption) ?_ ?_; rotate_left; focus ((try simp) <;> omega)))) hgrow6 (by simp; omega) (fun q hq => (HO.out.lt hq).1)
        have HO6 := Lib.hid hown6
        clear hown6 hgrow6 hat6
        go_roundw
        case rel =>
          refine ⟨j + 1, by omega, by go_num, ?_, hB6⟩
          rw [HCS.out, if_pos HXY.out, ← HOO.out, List.length_append, ints_app]
          exact HO6.out
        case measure => simp [intOf]; omega
      · have HXY := Lib.hid hxy
        go_wp2_with fail
        go_roundw
        case rel =>
          refine ⟨j + 1, by omega, by go_num, ?_, hbel⟩
          rw [HCS.out, if_neg HXY.out, List.append_nil, ← HOO.out]
          exact HO.out
        case measure => simp [intOf]; omega
    · obtain rfl : j = n := by omega
      go_wp2_with fail
      refine ret_any ⟨_, by simp [results, Try.results43, go_sem, *]; rfl, ?_⟩ rfl
      exact ⟨_, rfl, HO.out.weak (by omega), Bw⟩
end Go.Proofs.Ytjlclpdjblicjaa
