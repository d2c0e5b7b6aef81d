/-
  SameEntries on the same entries, and the reference's Find, by their contracts. No condition but that the entries are not too many.
-/
import Derived.Test.YtjlclpdjblicjaaEnts
namespace Go.Proofs.Ytjlclpdjblicjaa
open Go.RowKit Go.Sort Go.BigFrame
set_option linter.unusedVariables false
attribute [local go_sem ↓] Go.wp_at_zero Go.wp_at_succ
set_option maxRecDepth 100000 in
set_option maxHeartbeats 4000000 in
theorem sameE {n : Nat} {va vb : Value} {l : List Ent} {w : World} (h1 : Has w 7 va n (ents l)) (h2 : Has w 7 vb n (ents l)) (hl : l.length = n) (hn : n ≤ 100000000) : Calls Try.prog 33 #[va, vb] w (Gives (.bool true) w) := by
  have O1 := Lib.hid h1
  have O2 := Lib.hid h2
  have HL := Lib.hid hl
  obtain ⟨ao, cap, ha, _⟩ := h1.shape
  obtain ⟨bo, cap', hb, _⟩ := h2.shape
  subst ha hb
  clear h1 h2 hl
  go_enter Try.func33, Try.ntmps33
  go_wp2
  go_loopw [13] (fun s wr => ∃ k : Nat, k ≤ n ∧ s = .int .i64 k ∧ Below w.heap.size w wr) (fun i _ => n - (intOf i).toNat)
  case atStart => exact ⟨0, by omega, rfl, Below.refl _ _⟩
  case round =>
    obtain ⟨k, hk, rfl, hbel⟩ := hrel
    have hbs := hbel.size
    by_cases hlt : k < n
    · obtain ⟨g, off, c, ev, hg, _, hc⟩ := ent_cells O1.out HL.out k hlt
      simp only [Value.slice.injEq, true_and] at ev
      obtain ⟨rfl, rfl⟩ := ev
      obtain ⟨g', off', c', ev', hg', _, hc'⟩ := ent_cells O2.out HL.out k hlt
      simp only [Value.slice.injEq, true_and] at ev'
      obtain ⟨rfl, rfl⟩ := ev'
      have hcc := fun j hj => (hbel.cell (p := ⟨g, off + k * 7 + j, none⟩) (by simpa using hg)).trans (hc j hj)
      have hcd := fun j hj => (hbel.cell (p := ⟨g', off' + k * 7 + j, none⟩) (by simpa using hg')).trans (hc' j hj)
      clear hc hc'
      generalize l.getD k e0 = x at hcc hcd
      obtain ⟨x0, x1, x2, x3, x4, x5, x6⟩ := x
      have d0 := hcc 0 (by omega)
      have d1 := hcc 1 (by omega)
      have d2 := hcc 2 (by omega)
      have d3 := hcc 3 (by omega)
      have d4 := hcc 4 (by omega)
      have d5 := hcc 5 (by omega)
      have d6 := hcc 6 (by omega)
      have f0 := hcd 0 (by omega)
      have f1 := hcd 1 (by omega)
      have f2 := hcd 2 (by omega)
      have f3 := hcd 3 (by omega)
      have f4 := hcd 4 (by omega)
      have f5 := hcd 5 (by omega)
      have f6 := hcd 6 (by omega)
      clear hcc hcd
      simp only [entC, List.getElem?_cons_zero, List.getElem?_cons_succ, Nat.add_zero] at d0 d1 d2 d3 d4 d5 d6 f0 f1 f2 f3 f4 f5 f6
      have og : Old g wr := ⟨by omega⟩
      have og' : Old g' wr := ⟨by omega⟩
      have i3 : (k : Int) < (n : Int) := by omega
      have i4 : (0 : Int) ≤ (k : Int) := by omega
      go_wp2_with fail
      refine wp_region_quiet_below (by kernel_rfl) (by kernel_rfl) ?_
      repeat (first | go_big_quiet_step (((fail))) | quiet_step (((fail))))
      refine wpQuiet_nil ?_
      intro _ hw'
      obtain ⟨⟨dq, osq⟩, hw''⟩ := hw'
      subst hw''
      go_wp2_with fail
      go_roundw
      case rel => exact ⟨k + 1, by omega, by go_num, (by repeat (first | with_reducible exact Below.refl _ _ | (with_reducible refine Below.alloc ?_ ?_ _; rotate_left; focus ((try simp) <;> omega)) | (with_reducible refine Below.setCell ?_ ?_ _; rotate_left; focus ((try simp) <;> omega)) | (with_reducible refine below_grow ?_ ?_; rotate_left; focus ((try simp) <;> omega)) | (with_reducible refine below_putB ?_ ?_; rotate_left; focus ((try simp) <;> omega)) | with_reducible refine Below.drew ?_ | with_reducible refine below_drewN ?_ | with_reducible assumption | (with_reducible refine below_step (by assumption) ?_ ?_; rotate_left; focus ((try simp) <;> omega))))⟩
      case measure => simp [intOf]; omega
    · go_wp2
      refine ret_any ⟨_, by simp [results, Try.results33, go_sem, *]; rfl, ?_⟩ rfl
      exact gives_of rfl hbel
end Go.Proofs.Ytjlclpdjblicjaa
