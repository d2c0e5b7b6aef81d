/-
  Numbers, by its contract. No condition but that the entries are not too many.
-/
import Derived.Test.YtoefekojjagjdaaEnts
import Derived.Test.YtoefekojjagjdaaNackJoin
namespace Go.Proofs.Ytoefekojjagjdaa
open Go.RowKit Go.Sort Go.BigFrame
set_option linter.unusedVariables false
attribute [local go_sem ↓] Go.wp_at_zero Go.wp_at_succ
def seqs (l : List Ent) : List Int := l.map (·.1)
theorem seqs_take (l : List Ent) (k : Nat) (h : k < l.length) : seqs (l.take (k + 1)) = seqs (l.take k) ++ [(l.getD k e0).1] := by
  unfold seqs
  rw [List.take_succ_eq_append_getElem h, List.map_append, List.getD_eq_getElem?_getD, List.getElem?_eq_getElem h]
  rfl
set_option maxRecDepth 100000 in
set_option maxHeartbeats 4000000 in
theorem numbersR {v : Value} {n : Nat} {l : List Ent} {w : World} (h : Has w 7 v n (ents l)) (hl : l.length = n) (hn : n ≤ 100000000) :
    Calls Try.prog 39 #[v] w fun e w' => ∃ v', e = .returned v' ∧ Line w' w.heap.size 1 v' n (nums (seqs l)) ∧ Below w.heap.size w w' := by
  have HH := Lib.hid h
  have HL := Lib.hid hl
  obtain ⟨ao, cap, rfl, hcap, hcap'⟩ := h.shape
  unfold maxLen at hcap'
  clear h hl
  obtain ⟨i0, hi, hz0, hz1, hz2⟩ := info_parts info22
  have HI := And.intro (Lib.hid hi) (And.intro (Lib.hid hz0) (And.intro (Lib.hid hz1) (Lib.hid hz2)))
  clear hi hz0 hz1 hz2
  go_enter Try.func39, Try.ntmps39
  go_wp2
  go_loopw [3, 8] (fun s3 s8 wr => ∃ k : Nat, k ≤ n ∧ s8 = .int .i64 k ∧ Line wr w.heap.size 1 s3 k (nums (seqs (l.take k))) ∧ Below w.heap.size w wr) (fun _ i _ => n - (intOf i).toNat)
  case atStart => exact ⟨0, by omega, rfl, Line.nil w w.heap.size 1, Below.refl _ _⟩
  case round =>
    obtain ⟨k, hk, rfl, hown, hbel⟩ := hrel
    have hbs := hbel.size
    by_cases hlt : k < n
    · obtain ⟨g, off, c, ev, hg, _, hc⟩ := ent_cells HH.out HL.out k hlt
      simp only [Value.slice.injEq, true_and] at ev
      obtain ⟨rfl, rfl⟩ := ev
      have hst := seqs_take l k (by rw [HL.out]; exact hlt)
      have hcc := fun j hj => (hbel.cell (p := ⟨g, off + k * 7 + j, none⟩) (by simpa using hg)).trans (hc j hj)
      clear hc
      obtain ⟨x0, x1, x2, x3, x4, x5, x6, hx⟩ : ∃ x0 x1 x2 x3 x4 x5 x6, (x0, x1, x2, x3, x4, x5, x6) = l.getD k e0 := ⟨_, _, _, _, _, _, _, rfl⟩
      rw [← hx] at hcc hst
      have d0 := hcc 0 (by omega)
      have d1 := hcc 1 (by omega)
      have d2 := hcc 2 (by omega)
      have d3 := hcc 3 (by omega)
      have d4 := hcc 4 (by omega)
      have d5 := hcc 5 (by omega)
      have d6 := hcc 6 (by omega)
      clear hcc hx
      simp only [entC, List.getElem?_cons_zero, List.getElem?_cons_succ, Nat.add_zero] at d0 d1 d2 d3 d4 d5 d6
      dsimp only at hst
      have HST := Lib.hid hst
      have HO := Lib.hid hown
      have og : Old g wr := ⟨by omega⟩
      have i3 : (k : Int) < (n : Int) := by omega
      have i4 : (0 : Int) ≤ (k : Int) := by omega
      clear hst hown
      go_wp2_with (at_builtin; refine wpList_append_line _ rfl _ _ 36 rfl w.heap.size 22 i0 _ 1 2 Try.underlying36 HI.1.out HI.2.1.out HI.2.2.1.out HI.2.2.2.out rfl (by decide) _ _ k 1 (nums (seqs (l.take k))) [.int .u16 x0] rfl rfl (HO.out.keep (by repeat (first | with_reducible exact Below.refl _ _ | (with_reducible refine Below.alloc ?_ ?_ _; rotate_left; focus ((try simp) <;> omega)) | (with_reducible refine Below.setCell ?_ ?_ _; rotate_left; focus ((try simp) <;> omega)) | (with_reducible refine below_grow ?_ ?_; rotate_left; focus ((try simp) <;> omega)) | (with_reducible refine below_putB ?_ ?_; rotate_left; focus ((try simp) <;> omega)) | with_reducible refine Below.drew ?_ | with_reducible refine below_drewN ?_ | with_reducible assumption | (with_reducible refine below_step (by assumption) ?_ ?_; rotate_left; focus ((try simp) <;> omega))))) (Src.one rfl (by simp [Value.oneCell']) (one_at (by simp [go_sem]))) (by unfold maxLen; omega) (by omega) (by first | omega | (simp; omega)) _ rfl ?_; intro v2 w2 hown2 hgrow2 hat2)
      have hB2 : RowKit.Below w.heap.size w w2 := RowKit.Below.grown (w := _) (by repeat (first | with_reducible exact Below.refl _ _ | (with_reducible refine Below.alloc ?_ ?_ _; rotate_left; focus ((try simp) <;> omega)) | (with_reducible refine Below.setCell ?_ ?_ _; rotate_left; focus ((try simp) <;> omega)) | (with_reducible refine below_grow ?_ ?_; rotate_left; focus ((try simp) <;> omega)) | (with_reducible refine below_putB ?_ ?_; rotate_left; focus ((try simp) <;> omega)) | with_reducible refine Below.drew ?_ | with_reducible refine below_drewN ?_ | with_reducible assumption | (with_reducible refine below_step (by assumption) ?_ ?_; rotate_left; focus ((try simp) <;> omega)))) hgrow2 (by simp; omega) (fun r hr => (HO.out.lt hr).1)
      have HO3 := Lib.hid hown2
      clear hown2 hgrow2 hat2
      go_roundw
      case rel =>
        refine ⟨k + 1, by omega, by go_num, ?_, hB2⟩
        have h := HO3.out
        rw [HST.out, nums_join]
        exact h
      case measure => simp [intOf]; omega
    · obtain rfl : k = n := by omega
      have ht : l.take k = l := List.take_of_length_le (by rw [HL.out]; exact Nat.le_refl _)
      rw [ht] at hown
      clear ht
      go_wp2_with fail
      refine ret_any ⟨_, by simp [results, Try.results39, go_sem, *]; rfl, ?_⟩ rfl
      exact ⟨_, rfl, hown, hbel⟩
end Go.Proofs.Ytoefekojjagjdaa
