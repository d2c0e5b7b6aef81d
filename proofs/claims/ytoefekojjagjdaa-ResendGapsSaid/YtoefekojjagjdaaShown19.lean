/-
  What Of, Missing and Numbers show. No condition.
-/
import Derived.Test.YtoefekojjagjdaaMissRef
import Derived.Test.YtoefekojjagjdaaOf
namespace Go.Proofs.Ytoefekojjagjdaa
open Go.RowKit Go.Sort Go.BigFrame
set_option linter.unusedVariables false
attribute [local go_sem ↓] Go.wp_at_zero Go.wp_at_succ
def shownL : List Ent := [(5, 0, 0, 0, 0, 0, 0), (6, 0, 0, 0, 9, 0, 0), (9, 0, 0, 0, 0, 0, 0)]
set_option maxRecDepth 100000 in
set_option maxHeartbeats 4000000 in
theorem shown19 (w : World) : Calls Try.prog 34 #[] w (Gives (.bool true) w) := by
  have hE : expand [(6, 5)] = [6, 7, 9] := by decide
  have hO : ofL shownL [6, 7, 9] = [(6, 0, 0, 0, 9, 0, 0), (9, 0, 0, 0, 0, 0, 0)] := by rfl
  have hM : pack (miss shownL) = [(7, 1)] := by decide
  have ko := fun (w : World) (v pv : Value) (h : Has w 7 v 3 (ents shownL)) (hp : Has w 2 pv 1 (prs [(6, 5)])) => ofR h rfl (by decide) hp rfl (by unfold fitsP; decide) (by decide)
  have km := fun (w : World) (v : Value) (h : Has w 7 v 3 (ents shownL)) => missingR h rfl (by unfold fitsE; decide) (by decide)
  have kn := fun (w : World) (v : Value) (h : Has w 7 v 3 (ents shownL)) => numbersR h rfl (by decide)
  rw [hE] at ko
  rw [hO] at ko
  rw [hM] at km
  have KO := Lib.hid ko
  have KM := Lib.hid km
  have KN := Lib.hid kn
  clear hE hO hM ko km kn
  go_enter Try.func34, Try.ntmps34
  go_wp2_with fail
  refine (KO.out _ _ _ (has_blk inferInstance (by rfl) (by unfold maxLen; decide) _ (by rfl)) (has_blk inferInstance (by rfl) (by unfold maxLen; decide) _ (by rfl))).mono ?_; rintro e w1 ⟨v1, rfl, hL1, hb1⟩; have ha1 : After _ w1 := ⟨hb1⟩; obtain ⟨hc1, hf1⟩ := after hb1; have hz1 := hb1.size; try simp at hz1
  have hE1 := Has.keep (has_blk (size := 7) (n := 3) (b := w.heap.size) inferInstance (by rfl) (by unfold maxLen; decide) (ents shownL) (by rfl)) hb1
  obtain ⟨g1, o1, c1, rfl, hg1, hg1', hn1, hm1⟩ := hL1.form (by decide)
  have p0 := hL1.cell (j := 4) (u := .int .u32 9) rfl
  have p1 := hL1.cell (j := 7) (u := .int .u16 9) rfl
  have og1 : Old g1 w1 := ⟨hg1'⟩
  have B1 : RowKit.Below w.heap.size w w1 := (by repeat (first | with_reducible exact Below.refl _ _ | (with_reducible refine Below.alloc ?_ ?_ _; rotate_left; focus ((try simp) <;> omega)) | (with_reducible refine Below.setCell ?_ ?_ _; rotate_left; focus ((try simp) <;> omega)) | (with_reducible refine below_grow ?_ ?_; rotate_left; focus ((try simp) <;> omega)) | (with_reducible refine below_putB ?_ ?_; rotate_left; focus ((try simp) <;> omega)) | with_reducible refine Below.drew ?_ | with_reducible refine below_drewN ?_ | with_reducible assumption | (with_reducible refine below_step (by assumption) ?_ ?_; rotate_left; focus ((try simp) <;> omega))))
  have B1s := B1.size
  have HE1 := Lib.hid hE1
  clear hL1 hm1 hE1
  go_wp2_with fail
  refine (KM.out _ _ HE1.out).mono ?_; rintro e w2 ⟨v2, rfl, hL2, hb2⟩; have ha2 : After _ w2 := ⟨hb2⟩; obtain ⟨hc2, hf2⟩ := after hb2; have hz2 := hb2.size; try simp at hz2
  have HE2 := Lib.hid (HE1.out.keep hb2)
  obtain ⟨g2, o2, c2, rfl, hg2, hg2', hn2, hm2⟩ := hL2.form (by decide)
  have q0 := hL2.cell (j := 0) (u := .int .u16 7) rfl
  have q1 := hL2.cell (j := 1) (u := .int .u16 1) rfl
  rw [Nat.add_zero] at q0
  have og2 : Old g2 w2 := ⟨hg2'⟩
  have B2 : RowKit.Below w.heap.size w w2 := B1.trans (hb2.mono B1s)
  have B2s := B2.size
  clear hL2 hm2
  go_wp2_with fail
  refine (KN.out _ _ HE2.out).mono ?_; rintro e w3 ⟨v3, rfl, hL3, hb3⟩
  obtain ⟨g3, o3, c3, rfl, _, _, _, _⟩ := hL3.form (by decide)
  have B3 : RowKit.Below w.heap.size w w3 := B2.trans (hb3.mono B2s)
  clear hL3
  go_wp2_with fail
  refine ret_any ⟨_, by simp [results, Try.results34, go_sem, *]; rfl, ?_⟩ rfl
  refine gives_of rfl B3
end Go.Proofs.Ytoefekojjagjdaa
