/-
  The walk of the law: the two texts of the line are equal. The listed errors and powers of ten stand; the bytes are at most some millions.
-/
import Derived.Test.YtoipldpekiikjaaGreatDoorWorks
import Derived.Test.YtoipldpekiikjaaGreatDoorLines
namespace Go.Proofs.YtoipldpekiikjaaGreatDoor
set_option linter.all false
open Go.RowKit Go.Sort Go.BigFrame
theorem below_stood {w w' : World} (h : Go.Proofs.YtoipldpekiikjaaGreatDoor.Clo.Stood w w') : RowKit.Below w.heap.size w w' := ⟨h.os, h.tape, h.out, h.size, h.block⟩
theorem stood_below {w w' : World} (h : RowKit.Below w.heap.size w w') : Go.Proofs.YtoipldpekiikjaaGreatDoor.Clo.Stood w w' := ⟨h.os, h.output, h.tape, h.size, h.block⟩
set_option maxRecDepth 100000 in
set_option maxHeartbeats 4000000 in
theorem line_calls {kind peer source : Int} {v : Value} {bs : List UInt8} {w : World} {bA oA bB oB : Nat} (H : Go.Proofs.YtoipldpekiikjaaGreatDoor.Clo.Begun w bA oA bB oB) (h : Bytes w v bs) (hn : bs.length ≤ 10000000) (ht : Tab w)
    (k0 : -9223372036854775808 ≤ kind) (k1 : kind ≤ 9223372036854775807) (p0 : -9223372036854775808 ≤ peer) (p1 : peer ≤ 9223372036854775807) (s0 : -9223372036854775808 ≤ source) (s1 : source ≤ 9223372036854775807) :
    Calls Tryz.prog 3 #[.agg #[.int .i64 kind, .int .i64 peer, .int .i64 source, v]] w (Gives (.bool true) w) := by
  have HB := Lib.hid h
  have HT := Lib.hid ht
  have HH := Lib.hid H
  obtain ⟨ao, cap, rfl, hcap, hcap', _⟩ := h
  clear ht H
  go_enter Tryz.func3, Tryz.ntmps3
  go_wp2_with (first
    | (go_at_call 4; go_loud (refine (Go.Proofs.YtoipldpekiikjaaGreatDoor.Clo.works_calls (HH.out.stood (stood_below (by exact (by repeat (first | with_reducible exact Below.refl _ _ | (with_reducible refine Below.alloc ?_ ?_ _; rotate_left; focus ((try simp) <;> omega)) | (with_reducible refine Below.setCell ?_ ?_ _; rotate_left; focus ((try simp) <;> omega)) | (with_reducible refine below_grow ?_ ?_; rotate_left; focus ((try simp) <;> omega)) | (with_reducible refine below_putB ?_ ?_; rotate_left; focus ((try simp) <;> omega)) | with_reducible refine Below.drew ?_ | with_reducible refine below_drewN ?_ | with_reducible assumption | (with_reducible refine below_step (by assumption) ?_ ?_; rotate_left; focus ((try simp) <;> omega)))))))).mono ?_; rintro e w1 ⟨rfl, hst⟩; have hb1 := below_stood hst; clear hst; have ha1 : After _ w1 := ⟨hb1⟩; obtain ⟨hc1, hf1⟩ := after hb1; have hz1 := hb1.size; try simp at hz1)))
  go_region_held3 (fun w' => w'.cell? ⟨w.heap.size, 0, none⟩ = some (.int .i64 kind) ∧ w'.cell? ⟨w.heap.size, 1, none⟩ = some (.int .i64 peer) ∧ w'.cell? ⟨w.heap.size, 2, none⟩ = some (.int .i64 source) ∧ w'.cell? ⟨w.heap.size, 3, none⟩ = some (.slice ao bs.length cap)) (first | (simp [*, go_sem]; done) | simp [*, go_sem, World.cell?_setCell_far])
    (first | (go_at_call 5; refine (lineC (HB.out.keep (by repeat (first | with_reducible exact Below.refl _ _ | (with_reducible refine Below.alloc ?_ ?_ _; rotate_left; focus ((try simp) <;> omega)) | (with_reducible refine Below.setCell ?_ ?_ _; rotate_left; focus ((try simp) <;> omega)) | (with_reducible refine below_grow ?_ ?_; rotate_left; focus ((try simp) <;> omega)) | (with_reducible refine below_putB ?_ ?_; rotate_left; focus ((try simp) <;> omega)) | with_reducible refine Below.drew ?_ | with_reducible refine below_drewN ?_ | with_reducible assumption | (with_reducible refine below_step (by assumption) ?_ ?_; rotate_left; focus ((try simp) <;> omega))))) hn (HT.out.keep (by repeat (first | with_reducible exact Below.refl _ _ | (with_reducible refine Below.alloc ?_ ?_ _; rotate_left; focus ((try simp) <;> omega)) | (with_reducible refine Below.setCell ?_ ?_ _; rotate_left; focus ((try simp) <;> omega)) | (with_reducible refine below_grow ?_ ?_; rotate_left; focus ((try simp) <;> omega)) | (with_reducible refine below_putB ?_ ?_; rotate_left; focus ((try simp) <;> omega)) | with_reducible refine Below.drew ?_ | with_reducible refine below_drewN ?_ | with_reducible assumption | (with_reducible refine below_step (by assumption) ?_ ?_; rotate_left; focus ((try simp) <;> omega))))) k0 k1 p0 p1 s0 s1).mono ?_; rintro e w1 ⟨rfl, hb1⟩; have ha1 : After _ w1 := ⟨hb1⟩; obtain ⟨hc1, hf1⟩ := after hb1; have hz1 := hb1.size; try simp at hz1) | (go_at_call 6; refine (lineR (HB.out.keep (by repeat (first | with_reducible exact Below.refl _ _ | (with_reducible refine Below.alloc ?_ ?_ _; rotate_left; focus ((try simp) <;> omega)) | (with_reducible refine Below.setCell ?_ ?_ _; rotate_left; focus ((try simp) <;> omega)) | (with_reducible refine below_grow ?_ ?_; rotate_left; focus ((try simp) <;> omega)) | (with_reducible refine below_putB ?_ ?_; rotate_left; focus ((try simp) <;> omega)) | with_reducible refine Below.drew ?_ | with_reducible refine below_drewN ?_ | with_reducible assumption | (with_reducible refine below_step (by assumption) ?_ ?_; rotate_left; focus ((try simp) <;> omega))))) hn k0 k1 p0 p1 s0 s1).mono ?_; rintro e w1 ⟨rfl, hb1⟩; have ha1 : After _ w1 := ⟨hb1⟩; obtain ⟨hc1, hf1⟩ := after hb1; have hz1 := hb1.size; try simp at hz1))
  have hB1 : RowKit.Below w.heap.size w w1 := (by repeat (first | with_reducible exact Below.refl _ _ | (with_reducible refine Below.alloc ?_ ?_ _; rotate_left; focus ((try simp) <;> omega)) | (with_reducible refine Below.setCell ?_ ?_ _; rotate_left; focus ((try simp) <;> omega)) | (with_reducible refine below_grow ?_ ?_; rotate_left; focus ((try simp) <;> omega)) | (with_reducible refine below_putB ?_ ?_; rotate_left; focus ((try simp) <;> omega)) | with_reducible refine Below.drew ?_ | with_reducible refine below_drewN ?_ | with_reducible assumption | (with_reducible refine below_step (by assumption) ?_ ?_; rotate_left; focus ((try simp) <;> omega))))
  go_wp2_with fail
  refine ret_any ⟨_, by simp [results, Tryz.results3, go_sem]; rfl, ?_⟩ rfl
  exact gives_of rfl hB1
end Go.Proofs.YtoipldpekiikjaaGreatDoor
