/-
  slices.Delete of the first entry, by its contract. No condition but that the entries are not too many.
-/
import Derived.Test.YtjlclpdjblicjaaHist
namespace Go.Proofs.Ytjlclpdjblicjaa
open Go.RowKit Go.Sort Go.BigFrame
set_option linter.unusedVariables false
attribute [local go_sem ↓] Go.wp_at_zero Go.wp_at_succ
def zeros7 : List Value := [.int .u16 0, .int .i64 0, .int .u32 0, .int .u16 0, .int .u32 0, .int .u32 0, .int .u16 0]
theorem zero54 (w : World) : (zeroValue 54).run Try.prog w = .ok (.agg zeros7.toArray) w := by kernel_rfl
theorem run_clear_ent (w : World) (ty : TypeId) (b o c : Nat)
    (hc : ∀ j, j < 7 → (w.cell? ⟨b, o + j, none⟩).isSome = true) (hf : ∀ j, j < 7 → w.frozen? ⟨b, o + j, none⟩ = false) :
    (Builtin.clear_ #[49] ty #[.slice (some ⟨b, o, none⟩) 1 c]).run Try.prog w = .ok (.tuple #[]) (w.setCells b o zeros7) := by
  have hst := run_storeCells_cells (P := Try.prog) b o zeros7 0 w (by simpa [zeros7] using hc) (by simpa [zeros7] using hf) (by intro v hv; simp only [zeros7, List.mem_cons, List.not_mem_nil, or_false] at hv; rcases hv with h | h | h | h | h | h | h <;> subst h <;> rfl)
  simp only [Nat.add_zero] at hst
  have hz : (Builtin.zeroCells (Value.agg zeros7.toArray).cells 1).toList = zeros7 := by kernel_rfl
  simp only [zeros7] at hz
  simp [Builtin.clear_, run_underlying Try.underlying49, hz, zeros7]
  simp only [zeros7] at hst
  rw [hst]
  rfl
set_option maxRecDepth 100000 in
set_option maxHeartbeats 1000000 in
theorem deleteR {B k g off cap : Nat} {x : Ent} {r : List Ent} {w : World} (h : Line w B 7 (.slice (some ⟨g, off, none⟩) (k + 1) cap) (k + 1) (ents (x :: r))) (hk : r.length = k) (hk2 : k ≤ 1000) :
    Calls Try.prog 48 #[.slice (some ⟨g, off, none⟩) (k + 1) cap, .int .i64 0, .int .i64 1] w fun e w' => e = .returned (.slice (some ⟨g, off, none⟩) k cap) ∧ Line w' B 7 (.slice (some ⟨g, off, none⟩) k cap) k (ents r) ∧ FrameS (fun q => q = g) w w' := by
  obtain ⟨_, c', ec, hnc, hcm⟩ := h.shape
  simp only [Value.slice.injEq, true_and] at ec
  obtain ⟨rfl, rfl⟩ := ec
  have hlen : (ents r).length = k * 7 := by rw [ents_len, hk]
  have hcons : ents (x :: r) = entC x ++ ents r := by simp [ents]
  have hlx : (entC x ++ ents r).length = k * 7 + 7 := by rw [List.length_append, hlen, entC_len]; omega
  have hb : RowKit.Below w.heap.size w w.drew := ⟨rfl, rfl, rfl, Nat.le_refl _, fun _ _ => rfl⟩
  have h1 := h.keep hb
  rw [hcons] at h1
  have h2 := h1.put (i := 0) (news := ents r) (by omega)
  rw [List.take_zero, List.nil_append, Nat.zero_add, Nat.add_zero] at h2
  have hdl : ((entC x ++ ents r).drop (ents r).length).length = 7 := by rw [List.length_drop, hlx, hlen]; omega
  obtain ⟨W1, hW1⟩ : ∃ W1, W1 = w.drew.setCells g off (ents r) := ⟨_, rfl⟩
  rw [← hW1] at h2
  have hcl := fun ty c => run_clear_ent W1 ty g (off + k * 7) c (fun j hj => by have := (h2.free (j := k * 7 + j) (by omega)).1; rwa [← Nat.add_assoc] at this) (fun j hj => by have := (h2.free (j := k * 7 + j) (by omega)).2; rwa [← Nat.add_assoc] at this)
  have h3 := h2.put (i := k * 7) (news := zeros7) (by simp [zeros7]; omega)
  have h4 : Line (W1.setCells g (off + k * 7) zeros7) B 7 (.slice (some ⟨g, off, none⟩) k cap) k (ents r) := by
    rw [← hlen, List.take_left, hlen, List.append_assoc] at h3
    exact Line.pre h3 (by omega) hlen
  have hF : FrameS (fun q => q = g) w (W1.setCells g (off + k * 7) zeros7) := by
    have f1 : FrameS (fun q => q = g) w w.drew := FrameS.of_below hb
    have f2 := f1.grown (grownBy_setCells g (ents r) off w.drew) (fun q e => by cases e; rfl)
    rw [← hW1] at f2
    exact f2.grown (grownBy_setCells g zeros7 (off + k * 7) W1) (fun q e => by cases e; rfl)
  have hsrc : Hid (∀ j u, (ents r)[j]? = some u → w.drew.cell? ((⟨g, off + 7, none⟩ : Addr).add j) = some u) := by
    intro j u hu
    rw [Addr.add_lit, Nat.add_assoc]
    refine h1.cell ?_
    rw [List.getElem?_append_right (by rw [entC_len]; omega), entC_len, Nat.add_sub_cancel_left]; exact hu
  have hsp : Hid (∀ j, j < (ents r).length → (w.drew.cell? ⟨g, off + 0 * 7 + j, none⟩).isSome = true ∧ w.drew.frozen? ⟨g, off + 0 * 7 + j, none⟩ = false) := by
    intro j hj
    rw [Nat.zero_mul, Nat.add_zero]
    exact h1.free (by omega)
  have HW : Hid (W1 = w.drew.setCells g (off + 0 * 7) (ents r)) := by rw [Nat.zero_mul, Nat.add_zero]; exact hW1
  have HL := Lib.hid hlen
  have H4 := Lib.hid h4
  have HF := Lib.hid hF
  have HCL := Lib.hid hcl
  obtain ⟨i0, hi, hz0, hz1, hz2⟩ := info_parts info54
  have HI := And.intro (Lib.hid hi) (And.intro (Lib.hid hz0) (And.intro (Lib.hid hz1) (Lib.hid hz2)))
  unfold maxLen at hcm
  have i1 : (1 : Int) ≤ (k : Int) + 1 := by omega
  clear h h1 h2 h3 h4 hF hcl hW1 hlen hcons hlx hdl hk hb hi hz0 hz1 hz2
  by_cases hc1 : cap = 1
  · subst hc1
    obtain rfl : k = 0 := by omega
    go_enter Try.func48, Try.ntmps48
    go_wp2_with fail
    go_region_law ((refine step_append_room (by rfl) _ _ 49 (by rfl) 54 i0 7 Try.underlying49 HI.1.out HI.2.2.1.out g off 0 1 (by rfl) _ 0 0 (ents r) (by rfl) (by have := HL.out; omega) (fun j u hu => by have := HL.out; rw [List.eq_nil_of_length_eq_zero (by omega : (ents r).length = 0)] at hu; simp at hu) (ents_one _) (by omega) hsp.out ?_; rw [← HW.out]))
    have hcl := HCL.out 0 1
    rw [Nat.zero_mul, Nat.add_zero] at hcl
    go_wp2
    refine ret_any ⟨_, by simp [results, Try.results48, go_sem, *]; rfl, ?_⟩ rfl
    have h4 := H4.out
    have hF := HF.out
    rw [Nat.zero_mul, Nat.add_zero] at h4 hF
    exact ⟨rfl, h4, hF⟩
  · have hc2 : 1 < cap := by omega
    go_enter Try.func48, Try.ntmps48
    go_wp2_with fail
    go_region_law ((refine step_append_room (by rfl) _ _ 49 (by rfl) 54 i0 7 Try.underlying49 HI.1.out HI.2.2.1.out g off 0 cap (by rfl) ⟨g, off + 7, none⟩ k (cap - 1) (ents r) (by rfl) HL.out hsrc.out (ents_one _) (by omega) hsp.out ?_; rw [← HW.out]))
    have hcl := HCL.out 0 (cap - k)
    go_wp2
    refine ret_any ⟨_, by simp [results, Try.results48, go_sem, *]; rfl, ?_⟩ rfl
    exact ⟨rfl, H4.out, HF.out⟩
end Go.Proofs.Ytjlclpdjblicjaa
