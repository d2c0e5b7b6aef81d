/-
  The reference's Expand, by its contract. No condition but that the numbers fit their kinds and the pairs are not too many.
-/
import Derived.Test.YtoefekojjagjdaaNack
namespace Go.Proofs.Ytoefekojjagjdaa
open Go.RowKit Go.Sort Go.BigFrame
set_option linter.unusedVariables false
attribute [local go_sem ↓] Go.wp_at_zero Go.wp_at_succ
theorem pow_in (i : Nat) (h : i < 16) : (1 : Int) ≤ 2 ^ i ∧ (2 : Int) ^ i ≤ 32768 := by
  have : ∀ i, i < 16 → (1 : Int) ≤ 2 ^ i ∧ (2 : Int) ^ i ≤ 32768 := by decide
  exact this i h
theorem rbit (b : Int) (i : Nat) (h0 : 0 ≤ b) (h1 : b ≤ 65535) (hi : i < 16) : ∃ P : Int, (2 : Int) ^ i = P ∧ 1 ≤ P ∧ P ≤ 32768 ∧ 0 ≤ b / P ∧ b / P ≤ 65535 ∧ (b / P % 2 == 1) = bitAt b i := by
  have hp := pow_in i hi
  have h2 : 0 ≤ b / 2 ^ i := Int.ediv_nonneg h0 (by omega)
  have h3 : b / 2 ^ i ≤ b := Int.ediv_le_self _ h0
  refine ⟨_, rfl, hp.1, hp.2, h2, by omega, ?_⟩
  unfold bitAt
  by_cases h : b / 2 ^ i % 2 = 1 <;> simp [h]
set_option maxRecDepth 100000 in
set_option maxHeartbeats 4000000 in
theorem refExpandR {v : Value} {n : Nat} {l : List (Int × Int)} {w : World} (h : Has w 2 v n (prs l)) (hl : l.length = n) (hb : ∀ x ∈ l, 0 ≤ x.1 ∧ x.1 ≤ 65535 ∧ 0 ≤ x.2 ∧ x.2 ≤ 65535) (hn : n ≤ 4000000) :
    Calls Try.prog 31 #[v] w fun e w' => ∃ v', e = .returned v' ∧ Line w' w.heap.size 1 v' (expand l).length (nums (expand l)) ∧ Below w.heap.size w w' := by
  have HH := Lib.hid h
  have HL := Lib.hid hl
  have HB := Lib.hid hb
  obtain ⟨ao, cap, rfl, hcap, hcap'⟩ := h.shape
  unfold maxLen at hcap'
  clear h hl hb
  obtain ⟨i0, hi, hz0, hz1, hz2⟩ := info_parts info22
  have HI := And.intro (Lib.hid hi) (And.intro (Lib.hid hz0) (And.intro (Lib.hid hz1) (Lib.hid hz2)))
  clear hi hz0 hz1 hz2
  go_enter Try.func31, Try.ntmps31
  go_wp2
  go_loopw [3, 9] (fun s3 s9 wr => ∃ k : Nat, k ≤ n ∧ s9 = .int .i64 k ∧ Line wr w.heap.size 1 s3 (expand (l.take k)).length (nums (expand (l.take k))) ∧ Below w.heap.size w wr) (fun _ i _ => n - (intOf i).toNat)
  case atStart => exact ⟨0, by omega, rfl, by simpa [expand, nums] using Line.nil w w.heap.size 1, Below.refl _ _⟩
  case round =>
    obtain ⟨k, hk, rfl, hown, hbel⟩ := hrel
    have hbs := hbel.size
    obtain ⟨wo, hwo⟩ : ∃ wo : World, wo = wr := ⟨_, rfl⟩
    subst hwo
    by_cases hlt : k < n
    · obtain ⟨g, off, rfl, hg, hcell⟩ := HH.out.cell (by omega)
      have hkl : k < l.length := by rw [HL.out]; exact hlt
      obtain ⟨p, b, hpb⟩ : ∃ p b, (p, b) = l[k] := ⟨_, _, rfl⟩
      have hget := prs_get l k hkl
      rw [← hpb] at hget
      have c0 : wo.cell? ⟨g, off + k * 2, none⟩ = some (.int .u16 p) := by rw [hbel.cell (by simpa using hg)]; exact hcell _ _ hget.1
      have c1 : wo.cell? ⟨g, off + k * 2 + 1, none⟩ = some (.int .u16 b) := by rw [hbel.cell (by simpa using hg)]; exact hcell _ _ hget.2
      obtain ⟨p0, p1, b0, b1⟩ := HB.out (p, b) (by rw [hpb]; exact List.getElem_mem _)
      have hexp := expand_take l k hkl
      rw [← hpb] at hexp
      have HX := Lib.hid hexp
      have HP := Lib.hid hpb
      have og : Old g wo := ⟨by omega⟩
      have i3 : (k : Int) < (n : Int) := by omega
      have i4 : (0 : Int) ≤ (k : Int) := by omega
      have hel : (expand (l.take k)).length ≤ 17 * n := by have := expand_len (l.take k); have := List.length_take_le k l; omega
      have HO := Lib.hid hown
      obtain ⟨E, hE⟩ : ∃ E, E = expand (l.take k) := ⟨_, rfl⟩
      have HE := Lib.hid hE
      rw [← hE] at hel
      clear hget hcell hexp hpb hown hE
      dsimp only at p0 p1 b0 b1
      go_wp2_with (at_builtin; refine wpList_append_line _ rfl _ _ 36 rfl w.heap.size 22 i0 _ 1 2 Try.underlying36 HI.1.out HI.2.1.out HI.2.2.1.out HI.2.2.2.out rfl (by decide) _ _ E.length 1 (nums E) [.int .u16 p] rfl rfl ((by have := HO.out; rw [← HE.out] at this; exact this : Line wo w.heap.size 1 u3 E.length (nums E)).keep (by repeat (first | with_reducible exact Below.refl _ _ | (with_reducible refine Below.alloc ?_ ?_ _; rotate_left; focus ((try simp) <;> omega)) | (with_reducible refine Below.setCell ?_ ?_ _; rotate_left; focus ((try simp) <;> omega)) | (with_reducible refine below_grow ?_ ?_; rotate_left; focus ((try simp) <;> omega)) | (with_reducible refine below_putB ?_ ?_; rotate_left; focus ((try simp) <;> omega)) | with_reducible refine Below.drew ?_ | with_reducible refine below_drewN ?_ | with_reducible assumption | (with_reducible refine below_step (by assumption) ?_ ?_; rotate_left; focus ((try simp) <;> omega))))) (Src.one rfl (by simp [Value.oneCell']) (one_at (by simp [go_sem]))) (by unfold maxLen; omega) (by omega) (by simp; omega) _ rfl ?_; intro v1 w1 hown1 hgrow1 hat1)
      obtain ⟨q, hq⟩ : ∃ q, q = wo.heap.size := ⟨_, rfl⟩
      have hx := hgrow1.block q (by simp; omega) (fun e => by have := (HO.out.lt e.symm).2; omega)
      have hblk : BlkIs w1 q #[.int .u16 p, .int .u16 b] 43 := ⟨by rw [hx, hq]; exact (inferInstance : BlkIs _ wo.heap.size #[.int .u16 p, .int .u16 b] 43).eq⟩
      have hB1 : RowKit.Below w.heap.size w w1 := RowKit.Below.grown (w := (wo.alloc _).alloc _) (by repeat (first | with_reducible exact Below.refl _ _ | (with_reducible refine Below.alloc ?_ ?_ _; rotate_left; focus ((try simp) <;> omega)) | (with_reducible refine Below.setCell ?_ ?_ _; rotate_left; focus ((try simp) <;> omega)) | (with_reducible refine below_grow ?_ ?_; rotate_left; focus ((try simp) <;> omega)) | (with_reducible refine below_putB ?_ ?_; rotate_left; focus ((try simp) <;> omega)) | with_reducible refine Below.drew ?_ | with_reducible refine below_drewN ?_ | with_reducible assumption | (with_reducible refine below_step (by assumption) ?_ ?_; rotate_left; focus ((try simp) <;> omega)))) hgrow1 (by simp; omega) (fun r hr => (HO.out.lt hr).1)
      have hnq : v1.ownBlock ≠ some q := by
        intro e
        rcases hat1 with e' | e'
        · have := (HO.out.lt (e'.symm.trans e)).2; omega
        · rw [e] at e'; simp at e'; omega
      rw [← hq]
      have HO1 := Lib.hid hown1
      have HQ := Lib.hid hq
      clear hown1 hgrow1 hat1 hx hq c0 c1
      go_loopw [3, 6] (fun s3 s18 wi => ∃ i : Nat, i ≤ 16 ∧ s18 = .int .i64 i ∧ Line wi w.heap.size 1 s3 (E ++ part p b i).length (nums (E ++ part p b i)) ∧ BlkIs wi q #[.int .u16 p, .int .u16 b] 43 ∧ s3.ownBlock ≠ some q ∧ Below w.heap.size w wi) (fun _ i _ => 16 - (intOf i).toNat)
      case atStart => exact ⟨0, by omega, rfl, by have := HO1.out; simpa [part, nums] using this, hblk, hnq, hB1⟩
      case round =>
        clear hblk hnq hB1
        obtain ⟨i, hi, rfl, hown, hblk, hnq, hB⟩ := hrel
        have hBs := hB.size
        have hpl := part_len p b i
        by_cases hi16 : i < 16
        · have hob : Old q wr := inferInstance
          have HO2 := Lib.hid hown
          have hps := part_succ p b i
          obtain ⟨P, hP, hP1, hP2, hP3, hP4, ht⟩ := rbit b i b0 b1 hi16
          cases hbit : bitAt b i
          · rw [hbit] at hps ht
            have HPS := Lib.hid hps
            clear hbit hps hown
            go_wp2_with fail
            go_roundw
            case rel => exact ⟨i + 1, by omega, by go_num, by rw [HPS.out]; exact HO2.out, hblk, hnq, hB⟩
            case measure => simp [intOf]; omega
          · rw [hbit] at hps ht
            have HPS := Lib.hid hps
            clear hbit hps hown
            go_wp2_with (at_builtin; refine wpList_append_line _ rfl _ _ 36 rfl w.heap.size 22 i0 _ 1 2 Try.underlying36 HI.1.out HI.2.1.out HI.2.2.1.out HI.2.2.2.out rfl (by decide) _ _ (E ++ part p b i).length 1 (nums (E ++ part p b i)) [.int .u16 ((p + i + 1) % 65536)] rfl rfl (HO2.out.keep (by repeat (first | with_reducible exact Below.refl _ _ | (with_reducible refine Below.alloc ?_ ?_ _; rotate_left; focus ((try simp) <;> omega)) | (with_reducible refine Below.setCell ?_ ?_ _; rotate_left; focus ((try simp) <;> omega)) | (with_reducible refine below_grow ?_ ?_; rotate_left; focus ((try simp) <;> omega)) | (with_reducible refine below_putB ?_ ?_; rotate_left; focus ((try simp) <;> omega)) | with_reducible refine Below.drew ?_ | with_reducible refine below_drewN ?_ | with_reducible assumption | (with_reducible refine below_step (by assumption) ?_ ?_; rotate_left; focus ((try simp) <;> omega))))) (Src.one rfl (by simp [Value.oneCell']) (one_at (by simp [go_sem]))) (by unfold maxLen; simp only [List.length_append]; omega) (by simp only [List.length_append]; omega) (by simp; omega) _ rfl ?_; intro v2 w2 hown2 hgrow2 hat2)
            have hx := hgrow2.block q (by have := hob.lt; simp; omega) (fun e => hnq e.symm)
            have hblk2 : BlkIs w2 q #[.int .u16 p, .int .u16 b] 43 := ⟨by rw [hx, Below.heap_alloc _ _ _ hob.lt]; exact hblk.eq⟩
            have hB2 : RowKit.Below w.heap.size w w2 := RowKit.Below.grown (w := wr.alloc _) (by repeat (first | with_reducible exact Below.refl _ _ | (with_reducible refine Below.alloc ?_ ?_ _; rotate_left; focus ((try simp) <;> omega)) | (with_reducible refine Below.setCell ?_ ?_ _; rotate_left; focus ((try simp) <;> omega)) | (with_reducible refine below_grow ?_ ?_; rotate_left; focus ((try simp) <;> omega)) | (with_reducible refine below_putB ?_ ?_; rotate_left; focus ((try simp) <;> omega)) | with_reducible refine Below.drew ?_ | with_reducible refine below_drewN ?_ | with_reducible assumption | (with_reducible refine below_step (by assumption) ?_ ?_; rotate_left; focus ((try simp) <;> omega)))) hgrow2 (by simp; omega) (fun r hr => (HO2.out.lt hr).1)
            have hnq2 : v2.ownBlock ≠ some q := by
              intro e
              rcases hat2 with e' | e'
              · exact hnq (e'.symm.trans e)
              · rw [e] at e'; have := hob.lt; simp at e'; omega
            have HO3 := Lib.hid hown2
            clear hown2 hgrow2 hat2 hx
            go_roundw
            case rel =>
              refine ⟨i + 1, by omega, by go_num, ?_, hblk2, hnq2, hB2⟩
              have h := HO3.out
              rw [HPS.out, if_pos rfl, ← List.append_assoc]
              simpa [nums, Nat.add_assoc] using h
            case measure => simp [intOf]; omega
        · obtain rfl : i = 16 := by omega
          have HO2 := Lib.hid hown
          clear hown
          go_wp2_with fail
          go_roundw
          case rel =>
            refine ⟨k + 1, by omega, by go_num, ?_, hB⟩
            rw [HX.out, ← HE.out]
            exact HO2.out
          case measure => simp [intOf]; omega
    · obtain rfl : k = n := by omega
      have ht : l.take k = l := List.take_of_length_le (by rw [HL.out]; exact Nat.le_refl _)
      rw [ht] at hown
      go_wp2_with fail
      refine ret_any ⟨_, by simp [results, Try.results31, go_sem, *]; rfl, ?_⟩ rfl
      exact ⟨_, rfl, hown, hbel⟩
end Go.Proofs.Ytoefekojjagjdaa
