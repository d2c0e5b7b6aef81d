/-
  The reference's Pack, by its contract: it tells what Pack tells. No condition but that the numbers fit their kinds and are not too many.
-/
import Derived.Test.YtoefekojjagjdaaNackArgs
namespace Go.Proofs.Ytoefekojjagjdaa
open Go.RowKit Go.Sort Go.BigFrame
set_option linter.unusedVariables false
attribute [local go_sem ↓] Go.wp_at_zero Go.wp_at_succ
theorem add_val (s p b : Int) (h0 : 0 ≤ b) (h1 : 1 ≤ (s - p) % 65536) (h2 : (s - p) % 65536 ≤ 16) (h3 : b < 2 ^ (((s - p) % 65536).toNat - 1)) :
    (b + 2 ^ (((s - p) % 65536).toNat - 1)) % 65536 = b + 2 ^ (((s - p) % 65536).toNat - 1) := by
  have hd : ((s - p) % 65536).toNat - 1 < 16 := by omega
  generalize ((s - p) % 65536).toNat - 1 = d at *
  have h4 : (2 : Int) ^ d ≤ 2 ^ 15 := pow2_le (by omega)
  have h5 : (0 : Int) < 2 ^ d := Int.pow_pos (by decide)
  have h15 : (2 : Int) ^ 15 = 32768 := by decide
  omega
set_option maxRecDepth 100000 in
set_option maxHeartbeats 8000000 in
theorem refPackR {v : Value} {n : Nat} {m : List Int} {w : World} (h : Has w 1 v n (nums m)) (hl : m.length = n) (hm : fits16 m) (hn : n ≤ 20000000) :
    Calls Try.prog 32 #[v] w fun e w' => ∃ v', e = .returned v' ∧ Line w' w.heap.size 2 v' (pack m).length (prs (pack m)) ∧ Below w.heap.size w w' := by
  have HH := Lib.hid h
  have HL := Lib.hid hl
  have HM := Lib.hid hm
  obtain ⟨ao, cap, rfl, hcap, hcap'⟩ := h.shape
  unfold maxLen at hcap'
  clear h hl hm
  obtain ⟨i0, hi, hz0, hz1, hz2⟩ := info_parts info43
  have HI := And.intro (Lib.hid hi) (And.intro (Lib.hid hz0) (And.intro (Lib.hid hz1) (Lib.hid hz2)))
  clear hi hz0 hz1 hz2
  go_enter Try.func32, Try.ntmps32
  go_wp2
  go_loopw [3, 4] (fun s3 s4 wr => ∃ k : Nat, k ≤ n ∧ s4 = .int .i64 k ∧ Line wr w.heap.size 2 s3 (packTo m k).length (prs (packTo m k)) ∧ (k < n → packTo m (k + 1) = packTo m k ++ [(m.getD k 0, 0)]) ∧ Below w.heap.size w wr) (fun _ i _ => n - (intOf i).toNat)
  case atStart => exact ⟨0, by omega, rfl, Line.nil w w.heap.size 2, fun _ => rfl, Below.refl _ _⟩
  case round =>
    obtain ⟨k, hk, rfl, hown, hnew, hbel⟩ := hrel
    have hbs := hbel.size
    obtain ⟨wo, hwo⟩ : ∃ wo : World, wo = wr := ⟨_, rfl⟩
    subst hwo
    by_cases hlt : k < n
    · obtain ⟨g, off, rfl, hg, hcell⟩ := HH.out.cell (by omega)
      have hs := fits_getD HM.out k
      have hget := nums_get m k (by rw [HL.out]; exact hlt)
      have c0 : wo.cell? ⟨g, off + k, none⟩ = some (.int .u16 (m.getD k 0)) := by rw [hbel.cell (by simpa using hg)]; exact hcell _ _ hget
      have og : Old g wo := ⟨by omega⟩
      have i3 : (k : Int) < (n : Int) := by omega
      have i4 : (0 : Int) ≤ (k : Int) := by omega
      obtain ⟨O, hO⟩ : ∃ O, O = packTo m k := ⟨_, rfl⟩
      have hpl : O.length ≤ k := by rw [hO]; exact packTo_len m k
      have hnew := hnew hlt
      rw [← hO] at hown hnew
      have HO := Lib.hid hown
      have HN := Lib.hid hnew
      have HC := Lib.hid hcell
      have HOO := Lib.hid hO
      obtain ⟨s, hs'⟩ : ∃ s, s = m.getD k 0 := ⟨_, rfl⟩
      rw [← hs'] at c0 hs
      have HS := Lib.hid hs'
      clear hget hown hnew hcell hO hs'
      go_wp2_with fail
      obtain ⟨q, hq⟩ : ∃ q, q = wo.heap.size := ⟨_, rfl⟩
      have HQ := Lib.hid hq
      have hqs : wo.heap.size ≤ q := by omega
      rw [← hq]
      have hbl : BlkIs (wo.alloc (.cells #[.int .u16 s, .int .u16 0] 43)) q #[.int .u16 s, .int .u16 0] 43 := by rw [hq]; infer_instance
      clear hq
      go_loopw [4] (fun s4 wi => ∃ (i : Nat) (p b : Int), k + 1 ≤ i ∧ i ≤ n ∧ s4 = .int .i64 i ∧ packTo m i = O ++ [(p, b)] ∧ BlkIs wi q #[.int .u16 p, .int .u16 b] 43 ∧ Below wo.heap.size wo wi) (fun i _ => n - (intOf i).toNat)
      case atStart => exact ⟨k + 1, s, 0, by omega, by omega, by go_num, by rw [HN.out, HS.out], hbl, (by repeat (first | with_reducible exact Below.refl _ _ | (with_reducible refine Below.alloc ?_ ?_ _; rotate_left; focus ((try simp) <;> omega)) | (with_reducible refine Below.setCell ?_ ?_ _; rotate_left; focus ((try simp) <;> omega)) | (with_reducible refine below_grow ?_ ?_; rotate_left; focus ((try simp) <;> omega)) | (with_reducible refine below_putB ?_ ?_; rotate_left; focus ((try simp) <;> omega)) | with_reducible refine Below.drew ?_ | with_reducible refine below_drewN ?_ | with_reducible assumption | (with_reducible refine below_step (by assumption) ?_ ?_; rotate_left; focus ((try simp) <;> omega))))⟩
      case round =>
        clear hbl
        obtain ⟨i, p, b, hki, hin, rfl, hpk, hbl, hB⟩ := hrel
        have hBs := hB.size
        have hob : Old q wr := inferInstance
        obtain ⟨a1, a2, a3, a4, a5⟩ := packTo_inv HM.out i (by omega) O (p, b) hpk
        dsimp only at a1 a2 a3 a4 a5
        have hst := packTo_step hpk
        dsimp only at hst
        by_cases hlt2 : i < n
        · have hq := fits_getD HM.out (i - 1)
          have hs2 := fits_getD HM.out i
          have d0 : wr.cell? ⟨g, off + i, none⟩ = some (.int .u16 (m.getD i 0)) := by rw [hB.cell (by simp; omega), hbel.cell (by simpa using hg)]; exact HC.out _ _ (nums_get m i (by rw [HL.out]; exact hlt2))
          have d1 : wr.cell? ⟨g, off + (i - 1), none⟩ = some (.int .u16 (m.getD (i - 1) 0)) := by rw [hB.cell (by simp; omega), hbel.cell (by simpa using hg)]; exact HC.out _ _ (nums_get m (i - 1) (by rw [HL.out]; omega))
          have og2 : Old g wr := ⟨by omega⟩
          have i5 : (i : Int) < (n : Int) := by omega
          have i6 : (0 : Int) < (i : Int) := by omega
          obtain ⟨j, hj0⟩ : ∃ j : Nat, j = i - 1 := ⟨_, rfl⟩
          have i7 : IntKind.i64.wrap ((i : Int) - 1) = (j : Int) := by
            simp only [IntKind.wrap, IntKind.bits, IntKind.signed]
            simp
            split <;> omega
          have i9 : (0 : Int) ≤ (j : Int) := by omega
          have i10 : (j : Int) < (n : Int) := by omega
          rw [← hj0] at hq hst a3 a5 d1
          obtain ⟨t, ht⟩ : ∃ t, t = m.getD i 0 := ⟨_, rfl⟩
          rw [← ht] at d0 hs2 hst
          have HT := Lib.hid ht
          clear ht
          generalize m.getD j 0 = u at d1 hq hst a3 a5
          have HJ0 := Lib.hid hj0
          clear hj0
          have HPK := Lib.hid hpk
          have hcase : (s : Int) = s := rfl
          have hc : (joins p u t = true ∧ 1 ≤ (t - p) % 65536 ∧ (t - p) % 65536 ≤ 16 ∧ 0 < d16 t u) ∨ (joins p u t = false ∧ ((t - p) % 65536 < 1 ∨ (1 ≤ (t - p) % 65536 ∧ 16 < (t - p) % 65536) ∨ (1 ≤ (t - p) % 65536 ∧ (t - p) % 65536 ≤ 16 ∧ d16 t u ≤ 0))) := by
            by_cases h1 : 1 ≤ (t - p) % 65536 <;> by_cases h2 : (t - p) % 65536 ≤ 16 <;> by_cases h3 : 0 < d16 t u
            all_goals (simp [joins, h1, h2, h3]; try omega)
          clear hcase hpk
          rcases hc with ⟨hj, k1, k2, k3⟩ | ⟨hj, hc⟩
          · rw [if_pos hj] at hst
            have hb : b < 2 ^ (((t - p) % 65536).toNat - 1) := by
              unfold d16 at k3
              exact Int.lt_of_lt_of_le a5 (pow2_le (by omega))
            have hv := add_val t p b a4 k1 k2 hb
            have HV := Lib.hid hv
            have HST := Lib.hid hst
            clear hj hst hb hv a5
            go_wp2_with fail
            refine wp_region_quiet_below (by kernel_rfl) (by kernel_rfl) ?_
            repeat (first | go_big_quiet_step (((fail))) | quiet_step (((fail))))
            refine wpQuiet_nil ?_
            intro _ hw'
            obtain ⟨⟨dq, osq⟩, hw''⟩ := hw'
            subst hw''
            go_wp2_with fail
            refine wp_region_quiet_below (by kernel_rfl) (by kernel_rfl) ?_
            repeat (first | go_big_quiet_step (((go_at_call 19; exact Calls.regrown_gives (Calls.gives_of_pure (refDiff16 _ _ _ (by omega) (by omega) (by omega) (by omega)))))) | quiet_step (((go_at_call 19; exact Calls.regrown_gives (Calls.gives_of_pure (refDiff16 _ _ _ (by omega) (by omega) (by omega) (by omega)))))))
            refine wpQuiet_nil ?_
            intro _ hw'
            obtain ⟨⟨dq, osq⟩, hw''⟩ := hw'
            subst hw''
            go_wp2_with fail
            go_roundw
            case rel => exact ⟨i + 1, p, b + 2 ^ (((t - p) % 65536).toNat - 1), by omega, by omega, by go_num, HST.out, by rw [HV.out]; infer_instance, (by repeat (first | with_reducible exact Below.refl _ _ | (with_reducible refine Below.alloc ?_ ?_ _; rotate_left; focus ((try simp) <;> omega)) | (with_reducible refine Below.setCell ?_ ?_ _; rotate_left; focus ((try simp) <;> omega)) | (with_reducible refine below_grow ?_ ?_; rotate_left; focus ((try simp) <;> omega)) | (with_reducible refine below_putB ?_ ?_; rotate_left; focus ((try simp) <;> omega)) | with_reducible refine Below.drew ?_ | with_reducible refine below_drewN ?_ | with_reducible assumption | (with_reducible refine below_step (by assumption) ?_ ?_; rotate_left; focus ((try simp) <;> omega))))⟩
            case measure => simp [intOf]; omega
          · rw [if_neg (by rw [hj]; simp)] at hst
            have HST := Lib.hid hst
            clear hj hst a5
            rcases hc with k1 | ⟨k1, k2⟩ | ⟨k1, k2, k3⟩
            · go_wp2_with fail
              refine wp_region_quiet_below (by kernel_rfl) (by kernel_rfl) ?_
              repeat (first | go_big_quiet_step (((fail))) | quiet_step (((fail))))
              refine wpQuiet_nil ?_
              intro _ hw'
              obtain ⟨⟨dq, osq⟩, hw''⟩ := hw'
              subst hw''
              go_wp2_with fail
              refine wp_region_quiet_below (by kernel_rfl) (by kernel_rfl) ?_
              repeat (first | go_big_quiet_step (((fail))) | quiet_step (((fail))))
              refine wpQuiet_nil ?_
              intro _ hw'
              obtain ⟨⟨dq, osq⟩, hw''⟩ := hw'
              subst hw''
              go_wp2_with (first | (at_builtin; refine wpList_append_line _ rfl _ _ 39 rfl w.heap.size 43 i0 _ 2 4 Try.underlying39 HI.1.out HI.2.1.out HI.2.2.1.out HI.2.2.2.out rfl (by decide) _ _ O.length 1 (prs O) [.int .u16 p, .int .u16 b] rfl rfl (HO.out.keep (by repeat (first | with_reducible exact Below.refl _ _ | (with_reducible refine Below.alloc ?_ ?_ _; rotate_left; focus ((try simp) <;> omega)) | (with_reducible refine Below.setCell ?_ ?_ _; rotate_left; focus ((try simp) <;> omega)) | (with_reducible refine below_grow ?_ ?_; rotate_left; focus ((try simp) <;> omega)) | (with_reducible refine below_putB ?_ ?_; rotate_left; focus ((try simp) <;> omega)) | with_reducible refine Below.drew ?_ | with_reducible refine below_drewN ?_ | with_reducible assumption | (with_reducible refine below_step (by assumption) ?_ ?_; rotate_left; focus ((try simp) <;> omega))))) (Src.one rfl (by simp [Value.oneCell']) (at_pair (by simp [go_sem]) (by simp [go_sem]))) (by unfold maxLen; omega) (by omega) (by simp; omega) _ rfl ?_; intro v2 w2 hown2 hgrow2 hat2))
              have HO3 := Lib.hid hown2
              clear hown2 hat2
              go_roundw
              case rel =>
                refine ⟨i, by omega, rfl, ?_, fun _ => by rw [HST.out, HPK.out, HT.out], ?_⟩
                · have h := HO3.out
                  rw [← prs_snoc _ (_, _)] at h
                  rw [HPK.out, show (O ++ [(p, b)]).length = O.length + 1 by simp]
                  exact h
                · exact RowKit.Below.grown (w := _) (by repeat (first | with_reducible exact Below.refl _ _ | (with_reducible refine Below.alloc ?_ ?_ _; rotate_left; focus ((try simp) <;> omega)) | (with_reducible refine Below.setCell ?_ ?_ _; rotate_left; focus ((try simp) <;> omega)) | (with_reducible refine below_grow ?_ ?_; rotate_left; focus ((try simp) <;> omega)) | (with_reducible refine below_putB ?_ ?_; rotate_left; focus ((try simp) <;> omega)) | with_reducible refine Below.drew ?_ | with_reducible refine below_drewN ?_ | with_reducible assumption | (with_reducible refine below_step (by assumption) ?_ ?_; rotate_left; focus ((try simp) <;> omega)))) hgrow2 (by simp; omega) (fun r hr => (HO.out.lt hr).1)
              case measure => simp [intOf]; omega

            · go_wp2_with fail
              refine wp_region_quiet_below (by kernel_rfl) (by kernel_rfl) ?_
              repeat (first | go_big_quiet_step (((fail))) | quiet_step (((fail))))
              refine wpQuiet_nil ?_
              intro _ hw'
              obtain ⟨⟨dq, osq⟩, hw''⟩ := hw'
              subst hw''
              go_wp2_with fail
              refine wp_region_quiet_below (by kernel_rfl) (by kernel_rfl) ?_
              repeat (first | go_big_quiet_step (((fail))) | quiet_step (((fail))))
              refine wpQuiet_nil ?_
              intro _ hw'
              obtain ⟨⟨dq, osq⟩, hw''⟩ := hw'
              subst hw''
              go_wp2_with (first | (at_builtin; refine wpList_append_line _ rfl _ _ 39 rfl w.heap.size 43 i0 _ 2 4 Try.underlying39 HI.1.out HI.2.1.out HI.2.2.1.out HI.2.2.2.out rfl (by decide) _ _ O.length 1 (prs O) [.int .u16 p, .int .u16 b] rfl rfl (HO.out.keep (by repeat (first | with_reducible exact Below.refl _ _ | (with_reducible refine Below.alloc ?_ ?_ _; rotate_left; focus ((try simp) <;> omega)) | (with_reducible refine Below.setCell ?_ ?_ _; rotate_left; focus ((try simp) <;> omega)) | (with_reducible refine below_grow ?_ ?_; rotate_left; focus ((try simp) <;> omega)) | (with_reducible refine below_putB ?_ ?_; rotate_left; focus ((try simp) <;> omega)) | with_reducible refine Below.drew ?_ | with_reducible refine below_drewN ?_ | with_reducible assumption | (with_reducible refine below_step (by assumption) ?_ ?_; rotate_left; focus ((try simp) <;> omega))))) (Src.one rfl (by simp [Value.oneCell']) (at_pair (by simp [go_sem]) (by simp [go_sem]))) (by unfold maxLen; omega) (by omega) (by simp; omega) _ rfl ?_; intro v2 w2 hown2 hgrow2 hat2))
              have HO3 := Lib.hid hown2
              clear hown2 hat2
              go_roundw
              case rel =>
                refine ⟨i, by omega, rfl, ?_, fun _ => by rw [HST.out, HPK.out, HT.out], ?_⟩
                · have h := HO3.out
                  rw [← prs_snoc _ (_, _)] at h
                  rw [HPK.out, show (O ++ [(p, b)]).length = O.length + 1 by simp]
                  exact h
                · exact RowKit.Below.grown (w := _) (by repeat (first | with_reducible exact Below.refl _ _ | (with_reducible refine Below.alloc ?_ ?_ _; rotate_left; focus ((try simp) <;> omega)) | (with_reducible refine Below.setCell ?_ ?_ _; rotate_left; focus ((try simp) <;> omega)) | (with_reducible refine below_grow ?_ ?_; rotate_left; focus ((try simp) <;> omega)) | (with_reducible refine below_putB ?_ ?_; rotate_left; focus ((try simp) <;> omega)) | with_reducible refine Below.drew ?_ | with_reducible refine below_drewN ?_ | with_reducible assumption | (with_reducible refine below_step (by assumption) ?_ ?_; rotate_left; focus ((try simp) <;> omega)))) hgrow2 (by simp; omega) (fun r hr => (HO.out.lt hr).1)
              case measure => simp [intOf]; omega

            · go_wp2_with fail
              refine wp_region_quiet_below (by kernel_rfl) (by kernel_rfl) ?_
              repeat (first | go_big_quiet_step (((fail))) | quiet_step (((fail))))
              refine wpQuiet_nil ?_
              intro _ hw'
              obtain ⟨⟨dq, osq⟩, hw''⟩ := hw'
              subst hw''
              go_wp2_with fail
              refine wp_region_quiet_below (by kernel_rfl) (by kernel_rfl) ?_
              repeat (first | go_big_quiet_step (((go_at_call 19; exact Calls.regrown_gives (Calls.gives_of_pure (refDiff16 _ _ _ (by omega) (by omega) (by omega) (by omega)))))) | quiet_step (((go_at_call 19; exact Calls.regrown_gives (Calls.gives_of_pure (refDiff16 _ _ _ (by omega) (by omega) (by omega) (by omega)))))))
              refine wpQuiet_nil ?_
              intro _ hw'
              obtain ⟨⟨dq, osq⟩, hw''⟩ := hw'
              subst hw''
              go_wp2_with (first | (at_builtin; refine wpList_append_line _ rfl _ _ 39 rfl w.heap.size 43 i0 _ 2 4 Try.underlying39 HI.1.out HI.2.1.out HI.2.2.1.out HI.2.2.2.out rfl (by decide) _ _ O.length 1 (prs O) [.int .u16 p, .int .u16 b] rfl rfl (HO.out.keep (by repeat (first | with_reducible exact Below.refl _ _ | (with_reducible refine Below.alloc ?_ ?_ _; rotate_left; focus ((try simp) <;> omega)) | (with_reducible refine Below.setCell ?_ ?_ _; rotate_left; focus ((try simp) <;> omega)) | (with_reducible refine below_grow ?_ ?_; rotate_left; focus ((try simp) <;> omega)) | (with_reducible refine below_putB ?_ ?_; rotate_left; focus ((try simp) <;> omega)) | with_reducible refine Below.drew ?_ | with_reducible refine below_drewN ?_ | with_reducible assumption | (with_reducible refine below_step (by assumption) ?_ ?_; rotate_left; focus ((try simp) <;> omega))))) (Src.one rfl (by simp [Value.oneCell']) (at_pair (by simp [go_sem]) (by simp [go_sem]))) (by unfold maxLen; omega) (by omega) (by simp; omega) _ rfl ?_; intro v2 w2 hown2 hgrow2 hat2))
              have HO3 := Lib.hid hown2
              clear hown2 hat2
              go_roundw
              case rel =>
                refine ⟨i, by omega, rfl, ?_, fun _ => by rw [HST.out, HPK.out, HT.out], ?_⟩
                · have h := HO3.out
                  rw [← prs_snoc _ (_, _)] at h
                  rw [HPK.out, show (O ++ [(p, b)]).length = O.length + 1 by simp]
                  exact h
                · exact RowKit.Below.grown (w := _) (by repeat (first | with_reducible exact Below.refl _ _ | (with_reducible refine Below.alloc ?_ ?_ _; rotate_left; focus ((try simp) <;> omega)) | (with_reducible refine Below.setCell ?_ ?_ _; rotate_left; focus ((try simp) <;> omega)) | (with_reducible refine below_grow ?_ ?_; rotate_left; focus ((try simp) <;> omega)) | (with_reducible refine below_putB ?_ ?_; rotate_left; focus ((try simp) <;> omega)) | with_reducible refine Below.drew ?_ | with_reducible refine below_drewN ?_ | with_reducible assumption | (with_reducible refine below_step (by assumption) ?_ ?_; rotate_left; focus ((try simp) <;> omega)))) hgrow2 (by simp; omega) (fun r hr => (HO.out.lt hr).1)
              case measure => simp [intOf]; omega

        · obtain rfl : i = n := by omega
          have HPK := Lib.hid hpk
          clear hpk hst a5
          go_wp2_with (first | (at_builtin; refine wpList_append_line _ rfl _ _ 39 rfl w.heap.size 43 i0 _ 2 4 Try.underlying39 HI.1.out HI.2.1.out HI.2.2.1.out HI.2.2.2.out rfl (by decide) _ _ O.length 1 (prs O) [.int .u16 p, .int .u16 b] rfl rfl (HO.out.keep (by repeat (first | with_reducible exact Below.refl _ _ | (with_reducible refine Below.alloc ?_ ?_ _; rotate_left; focus ((try simp) <;> omega)) | (with_reducible refine Below.setCell ?_ ?_ _; rotate_left; focus ((try simp) <;> omega)) | (with_reducible refine below_grow ?_ ?_; rotate_left; focus ((try simp) <;> omega)) | (with_reducible refine below_putB ?_ ?_; rotate_left; focus ((try simp) <;> omega)) | with_reducible refine Below.drew ?_ | with_reducible refine below_drewN ?_ | with_reducible assumption | (with_reducible refine below_step (by assumption) ?_ ?_; rotate_left; focus ((try simp) <;> omega))))) (Src.one rfl (by simp [Value.oneCell']) (at_pair (by simp [go_sem]) (by simp [go_sem]))) (by unfold maxLen; omega) (by omega) (by simp; omega) _ rfl ?_; intro v2 w2 hown2 hgrow2 hat2))
          have HO3 := Lib.hid hown2
          clear hown2 hat2
          go_roundw
          case rel =>
            refine ⟨i, by omega, rfl, ?_, fun h => absurd h (by omega), ?_⟩
            · have h := HO3.out
              rw [← prs_snoc _ (_, _)] at h
              rw [HPK.out, show (O ++ [(p, b)]).length = O.length + 1 by simp]
              exact h
            · exact RowKit.Below.grown (w := _) (by repeat (first | with_reducible exact Below.refl _ _ | (with_reducible refine Below.alloc ?_ ?_ _; rotate_left; focus ((try simp) <;> omega)) | (with_reducible refine Below.setCell ?_ ?_ _; rotate_left; focus ((try simp) <;> omega)) | (with_reducible refine below_grow ?_ ?_; rotate_left; focus ((try simp) <;> omega)) | (with_reducible refine below_putB ?_ ?_; rotate_left; focus ((try simp) <;> omega)) | with_reducible refine Below.drew ?_ | with_reducible refine below_drewN ?_ | with_reducible assumption | (with_reducible refine below_step (by assumption) ?_ ?_; rotate_left; focus ((try simp) <;> omega)))) hgrow2 (by simp; omega) (fun r hr => (HO.out.lt hr).1)
          case measure => simp [intOf]; omega

    · obtain rfl : k = n := by omega
      have e : packTo m k = pack m := by unfold pack; rw [HL.out]
      rw [e] at hown
      clear hnew
      go_wp2_with fail
      refine ret_any ⟨_, by simp [results, Try.results32, go_sem, *]; rfl, ?_⟩ rfl
      exact ⟨_, rfl, hown, hbel⟩
end Go.Proofs.Ytoefekojjagjdaa
