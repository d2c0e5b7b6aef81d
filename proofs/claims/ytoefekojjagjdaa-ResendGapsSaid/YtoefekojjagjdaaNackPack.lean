/-
  Pack of nack, by its contract. No condition but that the numbers fit their kinds and are not too many.
-/
import Derived.Test.YtoefekojjagjdaaPackLaw
namespace Go.Proofs.Ytoefekojjagjdaa
open Go.RowKit Go.Sort Go.BigFrame
set_option linter.unusedVariables false
attribute [local go_sem ↓] Go.wp_at_zero Go.wp_at_succ
theorem prs_snoc (l : List (Int × Int)) (x : Int × Int) : prs (l ++ [x]) = prs l ++ [.int .u16 x.1, .int .u16 x.2] := by simp [prs]
theorem prs_len (l : List (Int × Int)) : (prs l).length = l.length * 2 := by
  induction l with
  | nil => rfl
  | cons x r ih => simp only [prs, List.flatMap_cons, List.length_append, List.length_cons, List.length_nil] at *; omega
theorem prs_one (l : List (Int × Int)) : ∀ u ∈ prs l, u.oneCell' = true := by
  intro u hu
  simp only [prs, List.mem_flatMap, List.mem_cons, List.not_mem_nil, or_false] at hu
  obtain ⟨x, _, rfl | rfl⟩ := hu <;> rfl
/-- The last pair turned. -/
theorem line_turn {w : World} {base g off cap : Nat} {init : List (Int × Int)} {p b b' : Int} (h : Line w base 2 (.slice (some ⟨g, off, none⟩) (init.length + 1) cap) (init.length + 1) (prs (init ++ [(p, b)]))) :
    Line (w.setCell ⟨g, off + init.length * 2 + 1, none⟩ (.int .u16 b')) base 2 (.slice (some ⟨g, off, none⟩) (init.length + 1) cap) (init.length + 1) (prs (init ++ [(p, b')])) := by
  have := h.put (i := init.length * 2 + 1) (news := [.int .u16 b']) (by simp; omega)
  have e : (prs (init ++ [(p, b)])).take (init.length * 2 + 1) ++ [Value.int .u16 b'] ++ (prs (init ++ [(p, b)])).drop (init.length * 2 + 1 + 1) = prs (init ++ [(p, b')]) := by
    rw [prs_snoc, prs_snoc, ← prs_len init, Nat.add_assoc, List.take_length_add_append, List.drop_length_add_append]
    simp
  rw [List.length_singleton, e] at this
  rw [Nat.add_assoc]
  exact this
theorem nums_get (m : List Int) (k : Nat) (h : k < m.length) : (nums m)[k]? = some (.int .u16 (m.getD k 0)) := by
  rw [List.getD_eq_getElem?_getD, List.getElem?_eq_getElem h]
  simp [nums, h]
theorem or_add (b : Int) (d : Nat) (h0 : 0 ≤ b) (h1 : b < 2 ^ d) (hd : d < 16) : bits BinOp.or IntKind.u16 b (2 ^ d) = b + 2 ^ d := by
  have h2 : (2 : Int) ^ d ≤ 2 ^ 15 := pow2_le (by omega)
  have h15 : (2 : Int) ^ 15 = 32768 := by decide
  obtain ⟨n, rfl⟩ := Int.eq_ofNat_of_zero_le h0
  have e : (2 : Int) ^ d = ((2 ^ d : Nat) : Int) := by simp
  have hk : ∀ n : Int, 0 ≤ n → n < 2 ^ 16 → IntKind.u16.wrap n = n := fun m a b => by rw [wrap_u16]; omega
  have hn : n < 2 ^ d := by rw [e] at h1; exact Int.ofNat_lt.1 h1
  have hd2 : 2 ^ d < 2 ^ 16 := Nat.pow_lt_pow_right (by decide) hd
  have hj := bits_join .u16 16 (by decide) hk d (2 ^ d) (n : Int) (by omega) (by simp) (by omega) h0 h1 (by omega)
  rw [e] at hj ⊢
  rw [(bits_nat .u16 16 (by decide) hk (2 ^ d) n hd2 (by omega)).2] at hj
  rw [(bits_nat .u16 16 (by decide) hk n (2 ^ d) (by omega) hd2).2, Nat.or_comm, hj, Int.add_comm]
theorem or_val (s p b : Int) (h0 : 0 ≤ b) (h1 : 1 ≤ (s - p) % 65536) (h2 : (s - p) % 65536 ≤ 16) (h3 : b < 2 ^ (((s - p) % 65536).toNat - 1)) :
    bits BinOp.or IntKind.u16 b (2 ^ ((s - p - 1) % 65536).toNat % 65536) = b + 2 ^ (((s - p) % 65536).toNat - 1) := by
  have e : ((s - p - 1) % 65536).toNat = ((s - p) % 65536).toNat - 1 := by omega
  have hd : ((s - p) % 65536).toNat - 1 < 16 := by omega
  rw [e]
  generalize ((s - p) % 65536).toNat - 1 = d at *
  have h4 : (2 : Int) ^ d ≤ 2 ^ 15 := pow2_le (by omega)
  have h5 : (0 : Int) < 2 ^ d := Int.pow_pos (by decide)
  have h15 : (2 : Int) ^ 15 = 32768 := by decide
  rw [Int.emod_eq_of_lt (by omega) (by omega)]
  exact or_add b d h0 h3 hd
theorem at_pair {w : World} {b : Nat} {x y : Value} (h0 : w.cell? ⟨b, 0, none⟩ = some x) (h1 : w.cell? ⟨b, 1, none⟩ = some y) : ∀ j u, [x, y][j]? = some u → w.cell? ⟨b, j, none⟩ = some u := by
  intro j u hj
  match j, hj with
  | 0, hj => simp at hj; subst hj; exact h0
  | 1, hj => simp at hj; subst hj; exact h1
set_option maxRecDepth 100000 in
set_option maxHeartbeats 4000000 in
theorem packR {v : Value} {n : Nat} {m : List Int} {w : World} (h : Has w 1 v n (nums m)) (hl : m.length = n) (hm : fits16 m) (hn : n ≤ 20000000) :
    Calls Try.prog 30 #[v] w fun e w' => ∃ v', e = .returned v' ∧ Line w' w.heap.size 2 v' (pack m).length (prs (pack m)) ∧ Below w.heap.size w w' := by
  have HH := Lib.hid h
  have HL := Lib.hid hl
  have HM := Lib.hid hm
  obtain ⟨ao, cap, rfl, hcap, hcap'⟩ := h.shape
  unfold maxLen at hcap'
  clear h hl hm
  obtain ⟨i0, hi, hz0, hz1, hz2⟩ := info_parts info43
  have HI := And.intro (Lib.hid hi) (And.intro (Lib.hid hz0) (And.intro (Lib.hid hz1) (Lib.hid hz2)))
  clear hi hz0 hz1 hz2
  go_enter Try.func30, Try.ntmps30
  go_wp2
  go_loopw [3, 10] (fun s3 s10 wr => ∃ k : Nat, k ≤ n ∧ s10 = .int .i64 k ∧ Line wr w.heap.size 2 s3 (packTo m k).length (prs (packTo m k)) ∧ Below w.heap.size w wr) (fun _ i _ => n - (intOf i).toNat)
  case atStart => exact ⟨0, by omega, rfl, Line.nil w w.heap.size 2, Below.refl _ _⟩
  case round =>
    obtain ⟨k, hk, rfl, hown, hbel⟩ := hrel
    have hbs := hbel.size
    by_cases hlt : k < n
    · obtain ⟨g, off, rfl, hg, hcell⟩ := HH.out.cell (by omega)
      have hkl : k < m.length := by rw [HL.out]; exact hlt
      have hs := fits_getD HM.out k
      have hget := nums_get m k hkl
      have c0 : wr.cell? ⟨g, off + k, none⟩ = some (.int .u16 (m.getD k 0)) := by rw [hbel.cell (by simpa using hg)]; exact hcell _ _ hget
      have og : Old g wr := ⟨by omega⟩
      have i3 : (k : Int) < (n : Int) := by omega
      have i4 : (0 : Int) ≤ (k : Int) := by omega
      rcases Nat.eq_zero_or_pos k with rfl | h0
      · rw [packTo_zero] at hown
        rw [Nat.add_zero] at c0
        clear i3 i4
        have i3 : (0 : Int) < (n : Int) := by omega
        obtain ⟨ao3, c3, rfl, _, hc3⟩ := hown.shape
        have HO := Lib.hid hown
        unfold maxLen at hc3
        generalize hs0 : m.getD 0 0 = s at c0 hs
        have HS0 := Lib.hid hs0
        clear hget hcell hown hs0
        go_wp2_with (at_builtin; refine wpList_append_line _ rfl _ _ 39 rfl w.heap.size 43 i0 _ 2 4 Try.underlying39 HI.1.out HI.2.1.out HI.2.2.1.out HI.2.2.2.out rfl (by decide) _ _ (0) 1 ([]) [.int .u16 s, .int .u16 0] rfl rfl (HO.out.keep (by repeat (first | with_reducible exact Below.refl _ _ | (with_reducible refine Below.alloc ?_ ?_ _; rotate_left; focus ((try simp) <;> omega)) | (with_reducible refine Below.setCell ?_ ?_ _; rotate_left; focus ((try simp) <;> omega)) | (with_reducible refine below_grow ?_ ?_; rotate_left; focus ((try simp) <;> omega)) | (with_reducible refine below_putB ?_ ?_; rotate_left; focus ((try simp) <;> omega)) | with_reducible refine Below.drew ?_ | with_reducible refine below_drewN ?_ | with_reducible assumption | (with_reducible refine below_step (by assumption) ?_ ?_; rotate_left; focus ((try simp) <;> omega))))) (Src.one rfl (by simp [Value.oneCell']) (at_pair (by simp [go_sem]) (by simp [go_sem]))) (by unfold maxLen; omega) (by omega) (by simp; omega) _ rfl ?_; intro v2 w2 hown2 hgrow2 hat2)
        have hB2 : RowKit.Below w.heap.size w w2 := RowKit.Below.grown (w := wr.alloc _) (by repeat (first | with_reducible exact Below.refl _ _ | (with_reducible refine Below.alloc ?_ ?_ _; rotate_left; focus ((try simp) <;> omega)) | (with_reducible refine Below.setCell ?_ ?_ _; rotate_left; focus ((try simp) <;> omega)) | (with_reducible refine below_grow ?_ ?_; rotate_left; focus ((try simp) <;> omega)) | (with_reducible refine below_putB ?_ ?_; rotate_left; focus ((try simp) <;> omega)) | with_reducible refine Below.drew ?_ | with_reducible refine below_drewN ?_ | with_reducible assumption | (with_reducible refine below_step (by assumption) ?_ ?_; rotate_left; focus ((try simp) <;> omega)))) hgrow2 (by simp; omega) (fun r hr => (HO.out.lt hr).1)
        have HO3 := Lib.hid hown2
        clear hown2 hgrow2 hat2
        go_roundw
        case rel =>
          refine ⟨1, by omega, by go_num, ?_, hB2⟩
          rw [packTo_one, HS0.out]
          exact HO3.out
        case measure => simp [intOf]; omega
      · obtain ⟨init, ⟨p, b⟩, hx⟩ := packTo_last m k h0
        obtain ⟨a1, a2, a3, a4, a5⟩ := packTo_inv HM.out k h0 init (p, b) hx
        have hst := packTo_step hx
        rw [hx] at hown
        have hlen : (init ++ [(p, b)]).length = init.length + 1 := by simp
        rw [hlen] at hown
        obtain ⟨g2, o2, c2, hv2, hg2, hg2', hc2, hc2'⟩ := hown.form (by omega)
        have hpl := packTo_len m k
        rw [hx, hlen] at hpl
        subst hv2
        have e0 := hown.cell (j := init.length * 2) (u := .int .u16 p) (by rw [prs_snoc, ← prs_len init]; simp)
        have e1 := hown.cell (j := init.length * 2 + 1) (u := .int .u16 b) (by rw [prs_snoc, ← prs_len init]; simp)
        have e2 := (hown.free (j := init.length * 2 + 1) (by omega)).2
        rw [← Nat.add_assoc] at e1 e2
        have hq := fits_getD HM.out (k - 1)
        have hget1 := nums_get m (k - 1) (by omega)
        have c1 : wr.cell? ⟨g, off + (k - 1), none⟩ = some (.int .u16 (m.getD (k - 1) 0)) := by rw [hbel.cell (by simpa using hg)]; exact hcell _ _ hget1
        have og2 : Old g2 wr := ⟨hg2'⟩
        dsimp only at a1 a2 a3 a4 a5 hst
        generalize m.getD k 0 = s at c0 hs hst
        generalize m.getD (k - 1) 0 = q at c1 hq hst a3 a5
        have HO := Lib.hid hown
        have i5 : (0 : Int) < (k : Int) := by omega
        unfold maxLen at hc2'
        clear hget hget1 hcell hown hlen
        by_cases hA : 0 < d16 s q
        · by_cases hd : 1 ≤ (s - p) % 65536 ∧ (s - p) % 65536 ≤ 16
          · have hj : joins p q s = true := by simp [joins, hA, hd.1, hd.2]
            rw [if_pos hj] at hst
            have HS := Lib.hid hst
            have HX := Lib.hid hx
            obtain ⟨hd1, hd2⟩ := hd
            clear hj hst hx
            go_wp2_with (go_at_call 22; refine (ahead16 _ _ _).mono ?_; rintro e w' ⟨rfl, rfl⟩)
            have hb : b < 2 ^ (((s - p) % 65536).toNat - 1) := by
              unfold d16 at hA
              exact Int.lt_of_lt_of_le a5 (pow2_le (by omega))
            have hv := or_val s p b a4 hd1 hd2 hb
            go_roundw
            case rel =>
              refine ⟨k + 1, by omega, by go_num, ?_, hbel.setCell (by omega) _⟩
              rw [HS.out, hv, show (init ++ [(p, b + 2 ^ (((s - p) % 65536).toNat - 1))]).length = init.length + 1 from by simp]
              exact line_turn HO.out
            case measure => simp [intOf]; omega
          · have hj : joins p q s = false := by
              unfold joins
              rcases (show ¬ 1 ≤ (s - p) % 65536 ∨ ¬ (s - p) % 65536 ≤ 16 by omega) with h | h <;> simp [h]
            rw [if_neg (by rw [hj]; simp)] at hst
            have HS := Lib.hid hst
            have HX := Lib.hid hx
            have hd' : (s - p) % 65536 < 1 ∨ (1 ≤ (s - p) % 65536 ∧ 16 < (s - p) % 65536) := by omega
            clear hj hst hx hd
            rcases hd' with hd | ⟨hd, hd2⟩
            all_goals go_wp2_with (first | (go_at_call 22; refine (ahead16 _ _ _).mono ?_; rintro e w' ⟨rfl, rfl⟩) | (at_builtin; refine wpList_append_line _ rfl _ _ 39 rfl w.heap.size 43 i0 _ 2 4 Try.underlying39 HI.1.out HI.2.1.out HI.2.2.1.out HI.2.2.2.out rfl (by decide) _ _ (init.length + 1) 1 (prs (init ++ [(p, b)])) [.int .u16 s, .int .u16 0] rfl rfl (HO.out.keep (by repeat (first | with_reducible exact Below.refl _ _ | (with_reducible refine Below.alloc ?_ ?_ _; rotate_left; focus ((try simp) <;> omega)) | (with_reducible refine Below.setCell ?_ ?_ _; rotate_left; focus ((try simp) <;> omega)) | (with_reducible refine below_grow ?_ ?_; rotate_left; focus ((try simp) <;> omega)) | (with_reducible refine below_putB ?_ ?_; rotate_left; focus ((try simp) <;> omega)) | with_reducible refine Below.drew ?_ | with_reducible refine below_drewN ?_ | with_reducible assumption | (with_reducible refine below_step (by assumption) ?_ ?_; rotate_left; focus ((try simp) <;> omega))))) (Src.one rfl (by simp [Value.oneCell']) (at_pair (by simp [go_sem]) (by simp [go_sem]))) (by unfold maxLen; omega) (by omega) (by simp; omega) _ rfl ?_; intro v2 w2 hown2 hgrow2 hat2))
            all_goals
              have hB2 : RowKit.Below w.heap.size w w2 := RowKit.Below.grown (w := wr.alloc _) (by repeat (first | with_reducible exact Below.refl _ _ | (with_reducible refine Below.alloc ?_ ?_ _; rotate_left; focus ((try simp) <;> omega)) | (with_reducible refine Below.setCell ?_ ?_ _; rotate_left; focus ((try simp) <;> omega)) | (with_reducible refine below_grow ?_ ?_; rotate_left; focus ((try simp) <;> omega)) | (with_reducible refine below_putB ?_ ?_; rotate_left; focus ((try simp) <;> omega)) | with_reducible refine Below.drew ?_ | with_reducible refine below_drewN ?_ | with_reducible assumption | (with_reducible refine below_step (by assumption) ?_ ?_; rotate_left; focus ((try simp) <;> omega)))) hgrow2 (by simp; omega) (fun r hr => (HO.out.lt hr).1)
              have HO3 := Lib.hid hown2
              clear hown2 hgrow2 hat2
              go_roundw
              case rel =>
                refine ⟨k + 1, by omega, by go_num, ?_, hB2⟩
                rw [HS.out]
                have h := HO3.out
                rw [← prs_snoc _ (_, _)] at h
                have e : (init ++ [(p, b)] ++ [(s, 0)]).length = init.length + 1 + 1 := by simp
                rw [e]
                exact h
              case measure => simp [intOf]; omega
        · have hj : joins p q s = false := by
            unfold joins
            simp [hA]
          rw [if_neg (by rw [hj]; simp)] at hst
          have HS := Lib.hid hst
          have HX := Lib.hid hx
          clear hj hst hx
          go_wp2_with (first | (go_at_call 22; refine (ahead16 _ _ _).mono ?_; rintro e w' ⟨rfl, rfl⟩) | (at_builtin; refine wpList_append_line _ rfl _ _ 39 rfl w.heap.size 43 i0 _ 2 4 Try.underlying39 HI.1.out HI.2.1.out HI.2.2.1.out HI.2.2.2.out rfl (by decide) _ _ (init.length + 1) 1 (prs (init ++ [(p, b)])) [.int .u16 s, .int .u16 0] rfl rfl (HO.out.keep (by repeat (first | with_reducible exact Below.refl _ _ | (with_reducible refine Below.alloc ?_ ?_ _; rotate_left; focus ((try simp) <;> omega)) | (with_reducible refine Below.setCell ?_ ?_ _; rotate_left; focus ((try simp) <;> omega)) | (with_reducible refine below_grow ?_ ?_; rotate_left; focus ((try simp) <;> omega)) | (with_reducible refine below_putB ?_ ?_; rotate_left; focus ((try simp) <;> omega)) | with_reducible refine Below.drew ?_ | with_reducible refine below_drewN ?_ | with_reducible assumption | (with_reducible refine below_step (by assumption) ?_ ?_; rotate_left; focus ((try simp) <;> omega))))) (Src.one rfl (by simp [Value.oneCell']) (at_pair (by simp [go_sem]) (by simp [go_sem]))) (by unfold maxLen; omega) (by omega) (by simp; omega) _ rfl ?_; intro v2 w2 hown2 hgrow2 hat2))
          have hB2 : RowKit.Below w.heap.size w w2 := RowKit.Below.grown (w := wr.alloc _) (by repeat (first | with_reducible exact Below.refl _ _ | (with_reducible refine Below.alloc ?_ ?_ _; rotate_left; focus ((try simp) <;> omega)) | (with_reducible refine Below.setCell ?_ ?_ _; rotate_left; focus ((try simp) <;> omega)) | (with_reducible refine below_grow ?_ ?_; rotate_left; focus ((try simp) <;> omega)) | (with_reducible refine below_putB ?_ ?_; rotate_left; focus ((try simp) <;> omega)) | with_reducible refine Below.drew ?_ | with_reducible refine below_drewN ?_ | with_reducible assumption | (with_reducible refine below_step (by assumption) ?_ ?_; rotate_left; focus ((try simp) <;> omega)))) hgrow2 (by simp; omega) (fun r hr => (HO.out.lt hr).1)
          have HO3 := Lib.hid hown2
          clear hown2 hgrow2 hat2
          go_roundw
          case rel =>
            refine ⟨k + 1, by omega, by go_num, ?_, hB2⟩
            rw [HS.out]
            have h := HO3.out
            rw [← prs_snoc _ (_, _)] at h
            have e : (init ++ [(p, b)] ++ [(s, 0)]).length = init.length + 1 + 1 := by simp
            rw [e]
            exact h
          case measure => simp [intOf]; omega
    · obtain rfl : k = n := by omega
      have e : packTo m k = pack m := by unfold pack; rw [HL.out]
      rw [e] at hown
      go_wp2_with fail
      refine ret_any ⟨_, by simp [results, Try.results30, go_sem, *]; rfl, ?_⟩ rfl
      exact ⟨_, rfl, hown, hbel⟩
end Go.Proofs.Ytoefekojjagjdaa
