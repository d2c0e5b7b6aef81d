/-
  Of and the reference's Resend, by their contracts: what Find finds of the numbers that Expand tells, in order, and how many it does not find. No condition but that the entries and the pairs are not too many.
-/
import Derived.Test.YtoefekojjagjdaaFind
import Derived.Test.YtoefekojjagjdaaNumbers
namespace Go.Proofs.Ytoefekojjagjdaa
open Go.RowKit Go.Sort Go.BigFrame
set_option linter.unusedVariables false
attribute [local go_sem ↓] Go.wp_at_zero Go.wp_at_succ
theorem info59 : (Try.prog.info? 59).map (fun i => (i.zero, i.size, i.bytes)) = some (some (.agg #[.int .u16 0, .int .i64 0, .int .u32 0, .int .u16 0, .int .u32 0, .int .u32 0, .int .u16 0]), 7, 40) := by kernel_rfl
/-- What is found of the numbers. -/
def ofL (l : List Ent) (E : List Int) : List Ent := E.filterMap (findE l)
theorem ofL_snoc (l : List Ent) (E : List Int) (k : Nat) (h : k < E.length) : ofL l (E.take (k + 1)) = ofL l (E.take k) ++ (findE l (E.getD k 0)).toList := by
  have e : E.take (k + 1) = E.take k ++ [E.getD k 0] := by
    rw [List.take_succ_eq_append_getElem h, List.getD_eq_getElem?_getD, List.getElem?_eq_getElem h]; rfl
  rw [e]
  unfold ofL
  rw [List.filterMap_append]
  generalize E.getD k 0 = s
  cases h : findE l s <;> simp [h]
theorem blk_at {w : World} {b : Nat} {cs : Array Value} {t : TypeId} (h : BlkIs w b cs t) : ∀ j u, cs.toList[j]? = some u → w.cell? ⟨b, j, none⟩ = some u := by
  intro j u hj
  rw [cell_blk (w := w) (b := b)]
  simpa using hj
theorem ofL_len (l : List Ent) (E : List Int) : (ofL l E).length ≤ E.length := List.length_filterMap_le _ _

set_option maxRecDepth 100000 in
set_option maxHeartbeats 8000000 in
theorem ofR {v pv : Value} {n pn : Nat} {l : List Ent} {ps : List (Int × Int)} {w : World} (h : Has w 7 v n (ents l)) (hl : l.length = n) (hn : n ≤ 100000000) (hp : Has w 2 pv pn (prs ps)) (hpl : ps.length = pn) (hf : fitsP ps) (hpn : pn ≤ 4000000) :
    Calls Try.prog 35 #[v, pv] w fun e w' => ∃ v', e = .returned (.tuple #[v', .int .i64 (((expand ps).length : Int) - (ofL l (expand ps)).length)]) ∧ Line w' w.heap.size 7 v' (ofL l (expand ps)).length (ents (ofL l (expand ps))) ∧ Below w.heap.size w w' := by
  have kx := fun (w' : World) (k : Below w.heap.size w w') => expandR (hp.keep k) hpl hf hpn
  have kf := fun (w' : World) (s : Int) (k : Below w.heap.size w w') => findR (s := s) (h.keep k) hl hn
  have hel : (expand ps).length ≤ 17 * pn := by rw [← hpl]; exact expand_len ps
  obtain ⟨E, hE⟩ : ∃ E, E = expand ps := ⟨_, rfl⟩
  rw [← hE] at kx hel ⊢
  obtain ⟨N, hN⟩ : ∃ N, N = E.length := ⟨_, rfl⟩
  rw [← hN] at kx hel ⊢
  have KX := Lib.hid kx
  have KF := Lib.hid kf
  have HN := Lib.hid hN
  have hN2 : N ≤ 68000000 := by omega
  clear kx kf h hl hn hp hpl hf hE hel hN hpn
  obtain ⟨i0, hi, hz0, hz1, hz2⟩ := info_parts info59
  have HI := And.intro (Lib.hid hi) (And.intro (Lib.hid hz0) (And.intro (Lib.hid hz1) (Lib.hid hz2)))
  clear hi hz0 hz1 hz2
  go_enter Try.func35, Try.ntmps35
  go_wp2_with fail
  refine (KX.out _ (by repeat (first | with_reducible exact Below.refl _ _ | (with_reducible refine Below.alloc ?_ ?_ _; rotate_left; focus ((try simp) <;> omega)) | (with_reducible refine Below.setCell ?_ ?_ _; rotate_left; focus ((try simp) <;> omega)) | (with_reducible refine below_grow ?_ ?_; rotate_left; focus ((try simp) <;> omega)) | (with_reducible refine below_putB ?_ ?_; rotate_left; focus ((try simp) <;> omega)) | with_reducible refine Below.drew ?_ | with_reducible refine below_drewN ?_ | with_reducible assumption | (with_reducible refine below_step (by assumption) ?_ ?_; rotate_left; focus ((try simp) <;> omega))))).mono ?_; rintro e w2 ⟨v2, rfl, hL2, hb2⟩
  have B2 : RowKit.Below w.heap.size w w2 := (by repeat (first | with_reducible exact Below.refl _ _ | (with_reducible refine Below.alloc ?_ ?_ _; rotate_left; focus ((try simp) <;> omega)) | (with_reducible refine Below.setCell ?_ ?_ _; rotate_left; focus ((try simp) <;> omega)) | (with_reducible refine below_grow ?_ ?_; rotate_left; focus ((try simp) <;> omega)) | (with_reducible refine below_putB ?_ ?_; rotate_left; focus ((try simp) <;> omega)) | with_reducible refine Below.drew ?_ | with_reducible refine below_drewN ?_ | with_reducible assumption | (with_reducible refine below_step (by assumption) ?_ ?_; rotate_left; focus ((try simp) <;> omega))))
  have B2s := B2.size
  have X2 := Lib.hid (Has.of_line hL2)
  obtain ⟨a2, c2, rfl, _, _⟩ := X2.out.shape
  clear hL2 hb2
  go_wp2_with fail
  go_loopw [6, 7, 15] (fun s6 s7 s15 wr => ∃ k : Nat, k ≤ N ∧ s15 = .int .i64 k ∧ s7 = .int .i64 ((k : Int) - (ofL l (E.take k)).length) ∧ Line wr w2.heap.size 7 s6 (ofL l (E.take k)).length (ents (ofL l (E.take k))) ∧ Below w2.heap.size w2 wr) (fun _ _ i _ => N - (intOf i).toNat)
  case atStart => exact ⟨0, by omega, rfl, by simp [ofL], by simpa [ofL, ents] using Line.nil w2 w2.heap.size 7, Below.refl _ _⟩
  case round =>
    obtain ⟨k, hk, rfl, rfl, hown, hbel⟩ := hrel
    have hbs := hbel.size
    have hol : (ofL l (E.take k)).length ≤ k := Nat.le_trans (ofL_len l (E.take k)) (by simp; omega)
    by_cases hlt : k < N
    · obtain ⟨g, off, c, ev, hg, hcell⟩ := has_cell1 X2.out HN.out.symm k hlt
      simp only [Value.slice.injEq, true_and] at ev
      obtain ⟨rfl, rfl⟩ := ev
      rw [← hbel.cell (by simpa using hg)] at hcell
      have hst := ofL_snoc l E k (by rw [← HN.out]; exact hlt)
      obtain ⟨s, hs⟩ : ∃ s, s = E.getD k 0 := ⟨_, rfl⟩
      rw [← hs] at hcell hst
      obtain ⟨O, hO⟩ : ∃ O, O = ofL l (E.take k) := ⟨_, rfl⟩
      rw [← hO] at hown hst hol ⊢
      obtain ⟨M, hM⟩ : ∃ M, M = O.length := ⟨_, rfl⟩
      rw [← hM] at hown hol ⊢
      have HM := Lib.hid hM
      have HO := Lib.hid hown
      have og : Old g wr := ⟨by omega⟩
      have i3 : (k : Int) < (N : Int) := by omega
      have i4 : (0 : Int) ≤ (k : Int) := by omega
      clear hs hO hM hown
      have kf := KF.out wr s (B2.trans (hbel.mono B2s))
      unfold findV at kf
      cases hfe : findE l s with
      | none =>
        rw [hfe] at kf hst
        have KF2 := Lib.hid kf
        clear kf hfe
        go_wp2_with fail
        refine KF2.out.mono ?_; rintro e w4 ⟨rfl, hb4⟩; have ha4 : After _ w4 := ⟨hb4⟩; obtain ⟨hc4, hf4⟩ := after hb4
        have hb4s := hb4.size
        simp only [Option.getD_none, Option.isSome_none, entC, e0]
        go_wp2_with fail
        go_roundw
        case rel =>
          rw [Option.toList_none, List.append_nil] at hst
          refine ⟨k + 1, by omega, by go_num, ?_, ?_, (by repeat (first | with_reducible exact Below.refl _ _ | (with_reducible refine Below.alloc ?_ ?_ _; rotate_left; focus ((try simp) <;> omega)) | (with_reducible refine Below.setCell ?_ ?_ _; rotate_left; focus ((try simp) <;> omega)) | (with_reducible refine below_grow ?_ ?_; rotate_left; focus ((try simp) <;> omega)) | (with_reducible refine below_putB ?_ ?_; rotate_left; focus ((try simp) <;> omega)) | with_reducible refine Below.drew ?_ | with_reducible refine below_drewN ?_ | with_reducible assumption | (with_reducible refine below_step (by assumption) ?_ ?_; rotate_left; focus ((try simp) <;> omega))))⟩
          · rw [hst, ← HM.out]; congr 1; omega
          · rw [hst, ← HM.out]; exact HO.out.keep (by repeat (first | with_reducible exact Below.refl _ _ | (with_reducible refine Below.alloc ?_ ?_ _; rotate_left; focus ((try simp) <;> omega)) | (with_reducible refine Below.setCell ?_ ?_ _; rotate_left; focus ((try simp) <;> omega)) | (with_reducible refine below_grow ?_ ?_; rotate_left; focus ((try simp) <;> omega)) | (with_reducible refine below_putB ?_ ?_; rotate_left; focus ((try simp) <;> omega)) | with_reducible refine Below.drew ?_ | with_reducible refine below_drewN ?_ | with_reducible assumption | (with_reducible refine below_step (by assumption) ?_ ?_; rotate_left; focus ((try simp) <;> omega))))
        case measure => simp [intOf]; omega
      | some x =>
        obtain ⟨x0, x1, x2, x3, x4, x5, x6⟩ := x
        rw [hfe] at kf hst
        have KF2 := Lib.hid kf
        have HST := Lib.hid hst
        clear kf hfe hst
        go_wp2_with fail
        refine KF2.out.mono ?_; rintro e w4 ⟨rfl, hb4⟩; have ha4 : After _ w4 := ⟨hb4⟩; obtain ⟨hc4, hf4⟩ := after hb4
        have hb4s := hb4.size
        simp only [Option.getD_some, Option.isSome_some, entC]
        go_wp2_with (first | (at_builtin; refine wpList_append_line _ rfl _ _ 48 rfl w2.heap.size 59 i0 _ 7 40 Try.underlying48 HI.1.out HI.2.1.out HI.2.2.1.out HI.2.2.2.out rfl (by decide) _ _ M 1 (ents O) [.int .u16 x0, .int .i64 x1, .int .u32 x2, .int .u16 x3, .int .u32 x4, .int .u32 x5, .int .u16 x6] rfl rfl (HO.out.keep (by repeat (first | with_reducible exact Below.refl _ _ | (with_reducible refine Below.alloc ?_ ?_ _; rotate_left; focus ((try simp) <;> omega)) | (with_reducible refine Below.setCell ?_ ?_ _; rotate_left; focus ((try simp) <;> omega)) | (with_reducible refine below_grow ?_ ?_; rotate_left; focus ((try simp) <;> omega)) | (with_reducible refine below_putB ?_ ?_; rotate_left; focus ((try simp) <;> omega)) | with_reducible refine Below.drew ?_ | with_reducible refine below_drewN ?_ | with_reducible assumption | (with_reducible refine below_step (by assumption) ?_ ?_; rotate_left; focus ((try simp) <;> omega))))) (Src.one rfl (by simp [Value.oneCell']) (blk_at (cs := #[.int .u16 x0, .int .i64 x1, .int .u32 x2, .int .u16 x3, .int .u32 x4, .int .u32 x5, .int .u16 x6]) (t := 59) (by infer_instance))) (by unfold maxLen; omega) (by omega) (by first | omega | (simp; omega)) _ rfl ?_; intro v5 w5 hown5 hgrow5 hat5))
        have hB5 : RowKit.Below w2.heap.size w2 w5 := RowKit.Below.grown (w := _) (by repeat (first | with_reducible exact Below.refl _ _ | (with_reducible refine Below.alloc ?_ ?_ _; rotate_left; focus ((try simp) <;> omega)) | (with_reducible refine Below.setCell ?_ ?_ _; rotate_left; focus ((try simp) <;> omega)) | (with_reducible refine below_grow ?_ ?_; rotate_left; focus ((try simp) <;> omega)) | (with_reducible refine below_putB ?_ ?_; rotate_left; focus ((try simp) <;> omega)) | with_reducible refine Below.drew ?_ | with_reducible refine below_drewN ?_ | with_reducible assumption | (with_reducible refine below_step (by assumption) ?_ ?_; rotate_left; focus ((try simp) <;> omega)))) hgrow5 (by simp; omega) (fun r hr => (HO.out.lt hr).1)
        have HO5 := Lib.hid hown5
        clear hown5 hgrow5 hat5
        go_roundw
        case rel =>
          have e1 : ofL l (E.take (k + 1)) = O ++ [(x0, x1, x2, x3, x4, x5, x6)] := HST.out
          have e2 : (O ++ [(x0, x1, x2, x3, x4, x5, x6)]).length = M + 1 := by rw [HM.out]; simp
          refine ⟨k + 1, by omega, by go_num, ?_, ?_, hB5⟩
          · rw [e1, e2]; congr 1; omega
          · rw [e1, e2, ents_snoc]; exact HO5.out
        case measure => simp [intOf]; omega
    · obtain rfl : k = N := by omega
      have ht : E.take k = E := List.take_of_length_le (by rw [← HN.out]; exact Nat.le_refl _)
      rw [ht] at hown ⊢
      clear ht
      have HO := Lib.hid hown
      clear hown
      go_wp2_with fail
      refine ret_any ⟨_, by simp [results, Try.results35, go_sem, *]; rfl, ?_⟩ rfl
      exact ⟨_, rfl, HO.out.weak B2s, B2.trans (hbel.mono B2s)⟩
set_option maxRecDepth 100000 in
set_option maxHeartbeats 8000000 in
theorem refOfR {v pv : Value} {n pn : Nat} {l : List Ent} {ps : List (Int × Int)} {w : World} (h : Has w 7 v n (ents l)) (hl : l.length = n) (hn : n ≤ 100000000) (hp : Has w 2 pv pn (prs ps)) (hpl : ps.length = pn) (hf : fitsP ps) (hpn : pn ≤ 4000000) :
    Calls Try.prog 36 #[v, pv] w fun e w' => ∃ v', e = .returned (.tuple #[v', .int .i64 (((expand ps).length : Int) - (ofL l (expand ps)).length)]) ∧ Line w' w.heap.size 7 v' (ofL l (expand ps)).length (ents (ofL l (expand ps))) ∧ Below w.heap.size w w' := by
  have kx := fun (w' : World) (k : Below w.heap.size w w') => refExpandR (hp.keep k) hpl hf hpn
  have kf := fun (w' : World) (s : Int) (k : Below w.heap.size w w') => refFindR (s := s) (h.keep k) hl hn
  have hel : (expand ps).length ≤ 17 * pn := by rw [← hpl]; exact expand_len ps
  obtain ⟨E, hE⟩ : ∃ E, E = expand ps := ⟨_, rfl⟩
  rw [← hE] at kx hel ⊢
  obtain ⟨N, hN⟩ : ∃ N, N = E.length := ⟨_, rfl⟩
  rw [← hN] at kx hel ⊢
  have KX := Lib.hid kx
  have KF := Lib.hid kf
  have HN := Lib.hid hN
  have hN2 : N ≤ 68000000 := by omega
  clear kx kf h hl hn hp hpl hf hE hel hN hpn
  obtain ⟨i0, hi, hz0, hz1, hz2⟩ := info_parts info59
  have HI := And.intro (Lib.hid hi) (And.intro (Lib.hid hz0) (And.intro (Lib.hid hz1) (Lib.hid hz2)))
  clear hi hz0 hz1 hz2
  go_enter Try.func36, Try.ntmps36
  go_wp2_with fail
  refine (KX.out _ (by repeat (first | with_reducible exact Below.refl _ _ | (with_reducible refine Below.alloc ?_ ?_ _; rotate_left; focus ((try simp) <;> omega)) | (with_reducible refine Below.setCell ?_ ?_ _; rotate_left; focus ((try simp) <;> omega)) | (with_reducible refine below_grow ?_ ?_; rotate_left; focus ((try simp) <;> omega)) | (with_reducible refine below_putB ?_ ?_; rotate_left; focus ((try simp) <;> omega)) | with_reducible refine Below.drew ?_ | with_reducible refine below_drewN ?_ | with_reducible assumption | (with_reducible refine below_step (by assumption) ?_ ?_; rotate_left; focus ((try simp) <;> omega))))).mono ?_; rintro e w2 ⟨v2, rfl, hL2, hb2⟩
  have B2 : RowKit.Below w.heap.size w w2 := (by repeat (first | with_reducible exact Below.refl _ _ | (with_reducible refine Below.alloc ?_ ?_ _; rotate_left; focus ((try simp) <;> omega)) | (with_reducible refine Below.setCell ?_ ?_ _; rotate_left; focus ((try simp) <;> omega)) | (with_reducible refine below_grow ?_ ?_; rotate_left; focus ((try simp) <;> omega)) | (with_reducible refine below_putB ?_ ?_; rotate_left; focus ((try simp) <;> omega)) | with_reducible refine Below.drew ?_ | with_reducible refine below_drewN ?_ | with_reducible assumption | (with_reducible refine below_step (by assumption) ?_ ?_; rotate_left; focus ((try simp) <;> omega))))
  have B2s := B2.size
  have X2 := Lib.hid (Has.of_line hL2)
  obtain ⟨a2, c2, rfl, _, _⟩ := X2.out.shape
  clear hL2 hb2
  go_wp2_with fail
  go_loopw [6, 7, 15] (fun s6 s7 s15 wr => ∃ k : Nat, k ≤ N ∧ s15 = .int .i64 k ∧ s7 = .int .i64 ((k : Int) - (ofL l (E.take k)).length) ∧ Line wr w2.heap.size 7 s6 (ofL l (E.take k)).length (ents (ofL l (E.take k))) ∧ Below w2.heap.size w2 wr) (fun _ _ i _ => N - (intOf i).toNat)
  case atStart => exact ⟨0, by omega, rfl, by simp [ofL], by simpa [ofL, ents] using Line.nil w2 w2.heap.size 7, Below.refl _ _⟩
  case round =>
    obtain ⟨k, hk, rfl, rfl, hown, hbel⟩ := hrel
    have hbs := hbel.size
    have hol : (ofL l (E.take k)).length ≤ k := Nat.le_trans (ofL_len l (E.take k)) (by simp; omega)
    by_cases hlt : k < N
    · obtain ⟨g, off, c, ev, hg, hcell⟩ := has_cell1 X2.out HN.out.symm k hlt
      simp only [Value.slice.injEq, true_and] at ev
      obtain ⟨rfl, rfl⟩ := ev
      rw [← hbel.cell (by simpa using hg)] at hcell
      have hst := ofL_snoc l E k (by rw [← HN.out]; exact hlt)
      obtain ⟨s, hs⟩ : ∃ s, s = E.getD k 0 := ⟨_, rfl⟩
      rw [← hs] at hcell hst
      obtain ⟨O, hO⟩ : ∃ O, O = ofL l (E.take k) := ⟨_, rfl⟩
      rw [← hO] at hown hst hol ⊢
      obtain ⟨M, hM⟩ : ∃ M, M = O.length := ⟨_, rfl⟩
      rw [← hM] at hown hol ⊢
      have HM := Lib.hid hM
      have HO := Lib.hid hown
      have og : Old g wr := ⟨by omega⟩
      have i3 : (k : Int) < (N : Int) := by omega
      have i4 : (0 : Int) ≤ (k : Int) := by omega
      clear hs hO hM hown
      have kf := KF.out wr s (B2.trans (hbel.mono B2s))
      unfold findV at kf
      cases hfe : findE l s with
      | none =>
        rw [hfe] at kf hst
        have KF2 := Lib.hid kf
        clear kf hfe
        go_wp2_with fail
        refine KF2.out.mono ?_; rintro e w4 ⟨rfl, hb4⟩; have ha4 : After _ w4 := ⟨hb4⟩; obtain ⟨hc4, hf4⟩ := after hb4
        have hb4s := hb4.size
        simp only [Option.getD_none, Option.isSome_none, entC, e0]
        go_wp2_with fail
        go_roundw
        case rel =>
          rw [Option.toList_none, List.append_nil] at hst
          refine ⟨k + 1, by omega, by go_num, ?_, ?_, (by repeat (first | with_reducible exact Below.refl _ _ | (with_reducible refine Below.alloc ?_ ?_ _; rotate_left; focus ((try simp) <;> omega)) | (with_reducible refine Below.setCell ?_ ?_ _; rotate_left; focus ((try simp) <;> omega)) | (with_reducible refine below_grow ?_ ?_; rotate_left; focus ((try simp) <;> omega)) | (with_reducible refine below_putB ?_ ?_; rotate_left; focus ((try simp) <;> omega)) | with_reducible refine Below.drew ?_ | with_reducible refine below_drewN ?_ | with_reducible assumption | (with_reducible refine below_step (by assumption) ?_ ?_; rotate_left; focus ((try simp) <;> omega))))⟩
          · rw [hst, ← HM.out]; congr 1; omega
          · rw [hst, ← HM.out]; exact HO.out.keep (by repeat (first | with_reducible exact Below.refl _ _ | (with_reducible refine Below.alloc ?_ ?_ _; rotate_left; focus ((try simp) <;> omega)) | (with_reducible refine Below.setCell ?_ ?_ _; rotate_left; focus ((try simp) <;> omega)) | (with_reducible refine below_grow ?_ ?_; rotate_left; focus ((try simp) <;> omega)) | (with_reducible refine below_putB ?_ ?_; rotate_left; focus ((try simp) <;> omega)) | with_reducible refine Below.drew ?_ | with_reducible refine below_drewN ?_ | with_reducible assumption | (with_reducible refine below_step (by assumption) ?_ ?_; rotate_left; focus ((try simp) <;> omega))))
        case measure => simp [intOf]; omega
      | some x =>
        obtain ⟨x0, x1, x2, x3, x4, x5, x6⟩ := x
        rw [hfe] at kf hst
        have KF2 := Lib.hid kf
        have HST := Lib.hid hst
        clear kf hfe hst
        go_wp2_with fail
        refine KF2.out.mono ?_; rintro e w4 ⟨rfl, hb4⟩; have ha4 : After _ w4 := ⟨hb4⟩; obtain ⟨hc4, hf4⟩ := after hb4
        have hb4s := hb4.size
        simp only [Option.getD_some, Option.isSome_some, entC]
        go_wp2_with (first | (at_builtin; refine wpList_append_line _ rfl _ _ 48 rfl w2.heap.size 59 i0 _ 7 40 Try.underlying48 HI.1.out HI.2.1.out HI.2.2.1.out HI.2.2.2.out rfl (by decide) _ _ M 1 (ents O) [.int .u16 x0, .int .i64 x1, .int .u32 x2, .int .u16 x3, .int .u32 x4, .int .u32 x5, .int .u16 x6] rfl rfl (HO.out.keep (by repeat (first | with_reducible exact Below.refl _ _ | (with_reducible refine Below.alloc ?_ ?_ _; rotate_left; focus ((try simp) <;> omega)) | (with_reducible refine Below.setCell ?_ ?_ _; rotate_left; focus ((try simp) <;> omega)) | (with_reducible refine below_grow ?_ ?_; rotate_left; focus ((try simp) <;> omega)) | (with_reducible refine below_putB ?_ ?_; rotate_left; focus ((try simp) <;> omega)) | with_reducible refine Below.drew ?_ | with_reducible refine below_drewN ?_ | with_reducible assumption | (with_reducible refine below_step (by assumption) ?_ ?_; rotate_left; focus ((try simp) <;> omega))))) (Src.one rfl (by simp [Value.oneCell']) (blk_at (cs := #[.int .u16 x0, .int .i64 x1, .int .u32 x2, .int .u16 x3, .int .u32 x4, .int .u32 x5, .int .u16 x6]) (t := 59) (by infer_instance))) (by unfold maxLen; omega) (by omega) (by first | omega | (simp; omega)) _ rfl ?_; intro v5 w5 hown5 hgrow5 hat5))
        have hB5 : RowKit.Below w2.heap.size w2 w5 := RowKit.Below.grown (w := _) (by repeat (first | with_reducible exact Below.refl _ _ | (with_reducible refine Below.alloc ?_ ?_ _; rotate_left; focus ((try simp) <;> omega)) | (with_reducible refine Below.setCell ?_ ?_ _; rotate_left; focus ((try simp) <;> omega)) | (with_reducible refine below_grow ?_ ?_; rotate_left; focus ((try simp) <;> omega)) | (with_reducible refine below_putB ?_ ?_; rotate_left; focus ((try simp) <;> omega)) | with_reducible refine Below.drew ?_ | with_reducible refine below_drewN ?_ | with_reducible assumption | (with_reducible refine below_step (by assumption) ?_ ?_; rotate_left; focus ((try simp) <;> omega)))) hgrow5 (by simp; omega) (fun r hr => (HO.out.lt hr).1)
        have HO5 := Lib.hid hown5
        clear hown5 hgrow5 hat5
        go_roundw
        case rel =>
          have e1 : ofL l (E.take (k + 1)) = O ++ [(x0, x1, x2, x3, x4, x5, x6)] := HST.out
          have e2 : (O ++ [(x0, x1, x2, x3, x4, x5, x6)]).length = M + 1 := by rw [HM.out]; simp
          refine ⟨k + 1, by omega, by go_num, ?_, ?_, hB5⟩
          · rw [e1, e2]; congr 1; omega
          · rw [e1, e2, ents_snoc]; exact HO5.out
        case measure => simp [intOf]; omega
    · obtain rfl : k = N := by omega
      have ht : E.take k = E := List.take_of_length_le (by rw [← HN.out]; exact Nat.le_refl _)
      rw [ht] at hown ⊢
      clear ht
      have HO := Lib.hid hown
      clear hown
      go_wp2_with fail
      refine ret_any ⟨_, by simp [results, Try.results36, go_sem, *]; rfl, ?_⟩ rfl
      exact ⟨_, rfl, HO.out.weak B2s, B2.trans (hbel.mono B2s)⟩
end Go.Proofs.Ytoefekojjagjdaa
