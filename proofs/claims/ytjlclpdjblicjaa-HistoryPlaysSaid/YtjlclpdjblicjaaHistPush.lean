/-
  Push of a history, by its contract. No condition but that the history is one.
-/
import Derived.Test.YtjlclpdjblicjaaDelete
namespace Go.Proofs.Ytjlclpdjblicjaa
open Go.RowKit Go.Sort Go.BigFrame
set_option linter.unusedVariables false
attribute [local go_sem ↓] Go.wp_at_zero Go.wp_at_succ
theorem BlkIs.grown {w w' : World} {b : Nat} {cs : Array Value} {t : TypeId} {row : Option Nat} (h : BlkIs w b cs t) (hg : w.grownBy w' row) (hne : row ≠ some b) : BlkIs w' b cs t :=
  ⟨by rw [hg.block b h.lt (fun e => hne e.symm)]; exact h.eq⟩
theorem Line.putB {w : World} {base size n b : Nat} {v : Value} {xs : List Value} {cs : Array Value} {t : TypeId} (h : Line w base size v n xs) (hne : v.ownBlock ≠ some b) : Line (putB w b cs t) base size v n xs :=
  h.block (by simp) fun q hq => putB_other (fun e => hne (by rw [hq, e]))
theorem FrameS.putB {S : Nat → Prop} {w w' : World} {b : Nat} {cs : Array Value} {t : TypeId} (h : FrameS S w w') (hb : S b ∨ w.heap.size ≤ b) : FrameS S w (putB w' b cs t) :=
  ⟨h.os, h.tape, h.output, by simpa using h.size, fun k hk hn => by rw [putB_other (fun e => by subst e; rcases hb with h | h; exact hn h; omega)]; exact h.block k hk hn⟩
theorem FrameS.step {S : Nat → Prop} {w w' w'' : World} (h : FrameS S w w') (k : Below w'.heap.size w' w'') : FrameS S w w'' :=
  ⟨k.os.trans h.os, k.tape.trans h.tape, k.output.trans h.output, Nat.le_trans h.size k.size, fun q hq hn => (k.block q (Nat.lt_of_lt_of_le hq h.size)).trans (h.block q hq hn)⟩
theorem FrameS.regrown {S : Nat → Prop} {w w' : World} {d : Nat} {os : Array Obj} (h : FrameS S w w') : FrameS S w (grow (redrawn w' d) os) := h.step (below_regrown w' d os)
theorem FrameS.then' {S T : Nat → Prop} {w w' w'' : World} (h : FrameS S w w') (k : FrameS T w' w'') (ht : ∀ q, T q → S q ∨ w.heap.size ≤ q) : FrameS S w w'' :=
  ⟨k.os.trans h.os, k.tape.trans h.tape, k.output.trans h.output, Nat.le_trans h.size k.size, fun q hq hn => (k.block q (Nat.lt_of_lt_of_le hq h.size) (fun e => by rcases ht q e with h | h; exact hn h; omega)).trans (h.block q hq hn)⟩
theorem BlkIs.frame {S : Nat → Prop} {w w' : World} {b : Nat} {cs : Array Value} {t : TypeId} (h : BlkIs w b cs t) (hf : FrameS S w w') (hn : ¬ S b) : BlkIs w' b cs t :=
  ⟨by rw [hf.block b h.lt hn]; exact h.eq⟩
theorem pushNil18 (e : Ent) (w : World) : Calls Try.prog 30 #[.pointer none, .agg (entC e).toArray] w (Gives (.tuple #[.agg (entC e).toArray, .bool true]) w) := by
  obtain ⟨x0, x1, x2, x3, x4, x5, x6⟩ := e
  simp only [entC]
  go_enter Try.func30, Try.ntmps30
  go_wp2
  refine ret_ct 4 5 54 (by rfl) (by rfl) _ _ (by rfl) (by rfl) (by infer_instance) (by rfl) ?_
  refine gives_of rfl (by repeat (first | with_reducible exact Below.refl _ _ | (with_reducible refine Below.alloc ?_ ?_ _; rotate_left; focus ((try simp) <;> omega)) | (with_reducible refine Below.setCell ?_ ?_ _; rotate_left; focus ((try simp) <;> omega)) | (with_reducible refine below_grow ?_ ?_; rotate_left; focus ((try simp) <;> omega)) | (with_reducible refine below_putB ?_ ?_; rotate_left; focus ((try simp) <;> omega)) | with_reducible refine Below.drew ?_ | with_reducible refine below_drewN ?_ | with_reducible assumption | (with_reducible refine below_step (by assumption) ?_ ?_; rotate_left; focus ((try simp) <;> omega))))
def ent0 : Value := .agg #[.int .u16 0, .int .i64 0, .int .u32 0, .int .u16 0, .int .u32 0, .int .u32 0, .int .u16 0]
set_option maxRecDepth 100000 in
set_option maxHeartbeats 2000000 in
theorem pushIn {B hb m : Nat} {v : Value} {l : List Ent} {e : Ent} {w : World} (h : HistH w B hb v l m) (hlt : l.length < m) (hB : B ≤ w.heap.size) :
    Calls Try.prog 30 #[.pointer (some ⟨hb, 0, none⟩), .agg (entC e).toArray] w fun z w' => z = .returned (.tuple #[ent0, .bool false]) ∧ ∃ v', HistH w' B hb v' (l ++ [e]) m ∧ FrameS (fun k => k = hb ∨ v.ownBlock = some k) w w' ∧ (v'.ownBlock = v.ownBlock ∨ ∃ q, w.heap.size ≤ q ∧ v'.ownBlock = some q) := by
  have ib := h.blk
  have ht := h.top
  have HL := Lib.hid h.line
  have HNE := Lib.hid h.ne
  obtain ⟨n, hn⟩ : ∃ n, n = l.length := ⟨_, rfl⟩
  have HN := Lib.hid hn
  rw [← hn] at hlt
  have hbl := ib.lt
  have ob : Old hb w := ⟨hbl⟩
  obtain ⟨ao, cap, hv, hcap, hcap'⟩ := h.line.shape
  rw [← hn] at hv hcap
  have HV := Lib.hid hv
  rw [hv] at ib
  unfold maxLen at hcap'
  clear h hn hv
  obtain ⟨i0, hi, hz0, hz1, hz2⟩ := info_parts info54
  have HI := And.intro (Lib.hid hi) (And.intro (Lib.hid hz0) (And.intro (Lib.hid hz1) (Lib.hid hz2)))
  clear hi hz0 hz1 hz2
  have i1 : (n : Int) + 1 ≤ (m : Int) := by omega
  have i2 : (m : Int) ≤ 64 := by omega
  have i3 : n + 1 ≤ m := by omega
  obtain ⟨x0, x1, x2, x3, x4, x5, x6⟩ := e
  simp only [entC]
  go_enter Try.func30, Try.ntmps30
  go_wp2
  go_region_law ((refine step_append_line _ (by rfl) _ _ 49 (by rfl) B 54 i0 _ 7 40 Try.underlying49 HI.1.out HI.2.1.out HI.2.2.1.out HI.2.2.2.out rfl (by decide) (.slice ao n cap) _ n 1 (ents l) [.int .u16 x0, .int .i64 x1, .int .u32 x2, .int .u16 x3, .int .u32 x4, .int .u32 x5, .int .u16 x6] (by rfl) (by rfl) (by have h := HL.out; rw [HV.out, ← HN.out] at h; exact h.keep (by repeat (first | with_reducible exact Below.refl _ _ | (with_reducible refine Below.alloc ?_ ?_ _; rotate_left; focus ((try simp) <;> omega)) | (with_reducible refine Below.setCell ?_ ?_ _; rotate_left; focus ((try simp) <;> omega)) | (with_reducible refine below_grow ?_ ?_; rotate_left; focus ((try simp) <;> omega)) | (with_reducible refine below_putB ?_ ?_; rotate_left; focus ((try simp) <;> omega)) | with_reducible refine Below.drew ?_ | with_reducible refine below_drewN ?_ | with_reducible assumption | (with_reducible refine below_step (by assumption) ?_ ?_; rotate_left; focus ((try simp) <;> omega))))) (Src.one rfl (by simp [Value.oneCell']) (blk_at (cs := #[.int .u16 x0, .int .i64 x1, .int .u32 x2, .int .u16 x3, .int .u32 x4, .int .u32 x5, .int .u16 x6]) (t := 54) (by infer_instance))) (by unfold maxLen; omega) (by omega) (by simp; omega) _ rfl ?_; intro v' w5 hown hgrow hat; obtain ⟨ao', cap', rfl, hc5, hc5'⟩ := hown.shape; have b5h : BlkIs w5 hb #[.slice ao n cap, .int .i64 m] 88 := BlkIs.grown (by infer_instance) hgrow (fun e => HNE.out (by rw [HV.out]; exact e)); have hlt5 : ∀ q, (Value.slice ao n cap).ownBlock = some q → q < w.heap.size := fun q hq => (HL.out.lt (q := q) (by rw [HV.out]; exact hq)).2; have b5r : BlkIs w5 (w.heap.size + 1) #[.int .u16 0, .int .i64 0, .int .u32 0, .int .u16 0, .int .u32 0, .int .u32 0, .int .u16 0] 54 := BlkIs.grown (by infer_instance) hgrow (fun e => by have := hlt5 _ e; omega); have F5 := frameS_grown (w := w) hgrow (by exact (by repeat (first | with_reducible exact Below.refl _ _ | (with_reducible refine Below.alloc ?_ ?_ _; rotate_left; focus ((try simp) <;> omega)) | (with_reducible refine Below.setCell ?_ ?_ _; rotate_left; focus ((try simp) <;> omega)) | (with_reducible refine below_grow ?_ ?_; rotate_left; focus ((try simp) <;> omega)) | (with_reducible refine below_putB ?_ ?_; rotate_left; focus ((try simp) <;> omega)) | with_reducible refine Below.drew ?_ | with_reducible refine below_drewN ?_ | with_reducible assumption | (with_reducible refine below_step (by assumption) ?_ ?_; rotate_left; focus ((try simp) <;> omega))))); have hat' := hat_of (B := w.heap.size + 2) hat (by simp); have HO := Lib.hid hown; have HF := Lib.hid F5; have HA := Lib.hid hat'; have HQ := Lib.hid hlt5; clear hown hgrow hat hat' F5 hlt5; unfold maxLen at hc5'))
  all_goals go_wp2
  all_goals
    refine wp_region_quiet_below (by kernel_rfl) (by kernel_rfl) ?_
    repeat (first | go_big_quiet_step (((fail))) | quiet_step (((fail))))
    refine wpQuiet_nil ?_
    intro _ hw'
    obtain ⟨⟨dq, osq⟩, hw''⟩ := hw'
    subst hw''
  all_goals go_wp2
  all_goals refine ret_ct 4 5 54 (by rfl) (by rfl) _ _ (by rfl) (by rfl) (by infer_instance) (by rfl) ?_
  all_goals
    have n1 : (Value.slice ao' (n + 1) cap').ownBlock ≠ some hb := fun e => by
      rcases HA.out with e' | ⟨q, hq, e'⟩
      · exact HNE.out (by rw [HV.out, ← e', e])
      · rw [e] at e'; simp only [Option.some.injEq] at e'; omega
    have n2 : (Value.slice ao' (n + 1) cap').ownBlock ≠ some (w.heap.size + 1) := fun e => by
      rcases HA.out with e' | ⟨q, hq, e'⟩
      · have := HQ.out (w.heap.size + 1) (by rw [← e', e]); omega
      · rw [e] at e'; simp only [Option.some.injEq] at e'; omega
    refine ⟨rfl, _, ⟨by infer_instance, ?_, n1, by rw [List.length_append, ← HN.out]; exact i3, ht⟩, ?_, ?_⟩
    · rw [List.length_append, ← HN.out, ents_snoc]
      exact ((HO.out.putB n1).keep (by repeat (first | with_reducible exact Below.refl _ _ | (with_reducible refine Below.alloc ?_ ?_ _; rotate_left; focus ((try simp) <;> omega)) | (with_reducible refine Below.setCell ?_ ?_ _; rotate_left; focus ((try simp) <;> omega)) | (with_reducible refine below_grow ?_ ?_; rotate_left; focus ((try simp) <;> omega)) | (with_reducible refine below_putB ?_ ?_; rotate_left; focus ((try simp) <;> omega)) | with_reducible refine Below.drew ?_ | with_reducible refine below_drewN ?_ | with_reducible assumption | (with_reducible refine below_step (by assumption) ?_ ?_; rotate_left; focus ((try simp) <;> omega))))).putB n2
    · have G := HF.out.weak (S' := fun k => k = hb ∨ v.ownBlock = some k) (fun k e => Or.inr (by rw [HV.out]; exact e))
      exact FrameS.putB (FrameS.regrown (FrameS.putB G (.inl (.inl rfl)))) (.inr (by omega))
    · rcases HA.out with e' | ⟨q, hq, e'⟩
      · exact .inl (by rw [HV.out]; exact e')
      · exact .inr ⟨q, by omega, e'⟩
set_option maxRecDepth 100000 in
set_option maxHeartbeats 2000000 in
theorem pushOut {B hb m : Nat} {v : Value} {l : List Ent} {e y : Ent} {r : List Ent} {w : World} (h : HistH w B hb v l m) (hlt : l.length = m) (hyr : l ++ [e] = y :: r) (hB : B ≤ w.heap.size) :
    Calls Try.prog 30 #[.pointer (some ⟨hb, 0, none⟩), .agg (entC e).toArray] w fun z w' => z = .returned (.tuple #[.agg (entC y).toArray, .bool true]) ∧ ∃ v', HistH w' B hb v' r m ∧ FrameS (fun k => k = hb ∨ v.ownBlock = some k) w w' ∧ (v'.ownBlock = v.ownBlock ∨ ∃ q, w.heap.size ≤ q ∧ v'.ownBlock = some q) := by
  have ib := h.blk
  have ht := h.top
  have HL := Lib.hid h.line
  have HNE := Lib.hid h.ne
  obtain ⟨n, hn⟩ : ∃ n, n = l.length := ⟨_, rfl⟩
  have HN := Lib.hid hn
  rw [← hn] at hlt
  have hrl : r.length = n := by have := congrArg List.length hyr; simp at this; omega
  have HY := Lib.hid hyr
  have HRL := Lib.hid hrl
  clear hyr hrl
  have hbl := ib.lt
  have ob : Old hb w := ⟨hbl⟩
  obtain ⟨ao, cap, hv, hcap, hcap'⟩ := h.line.shape
  rw [← hn] at hv hcap
  have HV := Lib.hid hv
  rw [hv] at ib
  unfold maxLen at hcap'
  clear h hn hv
  obtain ⟨i0, hi, hz0, hz1, hz2⟩ := info_parts info54
  have HI := And.intro (Lib.hid hi) (And.intro (Lib.hid hz0) (And.intro (Lib.hid hz1) (Lib.hid hz2)))
  clear hi hz0 hz1 hz2
  have i1 : (m : Int) < (n : Int) + 1 := by omega
  have i2 : (m : Int) ≤ 64 := by omega
  have i3 : n ≤ 64 := by omega
  have HLT := Lib.hid hlt
  clear hlt
  have hec : ents (l ++ [e]) = ents l ++ entC e := ents_snoc l e
  have HEC := Lib.hid hec
  clear hec
  obtain ⟨x0, x1, x2, x3, x4, x5, x6⟩ := e
  simp only [entC] at HEC ⊢
  obtain ⟨y0, y1, y2, y3, y4, y5, y6⟩ := y
  simp only []
  go_enter Try.func30, Try.ntmps30
  go_wp2
  go_region_law ((refine step_append_line _ (by rfl) _ _ 49 (by rfl) B 54 i0 _ 7 40 Try.underlying49 HI.1.out HI.2.1.out HI.2.2.1.out HI.2.2.2.out rfl (by decide) (.slice ao n cap) _ n 1 (ents l) [.int .u16 x0, .int .i64 x1, .int .u32 x2, .int .u16 x3, .int .u32 x4, .int .u32 x5, .int .u16 x6] (by rfl) (by rfl) (by have h := HL.out; rw [HV.out, ← HN.out] at h; exact h.keep (by repeat (first | with_reducible exact Below.refl _ _ | (with_reducible refine Below.alloc ?_ ?_ _; rotate_left; focus ((try simp) <;> omega)) | (with_reducible refine Below.setCell ?_ ?_ _; rotate_left; focus ((try simp) <;> omega)) | (with_reducible refine below_grow ?_ ?_; rotate_left; focus ((try simp) <;> omega)) | (with_reducible refine below_putB ?_ ?_; rotate_left; focus ((try simp) <;> omega)) | with_reducible refine Below.drew ?_ | with_reducible refine below_drewN ?_ | with_reducible assumption | (with_reducible refine below_step (by assumption) ?_ ?_; rotate_left; focus ((try simp) <;> omega))))) (Src.one rfl (by simp [Value.oneCell']) (blk_at (cs := #[.int .u16 x0, .int .i64 x1, .int .u32 x2, .int .u16 x3, .int .u32 x4, .int .u32 x5, .int .u16 x6]) (t := 54) (by infer_instance))) (by unfold maxLen; omega) (by omega) (by simp; omega) _ rfl ?_; intro v' w5 hown hgrow hat; obtain ⟨ao', cap', rfl, hc5, hc5'⟩ := hown.shape; have b5h : BlkIs w5 hb #[.slice ao n cap, .int .i64 m] 88 := BlkIs.grown (by infer_instance) hgrow (fun e => HNE.out (by rw [HV.out]; exact e)); have hlt5 : ∀ q, (Value.slice ao n cap).ownBlock = some q → q < w.heap.size := fun q hq => (HL.out.lt (q := q) (by rw [HV.out]; exact hq)).2; have b5r : BlkIs w5 (w.heap.size + 1) #[.int .u16 0, .int .i64 0, .int .u32 0, .int .u16 0, .int .u32 0, .int .u32 0, .int .u16 0] 54 := BlkIs.grown (by infer_instance) hgrow (fun e => by have := hlt5 _ e; omega); have F5 := frameS_grown (w := w) hgrow (by exact (by repeat (first | with_reducible exact Below.refl _ _ | (with_reducible refine Below.alloc ?_ ?_ _; rotate_left; focus ((try simp) <;> omega)) | (with_reducible refine Below.setCell ?_ ?_ _; rotate_left; focus ((try simp) <;> omega)) | (with_reducible refine below_grow ?_ ?_; rotate_left; focus ((try simp) <;> omega)) | (with_reducible refine below_putB ?_ ?_; rotate_left; focus ((try simp) <;> omega)) | with_reducible refine Below.drew ?_ | with_reducible refine below_drewN ?_ | with_reducible assumption | (with_reducible refine below_step (by assumption) ?_ ?_; rotate_left; focus ((try simp) <;> omega))))); have hat' := hat_of (B := w.heap.size + 2) hat (by simp); have HO := Lib.hid hown; have HF := Lib.hid F5; have HA := Lib.hid hat'; have HQ := Lib.hid hlt5; clear hown hgrow hat hat' F5 hlt5; unfold maxLen at hc5'))
  all_goals
    have hL5 : Line w5 B 7 (.slice ao' (n + 1) cap') (n + 1) (ents ((y0, y1, y2, y3, y4, y5, y6) :: r)) := by
      have h := HO.out
      rw [← HEC.out, HY.out] at h
      exact h
    clear HO
    obtain ⟨g, o5, c5, e5, hgb, hg, _, _⟩ := hL5.form (by omega)
    simp only [Value.slice.injEq, true_and] at e5
    obtain ⟨rfl, rfl⟩ := e5
    have n1 : g ≠ hb := fun e => by
      rcases HA.out with e' | ⟨q, hq, e'⟩
      · exact HNE.out (by rw [HV.out, ← e', ← e]; rfl)
      · simp only [Value.ownBlock, Option.some.injEq] at e'; omega
    have n2 : g ≠ w.heap.size + 1 := fun e => by
      rcases HA.out with e' | ⟨q, hq, e'⟩
      · have := HQ.out (w.heap.size + 1) (by rw [← e', ← e]; rfl); omega
      · simp only [Value.ownBlock, Option.some.injEq] at e'; omega
    have og : Old g w5 := ⟨hg⟩
    have ng : NeB g hb := ⟨n1⟩
    have p0 := hL5.cell (j := 0) (u := .int .u16 y0) (by simp [ents, entC])
    have p1 := hL5.cell (j := 1) (u := .int .i64 y1) (by simp [ents, entC])
    have p2 := hL5.cell (j := 2) (u := .int .u32 y2) (by simp [ents, entC])
    have p3 := hL5.cell (j := 3) (u := .int .u16 y3) (by simp [ents, entC])
    have p4 := hL5.cell (j := 4) (u := .int .u32 y4) (by simp [ents, entC])
    have p5 := hL5.cell (j := 5) (u := .int .u32 y5) (by simp [ents, entC])
    have p6 := hL5.cell (j := 6) (u := .int .u16 y6) (by simp [ents, entC])
    rw [Nat.add_zero] at p0
    have HL5 := Lib.hid hL5
    clear hL5
  all_goals go_wp2_with fail
  all_goals
    refine wp_region_quiet_below (by kernel_rfl) (by kernel_rfl) ?_
    repeat (first | go_big_quiet_step (((fail))) | quiet_step (((fail))))
    refine wpQuiet_nil ?_
    intro _ hw'
    obtain ⟨⟨dq, osq⟩, hw''⟩ := hw'
    subst hw''
  all_goals
    have hbX := below_regrown (putB w5 hb #[.slice (some ⟨g, o5, none⟩) (n + 1) cap', .int .i64 m] 88) dq osq
    generalize grow (redrawn (putB w5 hb #[.slice (some ⟨g, o5, none⟩) (n + 1) cap', .int .i64 m] 88) dq) osq = X at hbX ⊢
    have haX : After _ X := ⟨hbX⟩
    obtain ⟨hcX, hfX⟩ := after hbX
    have hzX : w5.heap.size ≤ X.heap.size := by have := hbX.size; rwa [putB_size] at this
  all_goals go_wp2_with fail
  all_goals
    have K5 : Line (X.alloc (.cells #[.int .u16 y0, .int .i64 y1, .int .u32 y2, .int .u16 y3, .int .u32 y4, .int .u32 y5, .int .u16 y6] 54)) B 7 (.slice (some ⟨g, o5, none⟩) (n + 1) cap') (n + 1) (ents ((y0, y1, y2, y3, y4, y5, y6) :: r)) := ((HL5.out.putB (b := hb) (fun e => n1 (Option.some.inj e))).keep hbX).keep (by repeat (first | with_reducible exact Below.refl _ _ | (with_reducible refine Below.alloc ?_ ?_ _; rotate_left; focus ((try simp) <;> omega)) | (with_reducible refine Below.setCell ?_ ?_ _; rotate_left; focus ((try simp) <;> omega)) | (with_reducible refine below_grow ?_ ?_; rotate_left; focus ((try simp) <;> omega)) | (with_reducible refine below_putB ?_ ?_; rotate_left; focus ((try simp) <;> omega)) | with_reducible refine Below.drew ?_ | with_reducible refine below_drewN ?_ | with_reducible assumption | (with_reducible refine below_step (by assumption) ?_ ?_; rotate_left; focus ((try simp) <;> omega))))
    refine (deleteR K5 HRL.out (by omega)).mono ?_; rintro e w6 ⟨rfl, hL6, hF6⟩
    have bg := hF6.size
    have b6h : BlkIs w6 hb #[.slice (some ⟨g, o5, none⟩) (n + 1) cap', .int .i64 m] 88 := BlkIs.frame (by infer_instance) hF6 (fun e => n1 e.symm)
    have b6r : BlkIs w6 (w.heap.size + 1) #[.int .u16 0, .int .i64 0, .int .u32 0, .int .u16 0, .int .u32 0, .int .u32 0, .int .u16 0] 54 := BlkIs.frame (by infer_instance) hF6 (fun e => n2 e.symm)
    have b6g : BlkIs w6 X.heap.size #[.int .u16 y0, .int .i64 y1, .int .u32 y2, .int .u16 y3, .int .u32 y4, .int .u32 y5, .int .u16 y6] 54 := BlkIs.frame (by infer_instance) hF6 (fun e => by omega)
    have l6 := hL6.putB (b := hb) (cs := #[.slice (some ⟨g, o5, none⟩) n cap', .int .i64 m]) (t := 88) (fun e => n1 (Option.some.inj e))
    have HL6 := Lib.hid (l6.putB (b := w.heap.size + 1) (cs := #[.int .u16 y0, .int .i64 y1, .int .u32 y2, .int .u16 y3, .int .u32 y4, .int .u32 y5, .int .u16 y6]) (t := 54) (fun e => n2 (Option.some.inj e)))
    have G := HF.out.weak (S' := fun k => k = hb ∨ v.ownBlock = some k) (fun k e => Or.inr (by rw [HV.out]; exact e))
    have G1 := ((FrameS.putB (b := hb) (cs := #[.slice (some ⟨g, o5, none⟩) (n + 1) cap', .int .i64 m]) (t := 88) G (.inl (.inl rfl))).step hbX).step (w'' := X.alloc (.cells #[.int .u16 y0, .int .i64 y1, .int .u32 y2, .int .u16 y3, .int .u32 y4, .int .u32 y5, .int .u16 y6] 54)) (by repeat (first | with_reducible exact Below.refl _ _ | (with_reducible refine Below.alloc ?_ ?_ _; rotate_left; focus ((try simp) <;> omega)) | (with_reducible refine Below.setCell ?_ ?_ _; rotate_left; focus ((try simp) <;> omega)) | (with_reducible refine below_grow ?_ ?_; rotate_left; focus ((try simp) <;> omega)) | (with_reducible refine below_putB ?_ ?_; rotate_left; focus ((try simp) <;> omega)) | with_reducible refine Below.drew ?_ | with_reducible refine below_drewN ?_ | with_reducible assumption | (with_reducible refine below_step (by assumption) ?_ ?_; rotate_left; focus ((try simp) <;> omega))))
    have G2 := G1.then' hF6 (fun q e => by
      rcases HA.out with e' | ⟨q', hq', e'⟩
      · exact .inl (.inr (by rw [HV.out, ← e', e]; rfl))
      · exact .inr (by simp only [Value.ownBlock, Option.some.injEq] at e'; omega))
    have HG2 := Lib.hid G2
    clear K5 l6 hL6 hF6 G G1 G2
  all_goals go_wp2_with fail
  all_goals refine ret_ct 4 5 54 (by rfl) (by rfl) _ _ (by rfl) (by rfl) (by infer_instance) (by rfl) ?_
  all_goals
    refine ⟨rfl, .slice (some ⟨g, o5, none⟩) n cap', ⟨by infer_instance, by rw [HRL.out]; exact HL6.out, fun e => n1 (Option.some.inj e), by rw [HRL.out, HLT.out]; exact Nat.le_refl _, ht⟩, ?_, ?_⟩
    · exact FrameS.putB (FrameS.putB HG2.out (.inl (.inl rfl))) (.inr (by omega))
    · rcases HA.out with e' | ⟨q, hq, e'⟩
      · exact .inl (by rw [HV.out]; exact e')
      · exact .inr ⟨q, by omega, e'⟩
end Go.Proofs.Ytjlclpdjblicjaa
