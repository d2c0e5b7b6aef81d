/-
  Find of a history: the last entry with the number, by its contract. No condition but that the history is one.
-/
import Derived.Test.YtjlclpdjblicjaaHistPush
namespace Go.Proofs.Ytjlclpdjblicjaa
open Go.RowKit Go.Shelf
set_option linter.unusedVariables false
attribute [local go_sem] Oper.semAt_some
set_option maxRecDepth 100000 in
set_option maxHeartbeats 4000000 in
theorem hfind_in {p : Value} {l : List Ent} {s : Int} {w : World} (hall : ∀ w', RowKit.Below w.heap.size w w' → Calls Try.prog 35 #[p] w' fun e w'' => ∃ v', e = .returned v' ∧ Line w'' w'.heap.size 7 v' l.length (ents l) ∧ RowKit.Below w'.heap.size w' w'') (hlen : l.length ≤ 100000000) :
    CallsIn Fence.wide 3 Try.prog 31 #[p, .int .u16 s] w fun e W' => e = .returned (findV l s) ∧ RowKit.Below w.heap.size w W' := by
  have hro : Fence.wide.round = none := rfl
  have h1 : 1 ≤ 3 := by omega
  have h35 : Fence.wide.fn 35 := trivial
  have h49 : Fence.wide.fn 49 := trivial
  have h53 : Fence.wide.fn 53 := trivial
  have HA := Lib.hid hall
  clear hall
  refine callsIn_of_wp_marks (F := Fence.wide) (n := 3) Try.func31 rfl trivial ?_ hro
  simp only [Try.ntmps31, List.size_toArray, List.length_cons, List.length_nil, Nat.reduceAdd, Nat.reduceSub, Array.replicate_succ, Array.replicate_zero, List.push_toArray, List.append_toArray, List.nil_append, List.cons_append]
  gi_wp2_with (gi_at_call 35; refine (callsIn_wide.2 (HA.out _ (by repeat (first | with_reducible exact Below.refl _ _ | (with_reducible refine Below.alloc ?_ ?_ _; rotate_left; focus ((try simp) <;> omega)) | (with_reducible refine Below.setCell ?_ ?_ _; rotate_left; focus ((try simp) <;> omega)) | (with_reducible refine below_grow ?_ ?_; rotate_left; focus ((try simp) <;> omega)) | (with_reducible refine below_putB ?_ ?_; rotate_left; focus ((try simp) <;> omega)) | with_reducible refine Below.drew ?_ | with_reducible refine below_drewN ?_ | with_reducible assumption | (with_reducible refine below_step (by assumption) ?_ ?_; rotate_left; focus ((try simp) <;> omega)))))).mono ?_; rintro e w4 ⟨v4, rfl, hL4, hb4⟩; have ha4 : After _ w4 := ⟨hb4⟩; have hz4 := hb4.size; try simp at hz4)
  have HH4 := Lib.hid (Has.of_line hL4)
  obtain ⟨ao, cap, hv4, hcap, hcap'⟩ := HH4.out.shape
  obtain ⟨len, hlen'⟩ : ∃ len, len = l.length := ⟨_, rfl⟩
  rw [← hlen'] at HH4 hv4 hlen
  subst hv4
  have HL := Lib.hid hlen'.symm
  have HB4 := Lib.hid hb4
  have hb34 : RowKit.Below w.heap.size w w4 := (by repeat (first | with_reducible exact Below.refl _ _ | (with_reducible refine Below.alloc ?_ ?_ _; rotate_left; focus ((try simp) <;> omega)) | (with_reducible refine Below.setCell ?_ ?_ _; rotate_left; focus ((try simp) <;> omega)) | (with_reducible refine below_grow ?_ ?_; rotate_left; focus ((try simp) <;> omega)) | (with_reducible refine below_putB ?_ ?_; rotate_left; focus ((try simp) <;> omega)) | with_reducible refine Below.drew ?_ | with_reducible refine below_drewN ?_ | with_reducible assumption | (with_reducible refine below_step (by assumption) ?_ ?_; rotate_left; focus ((try simp) <;> omega))))
  clear hL4 hcap hcap' hlen' hb4
  gi_wp2_with (gi_at_call 49; refine (back_in Fence.wide 2 trivial hro _ _ _ _).mono ?_; rintro e w' ⟨rfl, rfl⟩)
  obtain ⟨Bs, hBs⟩ : ∃ Bs, Bs = w4.heap.size := ⟨_, rfl⟩
  obtain ⟨W0, hW0⟩ : ∃ W0 : World, W0 = w4.alloc (.cells #[.slice ao len cap] 49) := ⟨_, rfl⟩
  have b3 : BlkIs W0 w.heap.size #[.int .u16 s] 50 := by rw [hW0]; infer_instance
  have b4 : BlkIs W0 (w.heap.size + 1) #[.int .u16 0, .int .i64 0, .int .u32 0, .int .u16 0, .int .u32 0, .int .u32 0, .int .u16 0] 54 := by rw [hW0]; infer_instance
  have b5 : BlkIs W0 (w.heap.size + 1 + 1) #[.bool false] 4 := by rw [hW0]; infer_instance
  have b6 : BlkIs W0 Bs #[.slice ao len cap] 49 := by rw [hW0, hBs]; infer_instance
  have hB0 : RowKit.Below w.heap.size w W0 := by rw [hW0]; exact (by repeat (first | with_reducible exact Below.refl _ _ | (with_reducible refine Below.alloc ?_ ?_ _; rotate_left; focus ((try simp) <;> omega)) | (with_reducible refine Below.setCell ?_ ?_ _; rotate_left; focus ((try simp) <;> omega)) | (with_reducible refine below_grow ?_ ?_; rotate_left; focus ((try simp) <;> omega)) | (with_reducible refine below_putB ?_ ?_; rotate_left; focus ((try simp) <;> omega)) | with_reducible refine Below.drew ?_ | with_reducible refine below_drewN ?_ | with_reducible assumption | (with_reducible refine below_step (by assumption) ?_ ?_; rotate_left; focus ((try simp) <;> omega))))
  have hz0 : W0.heap.size = Bs + 1 := by rw [hW0, hBs]; simp
  have hBz : w.heap.size + 1 + 1 < Bs := by omega
  have hB40 : RowKit.Below w4.heap.size w4 W0 := by rw [hW0]; exact (by repeat (first | with_reducible exact Below.refl _ _ | (with_reducible refine Below.alloc ?_ ?_ _; rotate_left; focus ((try simp) <;> omega)) | (with_reducible refine Below.setCell ?_ ?_ _; rotate_left; focus ((try simp) <;> omega)) | (with_reducible refine below_grow ?_ ?_; rotate_left; focus ((try simp) <;> omega)) | (with_reducible refine below_putB ?_ ?_; rotate_left; focus ((try simp) <;> omega)) | with_reducible refine Below.drew ?_ | with_reducible refine below_drewN ?_ | with_reducible assumption | (with_reducible refine below_step (by assumption) ?_ ?_; rotate_left; focus ((try simp) <;> omega))))
  have c6 : W0.cell? ⟨Bs, 0, none⟩ = some (.slice ao len cap) := by rw [cell_blk (w := W0)]; rfl
  rw [← hBs, ← hW0]
  have hBs1 : Bs ≤ w4.heap.size := by omega
  have hBs2 : w4.heap.size ≤ Bs := by omega
  clear hBs
  refine wpIn_rangeFunc_ownH hro h1 (gf := 53) (lb := #[.pointer (some ⟨Bs, 0, none⟩)]) rfl trivial (enters_of Try.func53 (by kernel_rfl) rfl)
    (back_stops Fence.wide 2 trivial hro (by omega) Bs w4.heap.size len _ l HL.out hlen W0 w4 (by omega) hB40 (Nat.le_refl _) c6 HH4.out)
    KpB.trans (fun W q o o' hl ho hc hw => ⟨belowK_b (w := W0) (by omega) W q o o' hl ho hc hw, World.cell?_of_block ((grownBy_putObj' W q o').block _ (show Bs < W.heap.size from by have := (Array.getElem?_eq_some_iff.1 ho).1; omega) (fun e => absurd (show Bs = q from Option.some.inj e) (by omega)))⟩) (Below.refl _ _) (fun _ => rfl)
    (fun pre W => ((∀ p ∈ pre, p.2.1 ≠ s) ∧ BlkIs W w.heap.size #[.int .u16 s] 50 ∧ BlkIs W (w.heap.size + 1) #[.int .u16 0, .int .i64 0, .int .u32 0, .int .u16 0, .int .u32 0, .int .u32 0, .int .u16 0] 54 ∧ BlkIs W (w.heap.size + 1 + 1) #[.bool false] 4 ∧ BlkIs W (Bs) #[.slice ao len cap] 49) ∧ RowKit.Below w.heap.size w W)
    (fun c pre W => (∃ ini last, (c = .ret ∧ pre = ini ++ [last] ∧ (∀ p ∈ ini, p.2.1 ≠ s) ∧ last.2.1 = s) ∧ BlkIs W (w.heap.size + 1) (entC last.2).toArray 54 ∧ BlkIs W (w.heap.size + 1 + 1) #[.bool true] 4) ∧ RowKit.Below w.heap.size w W)
    (OwnFrom.and (Own.from (fun s' A B row hs hg hr => ⟨hs.1, blk_own _ _ (fun _ => _) () A B row hs.2.1 hg hr, blk_own _ _ (fun _ => _) () A B row hs.2.2.1 hg hr, blk_own _ _ (fun _ => _) () A B row hs.2.2.2.1 hg hr, blk_own _ _ (fun _ => _) () A B row hs.2.2.2.2 hg hr⟩) _) (ownFrom_below (Nat.le_refl _) (by omega)))
    (fun c => OwnFrom.and (Own.from (fun s' A B row hs hg hr => by obtain ⟨ini, last, e1, e2, e3⟩ := hs; exact ⟨ini, last, e1, blk_own _ _ (fun _ => _) () A B row e2 hg hr, blk_own _ _ (fun _ => _) () A B row e3 hg hr⟩) _) (ownFrom_below (Nat.le_refl _) (by omega)))
    ⟨⟨by simp, b3, b4, b5, b6⟩, hB0⟩
    (fun x a' W => ∃ Bx, Bs < Bx ∧ BlkIs W Bx (entC x.2).toArray 54 ∧ a' = { tmps := #[p, .int .u16 s, undef, .pointer (some ⟨w.heap.size, 0, none⟩), .pointer (some ⟨w.heap.size + 1, 0, none⟩), .pointer (some ⟨w.heap.size + 1 + 1, 0, none⟩), undef, .pointer (some ⟨Bx, 0, none⟩), p, .slice ao len cap, .func (.func 53) #[] #[.pointer (some ⟨Bs, 0, none⟩)], .int .i64 (x.1 : Int), .agg (entC x.2).toArray, undef, undef, undef, undef, undef, undef], defers := [] })
    (fun x a' s' A B row hs hg hr => by obtain ⟨Bx, e1, e2, e3⟩ := hs; exact ⟨Bx, e1, blk_own _ _ (fun _ => _) () A B row e2 hg (fun r e => (hr r e).2), e3⟩)
    ?assign ?body ?done ?stop
  case assign =>
    rintro q pre ⟨i, x0, x1, x2, x3, x4, x5, x6⟩ W K ⟨⟨hp, b3, b4, b5, b6⟩, hB⟩ hK
    have hBs := hB.size
    have hlt6 := b6.lt
    simp only [encB, entC]
    gi_wp2
    exact hK _ _ ((KeepsOthers.alloc _ _).from _) ⟨(by repeat (first | with_reducible exact Below.refl _ _ | (with_reducible refine Below.alloc ?_ ?_ _; rotate_left; focus ((try simp) <;> omega)) | (with_reducible refine Below.setCell ?_ ?_ _; rotate_left; focus ((try simp) <;> omega)) | (with_reducible refine below_grow ?_ ?_; rotate_left; focus ((try simp) <;> omega)) | (with_reducible refine below_putB ?_ ?_; rotate_left; focus ((try simp) <;> omega)) | with_reducible refine Below.drew ?_ | with_reducible refine below_drewN ?_ | with_reducible assumption | (with_reducible refine below_step (by assumption) ?_ ?_; rotate_left; focus ((try simp) <;> omega)))), by rw [cell_blk (w := W) (b := Bs)]; exact cell_blk (b := Bs)⟩ ⟨⟨hp, by infer_instance, by infer_instance, by infer_instance, by infer_instance⟩, (by repeat (first | with_reducible exact Below.refl _ _ | (with_reducible refine Below.alloc ?_ ?_ _; rotate_left; focus ((try simp) <;> omega)) | (with_reducible refine Below.setCell ?_ ?_ _; rotate_left; focus ((try simp) <;> omega)) | (with_reducible refine below_grow ?_ ?_; rotate_left; focus ((try simp) <;> omega)) | (with_reducible refine below_putB ?_ ?_; rotate_left; focus ((try simp) <;> omega)) | with_reducible refine Below.drew ?_ | with_reducible refine below_drewN ?_ | with_reducible assumption | (with_reducible refine below_step (by assumption) ?_ ?_; rotate_left; focus ((try simp) <;> omega))))⟩ ⟨W.heap.size, hlt6, by simp only [entC]; infer_instance, rfl⟩
  case body =>
    rintro q pre ⟨i, x0, x1, x2, x3, x4, x5, x6⟩ a' W hq ⟨r, hr⟩ ⟨⟨hp, b3, b4, b5, b6⟩, hB⟩ ⟨Bx, hBx, bX, rfl⟩ hlt
    have ne1 : NeB Bx (w.heap.size + 1) := ⟨by omega⟩
    have ne2 : NeB (w.heap.size + 1) Bx := ⟨by omega⟩
    simp only [entC] at bX
    by_cases hx : x0 = s
    · subst hx
      gi_wp2
      exact ⟨(keepsFrom_putB W _ _ (by omega)).trans (keepsFrom_putB _ _ _ (by omega)), ⟨pre, (i, x0, x1, x2, x3, x4, x5, x6), ⟨rfl, rfl, hp, rfl⟩, by simp only [entC]; infer_instance, by infer_instance⟩, (by repeat (first | with_reducible exact Below.refl _ _ | (with_reducible refine Below.alloc ?_ ?_ _; rotate_left; focus ((try simp) <;> omega)) | (with_reducible refine Below.setCell ?_ ?_ _; rotate_left; focus ((try simp) <;> omega)) | (with_reducible refine below_grow ?_ ?_; rotate_left; focus ((try simp) <;> omega)) | (with_reducible refine below_putB ?_ ?_; rotate_left; focus ((try simp) <;> omega)) | with_reducible refine Below.drew ?_ | with_reducible refine below_drewN ?_ | with_reducible assumption | (with_reducible refine below_step (by assumption) ?_ ?_; rotate_left; focus ((try simp) <;> omega))))⟩
    · gi_wp2
      exact ⟨KeepsFrom.refl _ _, KpB.refl _ _ _, ⟨fun p hp' => (List.mem_append.1 hp').elim (hp p) (fun e => by simp at e; subst e; exact hx), b3, b4, b5, b6⟩, hB⟩
  case done =>
    rintro D ys W hD rfl ⟨⟨hp, b3, b4, b5, b6⟩, hB⟩ hK
    have hne := findE_none (l := l) (s := s) (fun i hi => hp _ (back_mem l len i (by rw [HL.out]; omega) hi))
    have HNE := Lib.hid hne
    clear hne hp
    gi_wp2
    have hK' := (((keepsFrom_putB (B := W0.heap.size) W #[.int .u16 0, .int .i64 0, .int .u32 0, .int .u16 0, .int .u32 0, .int .u32 0, .int .u16 0] 54 (show w.heap.size + 1 < W0.heap.size by omega)).trans (keepsFrom_putB _ #[.bool false] 4 (show w.heap.size + 1 + 1 < W0.heap.size by omega))).same D _ hD hK rfl)
    refine ⟨by simp, .inl ⟨_, _, rfl, run_takeDeferred hK', ?_⟩⟩
    have k4 : BlkIs ((putB (putB W (w.heap.size + 1) #[.int .u16 0, .int .i64 0, .int .u32 0, .int .u16 0, .int .u32 0, .int .u32 0, .int .u16 0] 54) (w.heap.size + 1 + 1) #[.bool false] 4).putObj D (.deferred none)) (w.heap.size + 1) #[.int .u16 0, .int .i64 0, .int .u32 0, .int .u16 0, .int .u32 0, .int .u32 0, .int .u16 0] 54 := blk_putObj (by infer_instance) (by omega)
    have k5 : BlkIs ((putB (putB W (w.heap.size + 1) #[.int .u16 0, .int .i64 0, .int .u32 0, .int .u16 0, .int .u32 0, .int .u32 0, .int .u16 0] 54) (w.heap.size + 1 + 1) #[.bool false] 4).putObj D (.deferred none)) (w.heap.size + 1 + 1) #[.bool false] 4 := blk_putObj (by infer_instance) (by omega)
    have hBW : RowKit.Below w.heap.size w ((putB (putB W (w.heap.size + 1) #[.int .u16 0, .int .i64 0, .int .u32 0, .int .u16 0, .int .u32 0, .int .u32 0, .int .u16 0] 54) (w.heap.size + 1 + 1) #[.bool false] 4).putObj D (.deferred none)) :=
      (show RowKit.Below w.heap.size w (putB (putB W (w.heap.size + 1) #[.int .u16 0, .int .i64 0, .int .u32 0, .int .u16 0, .int .u32 0, .int .u32 0, .int .u16 0] 54) (w.heap.size + 1 + 1) #[.bool false] 4) from (by repeat (first | with_reducible exact Below.refl _ _ | (with_reducible refine Below.alloc ?_ ?_ _; rotate_left; focus ((try simp) <;> omega)) | (with_reducible refine Below.setCell ?_ ?_ _; rotate_left; focus ((try simp) <;> omega)) | (with_reducible refine below_grow ?_ ?_; rotate_left; focus ((try simp) <;> omega)) | (with_reducible refine below_putB ?_ ?_; rotate_left; focus ((try simp) <;> omega)) | with_reducible refine Below.drew ?_ | with_reducible refine below_drewN ?_ | with_reducible assumption | (with_reducible refine below_step (by assumption) ?_ ?_; rotate_left; focus ((try simp) <;> omega))))).trans (belowK_b (w := w) (Nat.le_refl _) _ D _ _ (by omega) hK' rfl rfl)
    generalize (putB (putB W (w.heap.size + 1) #[.int .u16 0, .int .i64 0, .int .u32 0, .int .u16 0, .int .u32 0, .int .u32 0, .int .u16 0] 54) (w.heap.size + 1 + 1) #[.bool false] 4).putObj D (.deferred none) = WW at k4 k5 hBW ⊢
    have hc5 : WW.cell? ⟨w.heap.size + 1 + 1, 0, none⟩ = some (.bool false) := by rw [cell_blk (w := WW)]; rfl
    refine ⟨findV l s, ?_, rfl, hBW⟩
    unfold findV
    rw [HNE.out]
    simp [results, Try.f31, go_sem, hc5, entC, e0]
  case stop =>
    rintro D c pre W hD ⟨k, hk, rfl⟩ ⟨⟨ini, last, ⟨rfl, e1, e2, e3⟩, b4, b5⟩, hB⟩ hK
    gi_wp2
    refine ⟨by simp, .inl ⟨_, _, rfl, run_takeDeferred hK, ?_⟩⟩
    obtain ⟨k', rfl⟩ : ∃ k', k = k' + 1 := by
      cases k with
      | zero => simp [upto] at e1
      | succ k' => exact ⟨k', rfl⟩
    rw [upto_succ] at e1
    obtain ⟨rfl, e5⟩ := List.append_inj' e1 rfl
    obtain rfl : back l k' = last := by simpa using e5
    have hf := findE_at (l := l) (s := s) (len - 1 - k') (by rw [HL.out]; omega) (by simpa [back, HL.out] using e3) (fun i h1 h2 => e2 (i, l.getD i e0) (back_mem l k' i (by rw [HL.out]; omega) h2))
    have k4 : BlkIs (W.putObj D (.deferred none)) (w.heap.size + 1) (entC (back l k').2).toArray 54 := blk_putObj b4 (by omega)
    have k5 : BlkIs (W.putObj D (.deferred none)) (w.heap.size + 1 + 1) #[.bool true] 4 := blk_putObj b5 (by omega)
    have hBW : RowKit.Below w.heap.size w (W.putObj D (.deferred none)) := hB.trans (belowK_b (w := w) (Nat.le_refl _) W D _ _ (by omega) hK rfl rfl)
    generalize W.putObj D (.deferred none) = WW at k4 k5 hBW ⊢
    have hc5 : WW.cell? ⟨w.heap.size + 1 + 1, 0, none⟩ = some (.bool true) := by rw [cell_blk (w := WW)]; rfl
    have e9 : (back l k').2 = l.getD (len - 1 - k') e0 := by simp [back, HL.out]
    rw [e9] at k4
    refine ⟨findV l s, ?_, rfl, hBW⟩
    unfold findV
    rw [hf]
    generalize l.getD (len - 1 - k') e0 = x at k4 ⊢
    obtain ⟨x0, x1, x2, x3, x4, x5, x6⟩ := x
    simp only [entC] at k4
    simp [results, Try.f31, go_sem, hc5, entC]
theorem findH {B hb m : Nat} {v : Value} {l : List Ent} {s : Int} {w : World} (h : HistH w B hb v l m) :
    Calls Try.prog 31 #[.pointer (some ⟨hb, 0, none⟩), .int .u16 s] w (Gives (findV l s) w) :=
  (callsIn_wide (n := 3)).1 (hfind_in (fun w' k => allH (h.keep k)) (by have := h.len; have := h.top; omega))
theorem findNil {s : Int} {w : World} : Calls Try.prog 31 #[.pointer none, .int .u16 s] w (Gives (findV [] s) w) :=
  (callsIn_wide (n := 3)).1 (hfind_in (fun w' k => (allNil18 w').mono fun e w'' ⟨he, hb⟩ => ⟨_, he, by simpa [ents] using Line.nil w'' w'.heap.size 7, hb⟩) (by simp))
end Go.Proofs.Ytjlclpdjblicjaa
