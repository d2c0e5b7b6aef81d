/-
  find: the last entry with the number, by its contract. No condition but that the entries are not too many.
-/
import Derived.Test.YtoefekojjagjdaaBack
namespace Go.Proofs.Ytoefekojjagjdaa
open Go.RowKit Go.Shelf
set_option linter.unusedVariables false
attribute [local go_sem] Oper.semAt_some
theorem blk_own {β : Type} (b : Nat) (t : TypeId) (f : β → Array Value) : Own (fun s W => BlkIs W b (f s) t) := fun s X Y row hs hg hrow =>
  ⟨(hg.block b hs.lt (fun e' => by obtain ⟨o, ho, hc⟩ := hrow b e'.symm; rw [hs.eq] at ho; cases ho; cases hc)).trans hs.eq⟩
theorem putB_grown (W : World) (b : Nat) (cs : Array Value) (t : TypeId) : W.grownBy (putB W b cs t) (some b) :=
  ⟨rfl, rfl, rfl, by simp [putB], fun k _ hk => by
    unfold putB
    exact Array.getElem?_setIfInBounds_ne (fun e => hk (by rw [e]))⟩
theorem keepsFrom_putB {B b : Nat} (W : World) (cs : Array Value) (t : TypeId) (hb : b < B) : KeepsFrom B W (putB W b cs t) := KeepsFrom.of_grownBy (putB_grown W b cs t) (fun j e => by cases e; exact hb)
theorem blk_other {W : World} {b c : Nat} {cs ds : Array Value} {t u : TypeId} (h : BlkIs W b cs t) (hne : b ≠ c) : BlkIs (putB W c ds u) b cs t :=
  ⟨((putB_grown W c ds u).block b h.lt (fun e => hne (by cases e; rfl))).trans h.eq⟩
theorem blk_putObj {W : World} {b D : Nat} {cs : Array Value} {t : TypeId} {o : Obj} (h : BlkIs W b cs t) (hne : b ≠ D) : BlkIs (W.putObj D o) b cs t :=
  ⟨((grownBy_putObj' W D o).block b h.lt (fun e => hne (by cases e; rfl))).trans h.eq⟩
theorem back_mem (l : List Ent) (k i : Nat) (h1 : l.length - k ≤ i) (h2 : i < l.length) : (i, l.getD i e0) ∈ upto (back l) k := by
  simp only [upto, List.mem_map, List.mem_range, back]
  exact ⟨l.length - 1 - i, by omega, by rw [show l.length - 1 - (l.length - 1 - i) = i by omega]⟩
def zeroE : Array Value := #[.int .u16 0, .int .i64 0, .int .u32 0, .int .u16 0, .int .u32 0, .int .u32 0, .int .u16 0]
theorem back_stops (F : Fence) (n : Nat) (h47 : F.fn 47) (hro : F.round = none) (hn : 1 ≤ n) (Bs n₀ len : Nat) (sv : Value) (es : List Ent) (hl : es.length = len) (hreach : len ≤ 100000000) (w w₀ : World) (hBs : Bs < w.heap.size)
    (hw : RowKit.Below w₀.heap.size w₀ w) (hn₀ : w₀.heap.size ≤ n₀) (hc : w.cell? ⟨Bs, 0, none⟩ = some sv) (hI : Has w₀ 7 sv len (ents es)) :
    SeqStopsK F n Try.prog 47 #[.pointer (some ⟨Bs, 0, none⟩)] encB (KpB n₀ Bs) (fun ys => ys = upto (back es) len) (fun pre => ∃ k, k ≤ len ∧ pre = upto (back es) k) len w := fun l J Jx W hW _ _ hY h0 =>
  back1_in F n h47 hro hn l Bs n₀ len sv es hl hreach J Jx hY W w₀ (hw.trans (hW.mono hw.size)) hn₀ ((hW.cell (p := ⟨Bs, 0, none⟩) hBs).trans hc) hI h0
set_option maxRecDepth 100000 in
set_option maxHeartbeats 4000000 in
theorem find_in (F : Fence) (n : Nat) (h43 : F.fn 43) (h46 : F.fn 46) (h47 : F.fn 47) (hro : F.round = none) (hn : 3 ≤ n) {v : Value} {len : Nat} {l : List Ent} {s : Int} {w : World} (h : Has w 7 v len (ents l)) (hl : l.length = len) (hn2 : len ≤ 100000000) :
    CallsIn F n Try.prog 43 #[v, .int .u16 s] w fun e W' => e = .returned (findV l s) ∧ RowKit.Below w.heap.size w W' := by
  have h1 : 1 ≤ n := by omega
  have HH := Lib.hid h
  have HL := Lib.hid hl
  obtain ⟨ao, cap, rfl, hcap, hcap'⟩ := h.shape
  clear h hl hcap hcap'
  refine callsIn_of_wp_marks Try.func43 rfl h43 ?_ hro
  simp only [Try.ntmps43, List.size_toArray, List.length_cons, List.length_nil, Nat.reduceAdd, Nat.reduceSub, Array.replicate_succ, Array.replicate_zero, List.push_toArray, List.append_toArray, List.nil_append, List.cons_append]
  gi_wp2_with (gi_at_call 46; refine (back_in F (n - 1) h46 hro _ _ _ _).mono ?_; rintro e w' ⟨rfl, rfl⟩)
  obtain ⟨W0, hW0⟩ : ∃ W0 : World, W0 = (((w.alloc (.cells #[.int .u16 s] 22)).alloc (.cells #[.int .u16 0, .int .i64 0, .int .u32 0, .int .u16 0, .int .u32 0, .int .u32 0, .int .u16 0] 59)).alloc (.cells #[.bool false] 4)).alloc (.cells #[.slice ao len cap] 48) := ⟨_, rfl⟩
  have b3 : BlkIs W0 w.heap.size #[.int .u16 s] 22 := by rw [hW0]; infer_instance
  have b4 : BlkIs W0 (w.heap.size + 1) #[.int .u16 0, .int .i64 0, .int .u32 0, .int .u16 0, .int .u32 0, .int .u32 0, .int .u16 0] 59 := by rw [hW0]; infer_instance
  have b5 : BlkIs W0 (w.heap.size + 1 + 1) #[.bool false] 4 := by rw [hW0]; infer_instance
  have b6 : BlkIs W0 (w.heap.size + 1 + 1 + 1) #[.slice ao len cap] 48 := by rw [hW0]; infer_instance
  have hB0 : RowKit.Below w.heap.size w W0 := by rw [hW0]; exact (by repeat (first | with_reducible exact Below.refl _ _ | (with_reducible refine Below.alloc ?_ ?_ _; rotate_left; focus ((try simp) <;> omega)) | (with_reducible refine Below.setCell ?_ ?_ _; rotate_left; focus ((try simp) <;> omega)) | (with_reducible refine below_grow ?_ ?_; rotate_left; focus ((try simp) <;> omega)) | (with_reducible refine below_putB ?_ ?_; rotate_left; focus ((try simp) <;> omega)) | with_reducible refine Below.drew ?_ | with_reducible refine below_drewN ?_ | with_reducible assumption | (with_reducible refine below_step (by assumption) ?_ ?_; rotate_left; focus ((try simp) <;> omega))))
  have hz0 : W0.heap.size = w.heap.size + 1 + 1 + 1 + 1 := by rw [hW0]; simp
  have c6 : W0.cell? ⟨w.heap.size + 1 + 1 + 1, 0, none⟩ = some (.slice ao len cap) := by rw [cell_blk (w := W0)]; rfl
  rw [← hW0]
  refine wpIn_rangeFunc_ownH hro h1 (gf := 47) (lb := #[.pointer (some ⟨w.heap.size + 1 + 1 + 1, 0, none⟩)]) rfl h47 (enters_of Try.func47 (by kernel_rfl) rfl)
    (back_stops F (n - 1) h47 hro (by omega) (w.heap.size + 1 + 1 + 1) w.heap.size len _ l HL.out hn2 W0 w (by omega) hB0 (Nat.le_refl _) c6 HH.out)
    KpB.trans (fun W q o o' hl ho hc hw => ⟨belowK_b (w := W0) (by omega) W q o o' hl ho hc hw, World.cell?_of_block ((grownBy_putObj' W q o').block _ (show w.heap.size + 1 + 1 + 1 < W.heap.size from by have := (Array.getElem?_eq_some_iff.1 ho).1; omega) (fun e => absurd (show w.heap.size + 1 + 1 + 1 = q from Option.some.inj e) (by omega)))⟩) (Below.refl _ _) (fun _ => rfl)
    (fun pre W => ((∀ p ∈ pre, p.2.1 ≠ s) ∧ BlkIs W w.heap.size #[.int .u16 s] 22 ∧ BlkIs W (w.heap.size + 1) #[.int .u16 0, .int .i64 0, .int .u32 0, .int .u16 0, .int .u32 0, .int .u32 0, .int .u16 0] 59 ∧ BlkIs W (w.heap.size + 1 + 1) #[.bool false] 4 ∧ BlkIs W (w.heap.size + 1 + 1 + 1) #[.slice ao len cap] 48) ∧ RowKit.Below w.heap.size w W)
    (fun c pre W => (∃ ini last, (c = .ret ∧ pre = ini ++ [last] ∧ (∀ p ∈ ini, p.2.1 ≠ s) ∧ last.2.1 = s) ∧ BlkIs W (w.heap.size + 1) (entC last.2).toArray 59 ∧ BlkIs W (w.heap.size + 1 + 1) #[.bool true] 4) ∧ RowKit.Below w.heap.size w W)
    (OwnFrom.and (Own.from (fun s' A B row hs hg hr => ⟨hs.1, blk_own _ _ (fun _ => _) () A B row hs.2.1 hg hr, blk_own _ _ (fun _ => _) () A B row hs.2.2.1 hg hr, blk_own _ _ (fun _ => _) () A B row hs.2.2.2.1 hg hr, blk_own _ _ (fun _ => _) () A B row hs.2.2.2.2 hg hr⟩) _) (ownFrom_below (Nat.le_refl _) (by omega)))
    (fun c => OwnFrom.and (Own.from (fun s' A B row hs hg hr => by obtain ⟨ini, last, e1, e2, e3⟩ := hs; exact ⟨ini, last, e1, blk_own _ _ (fun _ => _) () A B row e2 hg hr, blk_own _ _ (fun _ => _) () A B row e3 hg hr⟩) _) (ownFrom_below (Nat.le_refl _) (by omega)))
    ⟨⟨by simp, b3, b4, b5, b6⟩, hB0⟩
    (fun x a' W => ∃ Bx, w.heap.size + 1 + 1 + 1 < Bx ∧ BlkIs W Bx (entC x.2).toArray 59 ∧ a' = { tmps := #[.slice ao len cap, .int .u16 s, undef, .pointer (some ⟨w.heap.size, 0, none⟩), .pointer (some ⟨w.heap.size + 1, 0, none⟩), .pointer (some ⟨w.heap.size + 1 + 1, 0, none⟩), undef, .pointer (some ⟨Bx, 0, none⟩), .slice ao len cap, .func (.func 47) #[] #[.pointer (some ⟨w.heap.size + 1 + 1 + 1, 0, none⟩)], .int .i64 (x.1 : Int), .agg (entC x.2).toArray, undef, undef, undef, undef, undef, undef], defers := [] })
    (fun x a' s' A B row hs hg hr => by obtain ⟨Bx, e1, e2, e3⟩ := hs; exact ⟨Bx, e1, blk_own _ _ (fun _ => _) () A B row e2 hg (fun r e => (hr r e).2), e3⟩)
    ?assign ?body ?done ?stop
  case assign =>
    rintro q pre ⟨i, x0, x1, x2, x3, x4, x5, x6⟩ W K ⟨⟨hp, b3, b4, b5, b6⟩, hB⟩ hK
    have hBs := hB.size
    have hlt6 := b6.lt
    simp only [encB, entC]
    gi_wp2
    exact hK _ _ ((KeepsOthers.alloc _ _).from _) ⟨(by repeat (first | with_reducible exact Below.refl _ _ | (with_reducible refine Below.alloc ?_ ?_ _; rotate_left; focus ((try simp) <;> omega)) | (with_reducible refine Below.setCell ?_ ?_ _; rotate_left; focus ((try simp) <;> omega)) | (with_reducible refine below_grow ?_ ?_; rotate_left; focus ((try simp) <;> omega)) | (with_reducible refine below_putB ?_ ?_; rotate_left; focus ((try simp) <;> omega)) | with_reducible refine Below.drew ?_ | with_reducible refine below_drewN ?_ | with_reducible assumption | (with_reducible refine below_step (by assumption) ?_ ?_; rotate_left; focus ((try simp) <;> omega)))), by rw [cell_blk (w := W) (b := w.heap.size + 1 + 1 + 1)]; exact cell_blk (b := w.heap.size + 1 + 1 + 1)⟩ ⟨⟨hp, by infer_instance, by infer_instance, by infer_instance, by infer_instance⟩, (by repeat (first | with_reducible exact Below.refl _ _ | (with_reducible refine Below.alloc ?_ ?_ _; rotate_left; focus ((try simp) <;> omega)) | (with_reducible refine Below.setCell ?_ ?_ _; rotate_left; focus ((try simp) <;> omega)) | (with_reducible refine below_grow ?_ ?_; rotate_left; focus ((try simp) <;> omega)) | (with_reducible refine below_putB ?_ ?_; rotate_left; focus ((try simp) <;> omega)) | with_reducible refine Below.drew ?_ | with_reducible refine below_drewN ?_ | with_reducible assumption | (with_reducible refine below_step (by assumption) ?_ ?_; rotate_left; focus ((try simp) <;> omega))))⟩ ⟨W.heap.size, hlt6, by simp only [entC]; infer_instance, rfl⟩
  case body =>
    rintro q pre ⟨i, x0, x1, x2, x3, x4, x5, x6⟩ a' W hq ⟨r, hr⟩ ⟨⟨hp, b3, b4, b5, b6⟩, hB⟩ ⟨Bx, hBx, bX, rfl⟩ hlt
    have ne1 : NeB Bx (w.heap.size + 1) := ⟨by omega⟩
    have ne2 : NeB (w.heap.size + 1) Bx := ⟨by omega⟩
    simp only [entC] at bX
    by_cases hx : x0 = s
    · subst hx
      gi_wp2
      exact ⟨(keepsFrom_putB W _ _ (by omega)).trans (keepsFrom_putB _ _ _ (by omega)), ⟨pre, (i, x0, x1, x2, x3, x4, x5, x6), ⟨rfl, rfl, hp, rfl⟩, by simp only [entC]; infer_instance, by infer_instance⟩, (by repeat (first | with_reducible exact Below.refl _ _ | (with_reducible refine Below.alloc ?_ ?_ _; rotate_left; focus ((try simp) <;> omega)) | (with_reducible refine Below.setCell ?_ ?_ _; rotate_left; focus ((try simp) <;> omega)) | (with_reducible refine below_grow ?_ ?_; rotate_left; focus ((try simp) <;> omega)) | (with_reducible refine below_putB ?_ ?_; rotate_left; focus ((try simp) <;> omega)) | with_reducible refine Below.drew ?_ | with_reducible refine below_drewN ?_ | with_reducible assumption | (with_reducible refine below_step (by assumption) ?_ ?_; rotate_left; focus ((try simp) <;> omega))))⟩
    · gi_wp2
      exact ⟨KeepsFrom.refl _ _, KpB.refl _ _ _, ⟨fun p hp' => (List.mem_append.1 hp').elim (hp p) (fun e => by simp at e; subst e; exact hx), b3, b4, b5, b6⟩, hB⟩
  case done =>
    rintro D ys W hD rfl ⟨⟨hp, b3, b4, b5, b6⟩, hB⟩ hK
    have hne := findE_none (l := l) (s := s) (fun i hi => hp _ (back_mem l len i (by rw [HL.out]; omega) hi))
    have HNE := Lib.hid hne
    clear hne hp
    gi_wp2
    have hK' := (((keepsFrom_putB (B := W0.heap.size) W #[.int .u16 0, .int .i64 0, .int .u32 0, .int .u16 0, .int .u32 0, .int .u32 0, .int .u16 0] 59 (show w.heap.size + 1 < W0.heap.size by omega)).trans (keepsFrom_putB _ #[.bool false] 4 (show w.heap.size + 1 + 1 < W0.heap.size by omega))).same D _ hD hK rfl)
    refine ⟨by simp, .inl ⟨_, _, rfl, run_takeDeferred hK', ?_⟩⟩
    have k4 : BlkIs ((putB (putB W (w.heap.size + 1) #[.int .u16 0, .int .i64 0, .int .u32 0, .int .u16 0, .int .u32 0, .int .u32 0, .int .u16 0] 59) (w.heap.size + 1 + 1) #[.bool false] 4).putObj D (.deferred none)) (w.heap.size + 1) #[.int .u16 0, .int .i64 0, .int .u32 0, .int .u16 0, .int .u32 0, .int .u32 0, .int .u16 0] 59 := blk_putObj (by infer_instance) (by omega)
    have k5 : BlkIs ((putB (putB W (w.heap.size + 1) #[.int .u16 0, .int .i64 0, .int .u32 0, .int .u16 0, .int .u32 0, .int .u32 0, .int .u16 0] 59) (w.heap.size + 1 + 1) #[.bool false] 4).putObj D (.deferred none)) (w.heap.size + 1 + 1) #[.bool false] 4 := blk_putObj (by infer_instance) (by omega)
    have hBW : RowKit.Below w.heap.size w ((putB (putB W (w.heap.size + 1) #[.int .u16 0, .int .i64 0, .int .u32 0, .int .u16 0, .int .u32 0, .int .u32 0, .int .u16 0] 59) (w.heap.size + 1 + 1) #[.bool false] 4).putObj D (.deferred none)) :=
      (show RowKit.Below w.heap.size w (putB (putB W (w.heap.size + 1) #[.int .u16 0, .int .i64 0, .int .u32 0, .int .u16 0, .int .u32 0, .int .u32 0, .int .u16 0] 59) (w.heap.size + 1 + 1) #[.bool false] 4) from (by repeat (first | with_reducible exact Below.refl _ _ | (with_reducible refine Below.alloc ?_ ?_ _; rotate_left; focus ((try simp) <;> omega)) | (with_reducible refine Below.setCell ?_ ?_ _; rotate_left; focus ((try simp) <;> omega)) | (with_reducible refine below_grow ?_ ?_; rotate_left; focus ((try simp) <;> omega)) | (with_reducible refine below_putB ?_ ?_; rotate_left; focus ((try simp) <;> omega)) | with_reducible refine Below.drew ?_ | with_reducible refine below_drewN ?_ | with_reducible assumption | (with_reducible refine below_step (by assumption) ?_ ?_; rotate_left; focus ((try simp) <;> omega))))).trans (belowK_b (w := w) (Nat.le_refl _) _ D _ _ (by omega) hK' rfl rfl)
    generalize (putB (putB W (w.heap.size + 1) #[.int .u16 0, .int .i64 0, .int .u32 0, .int .u16 0, .int .u32 0, .int .u32 0, .int .u16 0] 59) (w.heap.size + 1 + 1) #[.bool false] 4).putObj D (.deferred none) = WW at k4 k5 hBW ⊢
    have hc5 : WW.cell? ⟨w.heap.size + 1 + 1, 0, none⟩ = some (.bool false) := by rw [cell_blk (w := WW)]; rfl
    refine ⟨findV l s, ?_, rfl, hBW⟩
    unfold findV
    rw [HNE.out]
    simp [results, Try.f43, go_sem, hc5, entC, e0]
  case stop =>
    rintro D c pre W hD ⟨k, hk, rfl⟩ ⟨⟨ini, last, ⟨rfl, e1, e2, e3⟩, b4, b5⟩, hB⟩ hK
    gi_wp2
    refine ⟨by simp, .inl ⟨_, _, rfl, run_takeDeferred hK, ?_⟩⟩
    obtain ⟨k', rfl⟩ : ∃ k', k = k' + 1 := by
      cases k with
      | zero => simp [upto] at e1
      | succ k' => exact ⟨k', rfl⟩
    rw [upto_succ] at e1
    obtain ⟨rfl, e5⟩ := List.append_inj' e1 rfl
    obtain rfl : back l k' = last := by simpa using e5
    have hf := findE_at (l := l) (s := s) (len - 1 - k') (by rw [HL.out]; omega) (by simpa [back, HL.out] using e3) (fun i h1 h2 => e2 (i, l.getD i e0) (back_mem l k' i (by rw [HL.out]; omega) h2))
    have k4 : BlkIs (W.putObj D (.deferred none)) (w.heap.size + 1) (entC (back l k').2).toArray 59 := blk_putObj b4 (by omega)
    have k5 : BlkIs (W.putObj D (.deferred none)) (w.heap.size + 1 + 1) #[.bool true] 4 := blk_putObj b5 (by omega)
    have hBW : RowKit.Below w.heap.size w (W.putObj D (.deferred none)) := hB.trans (belowK_b (w := w) (Nat.le_refl _) W D _ _ (by omega) hK rfl rfl)
    generalize W.putObj D (.deferred none) = WW at k4 k5 hBW ⊢
    have hc5 : WW.cell? ⟨w.heap.size + 1 + 1, 0, none⟩ = some (.bool true) := by rw [cell_blk (w := WW)]; rfl
    have e9 : (back l k').2 = l.getD (len - 1 - k') e0 := by simp [back, HL.out]
    rw [e9] at k4
    refine ⟨findV l s, ?_, rfl, hBW⟩
    unfold findV
    rw [hf]
    generalize l.getD (len - 1 - k') e0 = x at k4 ⊢
    obtain ⟨x0, x1, x2, x3, x4, x5, x6⟩ := x
    simp only [entC] at k4
    simp [results, Try.f43, go_sem, hc5, entC]
theorem findR {v : Value} {len : Nat} {l : List Ent} {s : Int} {w : World} (h : Has w 7 v len (ents l)) (hl : l.length = len) (hn2 : len ≤ 100000000) :
    Calls Try.prog 43 #[v, .int .u16 s] w (Gives (findV l s) w) :=
  (callsIn_wide (n := 3)).1 (find_in _ 3 trivial trivial trivial rfl (by omega) h hl hn2)
end Go.Proofs.Ytoefekojjagjdaa
