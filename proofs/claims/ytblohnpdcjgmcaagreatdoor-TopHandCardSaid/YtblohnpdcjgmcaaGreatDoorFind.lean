/-
  resend.find: the last entry with the number, by its contract. No condition but that the entries are not too many.
-/
import Derived.RangeFuncNested
import Derived.RangeFuncBound
import Derived.RangeFuncCalls
import Derived.RangeFuncLeaves
import Derived.RangeFuncBox
import Derived.Shelf.Abstract
import Derived.Shelf.RegionOpen
import Derived.WalkKit
import Derived.OwnWalkIn
import Derived.TacticsInMore
import Derived.LoopNIn
import Derived.LoopIn
import Derived.Test.YtblohnpdcjgmcaaGreatDoorProg
import Derived.Test.YtblohnpdcjgmcaaGreatDoorBlk
namespace Go.Proofs.YtblohnpdcjgmcaaGreatDoor
open Go.RowKit Go.Sort Go.Shelf
set_option linter.unusedVariables false
attribute [local go_sem] Oper.semAt_some
/-- The slice v has n elements of size cells each, which are xs. -/
def Has (w : World) (size : Nat) (v : Value) (n : Nat) (xs : List Value) : Prop :=
  xs.length = n * size ∧ ∃ ao cap, v = .slice ao n cap ∧ n ≤ cap ∧
    (0 < n → ∃ g off, ao = some ⟨g, off, none⟩ ∧ g < w.heap.size ∧ ∀ j u, xs[j]? = some u → w.cell? ⟨g, off + j, none⟩ = some u)
theorem Has.shape {w : World} {size n : Nat} {v : Value} {xs : List Value} (h : Has w size v n xs) : ∃ ao cap, v = .slice ao n cap ∧ n ≤ cap := by
  obtain ⟨_, ao, cap, h1, h2, _⟩ := h
  exact ⟨ao, cap, h1, h2⟩
theorem Has.cell {w : World} {size n : Nat} {xs : List Value} {ao : Option Addr} {cap : Nat} (h : Has w size (.slice ao n cap) n xs) (hn : 0 < n) : ∃ g off, ao = some ⟨g, off, none⟩ ∧ g < w.heap.size ∧ ∀ j u, xs[j]? = some u → w.cell? ⟨g, off + j, none⟩ = some u := by
  obtain ⟨_, ao', cap', h1, _, h5⟩ := h
  simp only [Value.slice.injEq, true_and] at h1
  obtain ⟨rfl, rfl⟩ := h1
  exact h5 hn
/-- An entry: its number and what else it says. -/
abbrev Ent := Int × Int × Int × Int × Int × Int × Int
def entC (x : Ent) : List Value := [.int .u16 x.1, .int .i64 x.2.1, .int .u32 x.2.2.1, .int .u16 x.2.2.2.1, .int .u32 x.2.2.2.2.1, .int .u32 x.2.2.2.2.2.1, .int .u16 x.2.2.2.2.2.2]
def ents (l : List Ent) : List Value := l.flatMap entC
def e0 : Ent := (0, 0, 0, 0, 0, 0, 0)
theorem entC_len (x : Ent) : (entC x).length = 7 := rfl
theorem ents_len (l : List Ent) : (ents l).length = l.length * 7 := by
  induction l with
  | nil => rfl
  | cons x r ih => unfold ents at *; rw [List.flatMap_cons, List.length_append, ih, entC_len, List.length_cons]; omega
theorem ents_at (l : List Ent) (k : Nat) (hk : k < l.length) (j : Nat) (hj : j < 7) : (ents l)[k * 7 + j]? = (entC (l.getD k e0))[j]? := by
  induction l generalizing k with
  | nil => simp at hk
  | cons x r ih =>
    have e : ents (x :: r) = entC x ++ ents r := by simp [ents]
    rw [e]
    cases k with
    | zero => rw [List.getElem?_append_left (by rw [entC_len]; omega)]; simp
    | succ k =>
      rw [List.getElem?_append_right (by rw [entC_len]; omega), entC_len, show (k + 1) * 7 + j - 7 = k * 7 + j by omega, ih k (by simpa using hk)]
      simp
theorem ent_cells {w : World} {n : Nat} {v : Value} {l : List Ent} (h : Has w 7 v n (ents l)) (hl : l.length = n) (k : Nat) (hk : k < n) :
    ∃ g off cap, v = .slice (some ⟨g, off, none⟩) n cap ∧ g < w.heap.size ∧ ∀ j, j < 7 → w.cell? ⟨g, off + k * 7 + j, none⟩ = (entC (l.getD k e0))[j]? := by
  obtain ⟨ao, cap, rfl, _⟩ := h.shape
  obtain ⟨g, off, rfl, hg, hcell⟩ := h.cell (by omega)
  refine ⟨g, off, cap, rfl, hg, fun j hj => ?_⟩
  have e := ents_at l k (by omega) j hj
  have e2 : (entC (l.getD k e0))[j]? = some (entC (l.getD k e0))[j] := List.getElem?_eq_getElem (by rw [entC_len]; exact hj)
  rw [e2] at e ⊢
  rw [Nat.add_assoc]
  exact hcell _ _ e
/-- The last entry with the number s. -/
def findE (l : List Ent) (s : Int) : Option Ent := l.reverse.find? (fun x => x.1 == s)
theorem findE_at {l : List Ent} {s : Int} (j : Nat) (hj : j < l.length) (h : (l.getD j e0).1 = s) (hn : ∀ i, j < i → i < l.length → (l.getD i e0).1 ≠ s) : findE l s = some (l.getD j e0) := by
  have hx : l.getD j e0 = l[j] := by rw [List.getD_eq_getElem?_getD, List.getElem?_eq_getElem hj]; rfl
  have e : l = l.take j ++ (l[j] :: l.drop (j + 1)) := by rw [← List.drop_eq_getElem_cons hj, List.take_append_drop]
  unfold findE
  rw [hx] at h ⊢
  have e2 : l.reverse = (l.drop (j + 1)).reverse ++ (l[j] :: (l.take j).reverse) := by
    have := congrArg List.reverse e
    rw [List.reverse_append, List.reverse_cons, List.append_assoc] at this
    exact this
  rw [e2, List.find?_append]
  have e3 : (l.drop (j + 1)).reverse.find? (fun x => x.1 == s) = none := by
    rw [List.find?_eq_none]
    intro x hx hxs
    rw [List.mem_reverse] at hx
    obtain ⟨i, hi, rfl⟩ := List.getElem_of_mem hx
    rw [List.length_drop] at hi
    have := hn (j + 1 + i) (by omega) (by omega)
    rw [List.getD_eq_getElem?_getD, List.getElem?_eq_getElem (by omega)] at this
    rw [List.getElem_drop] at hxs
    exact this (by simpa using hxs)
  rw [e3]
  simp [h]
theorem findE_none {l : List Ent} {s : Int} (hn : ∀ i, i < l.length → (l.getD i e0).1 ≠ s) : findE l s = none := by
  unfold findE
  rw [List.find?_eq_none]
  intro x hx hxs
  rw [List.mem_reverse] at hx
  obtain ⟨i, hi, rfl⟩ := List.getElem_of_mem hx
  have := hn i hi
  rw [List.getD_eq_getElem?_getD, List.getElem?_eq_getElem hi] at this
  exact this (by simpa using hxs)
/-- What Find hands back. -/
def findV (l : List Ent) (s : Int) : Value := .tuple #[.agg (entC ((findE l s).getD e0)).toArray, .bool (findE l s).isSome]
instance aggEnt : AggIs Tryz.prog 347 7 := ⟨⟨_, Tryz.underlying347, rfl⟩, by kernel_rfl⟩
/-- What has come when k rounds are over. -/
def upto {α : Type} (f : Nat → α) (k : Nat) : List α := (List.range k).map f
theorem upto_succ {α : Type} (f : Nat → α) (k : Nat) : upto f (k + 1) = upto f k ++ [f k] := by simp [upto, List.range_succ]
theorem upto_length {α : Type} (f : Nat → α) (k : Nat) : (upto f k).length = k := by simp [upto]
/-- The k-th from the end. -/
def back (l : List Ent) (k : Nat) : Nat × Ent := (l.length - 1 - k, l.getD (l.length - 1 - k) e0)
def encB (x : Nat × Ent) : Array Value := #[.int .i64 (x.1 : Int), .agg (entC x.2).toArray]
/-- What a round keeps: what lay below, and the box of the slice. -/
def KpB (n₀ Bs : Nat) (A B : World) : Prop := RowKit.Below n₀ A B ∧ B.cell? ⟨Bs, 0, none⟩ = A.cell? ⟨Bs, 0, none⟩
theorem KpB.refl (n₀ Bs : Nat) (A : World) : KpB n₀ Bs A A := ⟨Below.refl _ _, rfl⟩
theorem KpB.trans {n₀ Bs : Nat} {A B C : World} (h : KpB n₀ Bs A B) (k : KpB n₀ Bs B C) : KpB n₀ Bs A C := ⟨h.1.trans k.1, k.2.trans h.2⟩
set_option maxRecDepth 100000 in
set_option maxHeartbeats 1000000 in
theorem back_in (F : Fence) (n : Nat) (h46 : F.fn 297) (hro : F.round = none) (a : Option Addr) (len cap : Nat) (w : World) :
    CallsIn F n Tryz.prog 297 #[.slice a len cap] w fun e w' => e = .returned (.func (.func 315) #[] #[.pointer (some ⟨w.heap.size, 0, none⟩)]) ∧ w' = w.alloc (.cells #[.slice a len cap] 278) := by
  refine callsIn_of_wp Tryz.func297 rfl h46 ?_ hro
  simp only [Tryz.ntmps297, List.size_toArray, List.length_cons, List.length_nil, Nat.reduceAdd, Nat.reduceSub, Array.replicate_succ, Array.replicate_zero, List.push_toArray, List.append_toArray, List.nil_append, List.cons_append]
  gi_wp2
  go_ret
  exact ⟨rfl, rfl⟩
set_option maxRecDepth 100000 in
set_option maxHeartbeats 4000000 in
theorem back1_in (F : Fence) (n : Nat) (h47 : F.fn 315) (hro : F.round = none) (hn : 1 ≤ n) (l Bs n₀ len : Nat) (sv : Value) (es : List Ent) (hl : es.length = len) (hreach : len ≤ 100000000) (J Jx : List (Nat × Ent) → World → Prop)
    (hY : ∀ pre x W, J pre W → pre.length < len → YieldAt F (n - 1) Tryz.prog l (encB x) W fun e W' =>
      (e = .returned (.bool true) ∧ J (pre ++ [x]) W' ∧ KpB n₀ Bs W W') ∨ (e = .returned (.bool false) ∧ Jx (pre ++ [x]) W'))
    (W w₀ : World) (hW : RowKit.Below w₀.heap.size w₀ W) (hn₀ : w₀.heap.size ≤ n₀) (hBs : W.cell? ⟨Bs, 0, none⟩ = some sv) (hc : Has w₀ 7 sv len (ents es)) (h0 : J [] W) :
    CallsIn F n Tryz.prog 315 #[.func (.yield l) #[] #[], .pointer (some ⟨Bs, 0, none⟩)] W fun e W' => (∃ v, e = .returned v) ∧
      ((∃ ys, ys = upto (back es) len ∧ J ys W') ∨ (∃ pre, (∃ k, k ≤ len ∧ pre = upto (back es) k) ∧ Jx pre W')) := by
  have HC := Lib.hid hc
  have HL := Lib.hid hl
  obtain ⟨ao, cap, rfl, hcap⟩ := hc.shape
  clear hc hl
  refine callsIn_of_wp Tryz.func315 rfl h47 ?_ hro
  simp only [Tryz.ntmps315, List.size_toArray, List.length_cons, List.length_nil, Nat.reduceAdd, Nat.reduceSub, Array.replicate_succ, Array.replicate_zero, List.push_toArray, List.append_toArray, List.nil_append, List.cons_append]
  gi_wp2
  gi_loopw [3] (fun i wr => ∃ k : Nat, k ≤ len ∧ i = .int .i64 ((len : Int) - 1 - k) ∧ J (upto (back es) k) wr ∧ KpB n₀ Bs W wr)
    (fun i _ => (intOf i + 1).toNat)
  case atStart => exact ⟨0, Nat.zero_le _, by simp, h0, KpB.refl _ _ _⟩
  case round =>
    obtain ⟨k, hk, rfl, hJs, hnx⟩ := hrel
    have hBr : wr.cell? ⟨Bs, 0, none⟩ = some (.slice ao len cap) := hnx.2.trans hBs
    by_cases hlt : k < len
    · have hj : len - 1 - k < len := by omega
      rw [show (len : Int) - 1 - (k : Int) = ((len - 1 - k : Nat) : Int) by omega]
      have hbk : back es k = (len - 1 - k, es.getD (len - 1 - k) e0) := by unfold back; rw [HL.out]
      have hpk := upto_succ (back es) k
      rw [hbk] at hpk
      obtain ⟨fn, tmps, assign, body, hy, hR⟩ := hY _ (back es k) wr hJs (by rw [upto_length]; exact hlt)
      rw [hbk] at hy hR
      obtain ⟨j, hjj⟩ : ∃ j, j = len - 1 - k := ⟨_, rfl⟩
      rw [← hjj] at hj hpk hy hR ⊢
      obtain ⟨g, off, c, ev, hg, hc⟩ := ent_cells HC.out HL.out j hj
      simp only [Value.slice.injEq, true_and] at ev
      obtain ⟨rfl, rfl⟩ := ev
      have hBe : RowKit.Below w₀.heap.size w₀ wr := hW.trans (hnx.1.mono hn₀)
      have hcc := fun i hi => (hBe.cell (p := ⟨g, off + j * 7 + i, none⟩) (by simpa using hg)).trans (hc i hi)
      clear hc
      generalize es.getD j e0 = x at hcc hy hR hpk
      obtain ⟨x0, x1, x2, x3, x4, x5, x6⟩ := x
      have d0 := hcc 0 (by omega)
      have d1 := hcc 1 (by omega)
      have d2 := hcc 2 (by omega)
      have d3 := hcc 3 (by omega)
      have d4 := hcc 4 (by omega)
      have d5 := hcc 5 (by omega)
      have d6 := hcc 6 (by omega)
      clear hcc
      simp only [entC, List.getElem?_cons_zero, List.getElem?_cons_succ, Nat.add_zero] at d0 d1 d2 d3 d4 d5 d6
      simp only [encB, entC] at hy
      have HPK := Lib.hid hpk
      have HJ := Lib.hid hjj
      clear hpk hjj
      have i3 : (j : Int) < (len : Int) := by omega
      have i4 : (0 : Int) ≤ (j : Int) := by omega
      gi_wp2
      refine hR.mono ?_
      rintro e W3 (⟨rfl, hJ3, hk3⟩ | ⟨rfl, hJx3⟩)
      · gi_wp2
        go_roundw
        case rel => exact ⟨k + 1, by omega, by have := HJ.out; simp; omega, by rw [HPK.out]; exact hJ3, hnx.trans hk3⟩
        case measure => first | (simp [intOf]; done) | (simp [intOf]; omega)
      · gi_wp2
        refine bodyPost_ret (results_none rfl _ _ _) rfl ?_
        exact ⟨⟨_, rfl⟩, .inr ⟨_, ⟨k + 1, by omega, HPK.out.symm⟩, hJx3⟩⟩
    · obtain rfl : k = len := by omega
      rw [show (k : Int) - 1 - (k : Int) = -1 by omega]
      gi_wp2
      go_end0
      exact ⟨⟨_, rfl⟩, .inl ⟨_, rfl, hJs⟩⟩
theorem blk_own {β : Type} (b : Nat) (t : TypeId) (f : β → Array Value) : Own (fun s W => BlkIs W b (f s) t) := fun s X Y row hs hg hrow =>
  ⟨(hg.block b hs.lt (fun e' => by obtain ⟨o, ho, hc⟩ := hrow b e'.symm; rw [hs.eq] at ho; cases ho; cases hc)).trans hs.eq⟩
theorem putB_grown (W : World) (b : Nat) (cs : Array Value) (t : TypeId) : W.grownBy (putB W b cs t) (some b) :=
  ⟨rfl, rfl, rfl, by simp [putB], fun k _ hk => by
    unfold putB
    exact Array.getElem?_setIfInBounds_ne (fun e => hk (by rw [e]))⟩
theorem keepsFrom_putB {B b : Nat} (W : World) (cs : Array Value) (t : TypeId) (hb : b < B) : KeepsFrom B W (putB W b cs t) := KeepsFrom.of_grownBy (putB_grown W b cs t) (fun j e => by cases e; exact hb)
theorem blk_other {W : World} {b c : Nat} {cs ds : Array Value} {t u : TypeId} (h : BlkIs W b cs t) (hne : b ≠ c) : BlkIs (putB W c ds u) b cs t :=
  ⟨((putB_grown W c ds u).block b h.lt (fun e => hne (by cases e; rfl))).trans h.eq⟩
theorem blk_putObj {W : World} {b D : Nat} {cs : Array Value} {t : TypeId} {o : Obj} (h : BlkIs W b cs t) (hne : b ≠ D) : BlkIs (W.putObj D o) b cs t :=
  ⟨((grownBy_putObj' W D o).block b h.lt (fun e => hne (by cases e; rfl))).trans h.eq⟩
theorem back_mem (l : List Ent) (k i : Nat) (h1 : l.length - k ≤ i) (h2 : i < l.length) : (i, l.getD i e0) ∈ upto (back l) k := by
  simp only [upto, List.mem_map, List.mem_range, back]
  exact ⟨l.length - 1 - i, by omega, by rw [show l.length - 1 - (l.length - 1 - i) = i by omega]⟩
def zeroE : Array Value := #[.int .u16 0, .int .i64 0, .int .u32 0, .int .u16 0, .int .u32 0, .int .u32 0, .int .u16 0]
theorem back_stops (F : Fence) (n : Nat) (h47 : F.fn 315) (hro : F.round = none) (hn : 1 ≤ n) (Bs n₀ len : Nat) (sv : Value) (es : List Ent) (hl : es.length = len) (hreach : len ≤ 100000000) (w w₀ : World) (hBs : Bs < w.heap.size)
    (hw : RowKit.Below w₀.heap.size w₀ w) (hn₀ : w₀.heap.size ≤ n₀) (hc : w.cell? ⟨Bs, 0, none⟩ = some sv) (hI : Has w₀ 7 sv len (ents es)) :
    SeqStopsK F n Tryz.prog 315 #[.pointer (some ⟨Bs, 0, none⟩)] encB (KpB n₀ Bs) (fun ys => ys = upto (back es) len) (fun pre => ∃ k, k ≤ len ∧ pre = upto (back es) k) len w := fun l J Jx W hW _ _ hY h0 =>
  back1_in F n h47 hro hn l Bs n₀ len sv es hl hreach J Jx hY W w₀ (hw.trans (hW.mono hw.size)) hn₀ ((hW.cell (p := ⟨Bs, 0, none⟩) hBs).trans hc) hI h0
set_option maxRecDepth 100000 in
set_option maxHeartbeats 4000000 in
theorem find_in (F : Fence) (n : Nat) (h43 : F.fn 265) (h46 : F.fn 297) (h47 : F.fn 315) (hro : F.round = none) (hn : 3 ≤ n) {v : Value} {len : Nat} {l : List Ent} {s : Int} {w : World} (h : Has w 7 v len (ents l)) (hl : l.length = len) (hn2 : len ≤ 100000000) :
    CallsIn F n Tryz.prog 265 #[v, .int .u16 s] w fun e W' => e = .returned (findV l s) ∧ RowKit.Below w.heap.size w W' := by
  have h1 : 1 ≤ n := by omega
  have HH := Lib.hid h
  have HL := Lib.hid hl
  obtain ⟨ao, cap, rfl, hcap⟩ := h.shape
  clear h hl hcap
  refine callsIn_of_wp_marks Tryz.func265 rfl h43 ?_ hro
  simp only [Tryz.ntmps265, List.size_toArray, List.length_cons, List.length_nil, Nat.reduceAdd, Nat.reduceSub, Array.replicate_succ, Array.replicate_zero, List.push_toArray, List.append_toArray, List.nil_append, List.cons_append]
  gi_wp2_with (gi_at_call 297; refine (back_in F (n - 1) h46 hro _ _ _ _).mono ?_; rintro e w' ⟨rfl, rfl⟩)
  obtain ⟨W0, hW0⟩ : ∃ W0 : World, W0 = (((w.alloc (.cells #[.int .u16 s] 172)).alloc (.cells #[.int .u16 0, .int .i64 0, .int .u32 0, .int .u16 0, .int .u32 0, .int .u32 0, .int .u16 0] 347)).alloc (.cells #[.bool false] 4)).alloc (.cells #[.slice ao len cap] 278) := ⟨_, rfl⟩
  have b3 : BlkIs W0 w.heap.size #[.int .u16 s] 172 := by rw [hW0]; infer_instance
  have b4 : BlkIs W0 (w.heap.size + 1) #[.int .u16 0, .int .i64 0, .int .u32 0, .int .u16 0, .int .u32 0, .int .u32 0, .int .u16 0] 347 := by rw [hW0]; infer_instance
  have b5 : BlkIs W0 (w.heap.size + 1 + 1) #[.bool false] 4 := by rw [hW0]; infer_instance
  have b6 : BlkIs W0 (w.heap.size + 1 + 1 + 1) #[.slice ao len cap] 278 := by rw [hW0]; infer_instance
  have hB0 : RowKit.Below w.heap.size w W0 := by rw [hW0]; exact (by repeat (first | with_reducible exact Below.refl _ _ | (with_reducible refine Below.alloc ?_ ?_ _; rotate_left; focus ((try simp) <;> omega)) | (with_reducible refine Below.setCell ?_ ?_ _; rotate_left; focus ((try simp) <;> omega)) | (with_reducible refine below_grow ?_ ?_; rotate_left; focus ((try simp) <;> omega)) | (with_reducible refine below_putB ?_ ?_; rotate_left; focus ((try simp) <;> omega)) | with_reducible refine Below.drew ?_ | with_reducible refine below_drewN ?_ | with_reducible assumption | (with_reducible refine below_step (by assumption) ?_ ?_; rotate_left; focus ((try simp) <;> omega))))
  have hz0 : W0.heap.size = w.heap.size + 1 + 1 + 1 + 1 := by rw [hW0]; simp
  have c6 : W0.cell? ⟨w.heap.size + 1 + 1 + 1, 0, none⟩ = some (.slice ao len cap) := by rw [cell_blk (w := W0)]; rfl
  rw [← hW0]
  refine wpIn_rangeFunc_ownH hro h1 (gf := 315) (lb := #[.pointer (some ⟨w.heap.size + 1 + 1 + 1, 0, none⟩)]) rfl h47 (enters_of Tryz.func315 (by kernel_rfl) rfl)
    (back_stops F (n - 1) h47 hro (by omega) (w.heap.size + 1 + 1 + 1) w.heap.size len _ l HL.out hn2 W0 w (by omega) hB0 (Nat.le_refl _) c6 HH.out)
    KpB.trans (fun W q o o' hl ho hc hw => ⟨belowK_b (w := W0) (by omega) W q o o' hl ho hc hw, World.cell?_of_block ((grownBy_putObj' W q o').block _ (show w.heap.size + 1 + 1 + 1 < W.heap.size from by have := (Array.getElem?_eq_some_iff.1 ho).1; omega) (fun e => absurd (show w.heap.size + 1 + 1 + 1 = q from Option.some.inj e) (by omega)))⟩) (Below.refl _ _) (fun _ => rfl)
    (fun pre W => ((∀ p ∈ pre, p.2.1 ≠ s) ∧ BlkIs W w.heap.size #[.int .u16 s] 172 ∧ BlkIs W (w.heap.size + 1) #[.int .u16 0, .int .i64 0, .int .u32 0, .int .u16 0, .int .u32 0, .int .u32 0, .int .u16 0] 347 ∧ BlkIs W (w.heap.size + 1 + 1) #[.bool false] 4 ∧ BlkIs W (w.heap.size + 1 + 1 + 1) #[.slice ao len cap] 278) ∧ RowKit.Below w.heap.size w W)
    (fun c pre W => (∃ ini last, (c = .ret ∧ pre = ini ++ [last] ∧ (∀ p ∈ ini, p.2.1 ≠ s) ∧ last.2.1 = s) ∧ BlkIs W (w.heap.size + 1) (entC last.2).toArray 347 ∧ BlkIs W (w.heap.size + 1 + 1) #[.bool true] 4) ∧ RowKit.Below w.heap.size w W)
    (OwnFrom.and (Own.from (fun s' A B row hs hg hr => ⟨hs.1, blk_own _ _ (fun _ => _) () A B row hs.2.1 hg hr, blk_own _ _ (fun _ => _) () A B row hs.2.2.1 hg hr, blk_own _ _ (fun _ => _) () A B row hs.2.2.2.1 hg hr, blk_own _ _ (fun _ => _) () A B row hs.2.2.2.2 hg hr⟩) _) (ownFrom_below (Nat.le_refl _) (by omega)))
    (fun c => OwnFrom.and (Own.from (fun s' A B row hs hg hr => by obtain ⟨ini, last, e1, e2, e3⟩ := hs; exact ⟨ini, last, e1, blk_own _ _ (fun _ => _) () A B row e2 hg hr, blk_own _ _ (fun _ => _) () A B row e3 hg hr⟩) _) (ownFrom_below (Nat.le_refl _) (by omega)))
    ⟨⟨by simp, b3, b4, b5, b6⟩, hB0⟩
    (fun x a' W => ∃ Bx, w.heap.size + 1 + 1 + 1 < Bx ∧ BlkIs W Bx (entC x.2).toArray 347 ∧ a' = { tmps := #[.slice ao len cap, .int .u16 s, undef, .pointer (some ⟨w.heap.size, 0, none⟩), .pointer (some ⟨w.heap.size + 1, 0, none⟩), .pointer (some ⟨w.heap.size + 1 + 1, 0, none⟩), undef, .pointer (some ⟨Bx, 0, none⟩), .slice ao len cap, .func (.func 315) #[] #[.pointer (some ⟨w.heap.size + 1 + 1 + 1, 0, none⟩)], .int .i64 (x.1 : Int), .agg (entC x.2).toArray, undef, undef, undef, undef, undef, undef], defers := [] })
    (fun x a' s' A B row hs hg hr => by obtain ⟨Bx, e1, e2, e3⟩ := hs; exact ⟨Bx, e1, blk_own _ _ (fun _ => _) () A B row e2 hg (fun r e => (hr r e).2), e3⟩)
    ?assign ?body ?done ?stop
  case assign =>
    rintro q pre ⟨i, x0, x1, x2, x3, x4, x5, x6⟩ W K ⟨⟨hp, b3, b4, b5, b6⟩, hB⟩ hK
    have hBs := hB.size
    have hlt6 := b6.lt
    simp only [encB, entC]
    gi_wp2
    exact hK _ _ ((KeepsOthers.alloc _ _).from _) ⟨(by repeat (first | with_reducible exact Below.refl _ _ | (with_reducible refine Below.alloc ?_ ?_ _; rotate_left; focus ((try simp) <;> omega)) | (with_reducible refine Below.setCell ?_ ?_ _; rotate_left; focus ((try simp) <;> omega)) | (with_reducible refine below_grow ?_ ?_; rotate_left; focus ((try simp) <;> omega)) | (with_reducible refine below_putB ?_ ?_; rotate_left; focus ((try simp) <;> omega)) | with_reducible refine Below.drew ?_ | with_reducible refine below_drewN ?_ | with_reducible assumption | (with_reducible refine below_step (by assumption) ?_ ?_; rotate_left; focus ((try simp) <;> omega)))), by rw [cell_blk (w := W) (b := w.heap.size + 1 + 1 + 1)]; exact cell_blk (b := w.heap.size + 1 + 1 + 1)⟩ ⟨⟨hp, by infer_instance, by infer_instance, by infer_instance, by infer_instance⟩, (by repeat (first | with_reducible exact Below.refl _ _ | (with_reducible refine Below.alloc ?_ ?_ _; rotate_left; focus ((try simp) <;> omega)) | (with_reducible refine Below.setCell ?_ ?_ _; rotate_left; focus ((try simp) <;> omega)) | (with_reducible refine below_grow ?_ ?_; rotate_left; focus ((try simp) <;> omega)) | (with_reducible refine below_putB ?_ ?_; rotate_left; focus ((try simp) <;> omega)) | with_reducible refine Below.drew ?_ | with_reducible refine below_drewN ?_ | with_reducible assumption | (with_reducible refine below_step (by assumption) ?_ ?_; rotate_left; focus ((try simp) <;> omega))))⟩ ⟨W.heap.size, hlt6, by simp only [entC]; infer_instance, rfl⟩
  case body =>
    rintro q pre ⟨i, x0, x1, x2, x3, x4, x5, x6⟩ a' W hq ⟨r, hr⟩ ⟨⟨hp, b3, b4, b5, b6⟩, hB⟩ ⟨Bx, hBx, bX, rfl⟩ hlt
    have ne1 : NeB Bx (w.heap.size + 1) := ⟨by omega⟩
    have ne2 : NeB (w.heap.size + 1) Bx := ⟨by omega⟩
    simp only [entC] at bX
    by_cases hx : x0 = s
    · subst hx
      gi_wp2
      exact ⟨(keepsFrom_putB W _ _ (by omega)).trans (keepsFrom_putB _ _ _ (by omega)), ⟨pre, (i, x0, x1, x2, x3, x4, x5, x6), ⟨rfl, rfl, hp, rfl⟩, by simp only [entC]; infer_instance, by infer_instance⟩, (by repeat (first | with_reducible exact Below.refl _ _ | (with_reducible refine Below.alloc ?_ ?_ _; rotate_left; focus ((try simp) <;> omega)) | (with_reducible refine Below.setCell ?_ ?_ _; rotate_left; focus ((try simp) <;> omega)) | (with_reducible refine below_grow ?_ ?_; rotate_left; focus ((try simp) <;> omega)) | (with_reducible refine below_putB ?_ ?_; rotate_left; focus ((try simp) <;> omega)) | with_reducible refine Below.drew ?_ | with_reducible refine below_drewN ?_ | with_reducible assumption | (with_reducible refine below_step (by assumption) ?_ ?_; rotate_left; focus ((try simp) <;> omega))))⟩
    · gi_wp2
      exact ⟨KeepsFrom.refl _ _, KpB.refl _ _ _, ⟨fun p hp' => (List.mem_append.1 hp').elim (hp p) (fun e => by simp at e; subst e; exact hx), b3, b4, b5, b6⟩, hB⟩
  case done =>
    rintro D ys W hD rfl ⟨⟨hp, b3, b4, b5, b6⟩, hB⟩ hK
    have hne := findE_none (l := l) (s := s) (fun i hi => hp _ (back_mem l len i (by rw [HL.out]; omega) hi))
    have HNE := Lib.hid hne
    clear hne hp
    gi_wp2
    have hK' := (((keepsFrom_putB (B := W0.heap.size) W #[.int .u16 0, .int .i64 0, .int .u32 0, .int .u16 0, .int .u32 0, .int .u32 0, .int .u16 0] 347 (show w.heap.size + 1 < W0.heap.size by omega)).trans (keepsFrom_putB _ #[.bool false] 4 (show w.heap.size + 1 + 1 < W0.heap.size by omega))).same D _ hD hK rfl)
    refine ⟨by simp, .inl ⟨_, _, rfl, run_takeDeferred hK', ?_⟩⟩
    have k4 : BlkIs ((putB (putB W (w.heap.size + 1) #[.int .u16 0, .int .i64 0, .int .u32 0, .int .u16 0, .int .u32 0, .int .u32 0, .int .u16 0] 347) (w.heap.size + 1 + 1) #[.bool false] 4).putObj D (.deferred none)) (w.heap.size + 1) #[.int .u16 0, .int .i64 0, .int .u32 0, .int .u16 0, .int .u32 0, .int .u32 0, .int .u16 0] 347 := blk_putObj (by infer_instance) (by omega)
    have k5 : BlkIs ((putB (putB W (w.heap.size + 1) #[.int .u16 0, .int .i64 0, .int .u32 0, .int .u16 0, .int .u32 0, .int .u32 0, .int .u16 0] 347) (w.heap.size + 1 + 1) #[.bool false] 4).putObj D (.deferred none)) (w.heap.size + 1 + 1) #[.bool false] 4 := blk_putObj (by infer_instance) (by omega)
    have hBW : RowKit.Below w.heap.size w ((putB (putB W (w.heap.size + 1) #[.int .u16 0, .int .i64 0, .int .u32 0, .int .u16 0, .int .u32 0, .int .u32 0, .int .u16 0] 347) (w.heap.size + 1 + 1) #[.bool false] 4).putObj D (.deferred none)) :=
      (show RowKit.Below w.heap.size w (putB (putB W (w.heap.size + 1) #[.int .u16 0, .int .i64 0, .int .u32 0, .int .u16 0, .int .u32 0, .int .u32 0, .int .u16 0] 347) (w.heap.size + 1 + 1) #[.bool false] 4) from (by repeat (first | with_reducible exact Below.refl _ _ | (with_reducible refine Below.alloc ?_ ?_ _; rotate_left; focus ((try simp) <;> omega)) | (with_reducible refine Below.setCell ?_ ?_ _; rotate_left; focus ((try simp) <;> omega)) | (with_reducible refine below_grow ?_ ?_; rotate_left; focus ((try simp) <;> omega)) | (with_reducible refine below_putB ?_ ?_; rotate_left; focus ((try simp) <;> omega)) | with_reducible refine Below.drew ?_ | with_reducible refine below_drewN ?_ | with_reducible assumption | (with_reducible refine below_step (by assumption) ?_ ?_; rotate_left; focus ((try simp) <;> omega))))).trans (belowK_b (w := w) (Nat.le_refl _) _ D _ _ (by omega) hK' rfl rfl)
    generalize (putB (putB W (w.heap.size + 1) #[.int .u16 0, .int .i64 0, .int .u32 0, .int .u16 0, .int .u32 0, .int .u32 0, .int .u16 0] 347) (w.heap.size + 1 + 1) #[.bool false] 4).putObj D (.deferred none) = WW at k4 k5 hBW ⊢
    have hc5 : WW.cell? ⟨w.heap.size + 1 + 1, 0, none⟩ = some (.bool false) := by rw [cell_blk (w := WW)]; rfl
    refine ⟨findV l s, ?_, rfl, hBW⟩
    unfold findV
    rw [HNE.out]
    simp [results, Tryz.f265, go_sem, hc5, entC, e0]
  case stop =>
    rintro D c pre W hD ⟨k, hk, rfl⟩ ⟨⟨ini, last, ⟨rfl, e1, e2, e3⟩, b4, b5⟩, hB⟩ hK
    gi_wp2
    refine ⟨by simp, .inl ⟨_, _, rfl, run_takeDeferred hK, ?_⟩⟩
    obtain ⟨k', rfl⟩ : ∃ k', k = k' + 1 := by
      cases k with
      | zero => simp [upto] at e1
      | succ k' => exact ⟨k', rfl⟩
    rw [upto_succ] at e1
    obtain ⟨rfl, e5⟩ := List.append_inj' e1 rfl
    obtain rfl : back l k' = last := by simpa using e5
    have hf := findE_at (l := l) (s := s) (len - 1 - k') (by rw [HL.out]; omega) (by simpa [back, HL.out] using e3) (fun i h1 h2 => e2 (i, l.getD i e0) (back_mem l k' i (by rw [HL.out]; omega) h2))
    have k4 : BlkIs (W.putObj D (.deferred none)) (w.heap.size + 1) (entC (back l k').2).toArray 347 := blk_putObj b4 (by omega)
    have k5 : BlkIs (W.putObj D (.deferred none)) (w.heap.size + 1 + 1) #[.bool true] 4 := blk_putObj b5 (by omega)
    have hBW : RowKit.Below w.heap.size w (W.putObj D (.deferred none)) := hB.trans (belowK_b (w := w) (Nat.le_refl _) W D _ _ (by omega) hK rfl rfl)
    generalize W.putObj D (.deferred none) = WW at k4 k5 hBW ⊢
    have hc5 : WW.cell? ⟨w.heap.size + 1 + 1, 0, none⟩ = some (.bool true) := by rw [cell_blk (w := WW)]; rfl
    have e9 : (back l k').2 = l.getD (len - 1 - k') e0 := by simp [back, HL.out]
    rw [e9] at k4
    refine ⟨findV l s, ?_, rfl, hBW⟩
    unfold findV
    rw [hf]
    generalize l.getD (len - 1 - k') e0 = x at k4 ⊢
    obtain ⟨x0, x1, x2, x3, x4, x5, x6⟩ := x
    simp only [entC] at k4
    simp [results, Tryz.f265, go_sem, hc5, entC]
theorem findR {v : Value} {len : Nat} {l : List Ent} {s : Int} {w : World} (h : Has w 7 v len (ents l)) (hl : l.length = len) (hn2 : len ≤ 100000000) :
    Calls Tryz.prog 265 #[v, .int .u16 s] w (Gives (findV l s) w) :=
  (callsIn_wide (n := 3)).1 (find_in _ 3 trivial trivial trivial rfl (by omega) h hl hn2)
end Go.Proofs.YtblohnpdcjgmcaaGreatDoor
