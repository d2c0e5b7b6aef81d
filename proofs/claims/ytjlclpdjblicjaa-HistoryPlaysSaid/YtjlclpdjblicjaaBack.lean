/-
  slices.Backward over entries: what it hands back, and the iterator's contract. No condition but that the entries are not too many.
-/
import Derived.RangeFuncNested
import Derived.RangeFuncBound
import Derived.RangeFuncCalls
import Derived.RangeFuncLeaves
import Derived.RangeFuncBox
import Derived.Shelf.Abstract
import Derived.Shelf.RegionOpen
import Derived.WalkKit
import Derived.OwnWalkIn
import Derived.TacticsInMore
import Derived.LoopNIn
import Derived.LoopIn
import Derived.Test.YtjlclpdjblicjaaFindRef
namespace Go.Proofs.Ytjlclpdjblicjaa
open Go.RowKit Go.Shelf
set_option linter.unusedVariables false
attribute [local go_sem] Oper.semAt_some
/-- What has come when k rounds are over. -/
def upto {α : Type} (f : Nat → α) (k : Nat) : List α := (List.range k).map f
theorem upto_succ {α : Type} (f : Nat → α) (k : Nat) : upto f (k + 1) = upto f k ++ [f k] := by simp [upto, List.range_succ]
theorem upto_length {α : Type} (f : Nat → α) (k : Nat) : (upto f k).length = k := by simp [upto]
/-- The k-th from the end. -/
def back (l : List Ent) (k : Nat) : Nat × Ent := (l.length - 1 - k, l.getD (l.length - 1 - k) e0)
def encB (x : Nat × Ent) : Array Value := #[.int .i64 (x.1 : Int), .agg (entC x.2).toArray]
/-- What a round keeps: what lay below, and the box of the slice. -/
def KpB (n₀ Bs : Nat) (A B : World) : Prop := RowKit.Below n₀ A B ∧ B.cell? ⟨Bs, 0, none⟩ = A.cell? ⟨Bs, 0, none⟩
theorem KpB.refl (n₀ Bs : Nat) (A : World) : KpB n₀ Bs A A := ⟨Below.refl _ _, rfl⟩
theorem KpB.trans {n₀ Bs : Nat} {A B C : World} (h : KpB n₀ Bs A B) (k : KpB n₀ Bs B C) : KpB n₀ Bs A C := ⟨h.1.trans k.1, k.2.trans h.2⟩
set_option maxRecDepth 100000 in
set_option maxHeartbeats 1000000 in
theorem back_in (F : Fence) (n : Nat) (h49 : F.fn 49) (hro : F.round = none) (a : Option Addr) (len cap : Nat) (w : World) :
    CallsIn F n Try.prog 49 #[.slice a len cap] w fun e w' => e = .returned (.func (.func 53) #[] #[.pointer (some ⟨w.heap.size, 0, none⟩)]) ∧ w' = w.alloc (.cells #[.slice a len cap] 49) := by
  refine callsIn_of_wp Try.func49 rfl h49 ?_ hro
  simp only [Try.ntmps49, List.size_toArray, List.length_cons, List.length_nil, Nat.reduceAdd, Nat.reduceSub, Array.replicate_succ, Array.replicate_zero, List.push_toArray, List.append_toArray, List.nil_append, List.cons_append]
  gi_wp2
  go_ret
  exact ⟨rfl, rfl⟩
set_option maxRecDepth 100000 in
set_option maxHeartbeats 4000000 in
theorem back1_in (F : Fence) (n : Nat) (h53 : F.fn 53) (hro : F.round = none) (hn : 1 ≤ n) (l Bs n₀ len : Nat) (sv : Value) (es : List Ent) (hl : es.length = len) (hreach : len ≤ 100000000) (J Jx : List (Nat × Ent) → World → Prop)
    (hY : ∀ pre x W, J pre W → pre.length < len → YieldAt F (n - 1) Try.prog l (encB x) W fun e W' =>
      (e = .returned (.bool true) ∧ J (pre ++ [x]) W' ∧ KpB n₀ Bs W W') ∨ (e = .returned (.bool false) ∧ Jx (pre ++ [x]) W'))
    (W w₀ : World) (hW : RowKit.Below w₀.heap.size w₀ W) (hn₀ : w₀.heap.size ≤ n₀) (hBs : W.cell? ⟨Bs, 0, none⟩ = some sv) (hc : Has w₀ 7 sv len (ents es)) (h0 : J [] W) :
    CallsIn F n Try.prog 53 #[.func (.yield l) #[] #[], .pointer (some ⟨Bs, 0, none⟩)] W fun e W' => (∃ v, e = .returned v) ∧
      ((∃ ys, ys = upto (back es) len ∧ J ys W') ∨ (∃ pre, (∃ k, k ≤ len ∧ pre = upto (back es) k) ∧ Jx pre W')) := by
  have HC := Lib.hid hc
  have HL := Lib.hid hl
  obtain ⟨ao, cap, rfl, hcap, hcap'⟩ := hc.shape
  unfold maxLen at hcap'
  clear hc hl
  refine callsIn_of_wp Try.func53 rfl h53 ?_ hro
  simp only [Try.ntmps53, List.size_toArray, List.length_cons, List.length_nil, Nat.reduceAdd, Nat.reduceSub, Array.replicate_succ, Array.replicate_zero, List.push_toArray, List.append_toArray, List.nil_append, List.cons_append]
  gi_wp2
  gi_loopw [3] (fun i wr => ∃ k : Nat, k ≤ len ∧ i = .int .i64 ((len : Int) - 1 - k) ∧ J (upto (back es) k) wr ∧ KpB n₀ Bs W wr)
    (fun i _ => (intOf i + 1).toNat)
  case atStart => exact ⟨0, Nat.zero_le _, by simp, h0, KpB.refl _ _ _⟩
  case round =>
    obtain ⟨k, hk, rfl, hJs, hnx⟩ := hrel
    have hBr : wr.cell? ⟨Bs, 0, none⟩ = some (.slice ao len cap) := hnx.2.trans hBs
    by_cases hlt : k < len
    · have hj : len - 1 - k < len := by omega
      rw [show (len : Int) - 1 - (k : Int) = ((len - 1 - k : Nat) : Int) by omega]
      have hbk : back es k = (len - 1 - k, es.getD (len - 1 - k) e0) := by unfold back; rw [HL.out]
      have hpk := upto_succ (back es) k
      rw [hbk] at hpk
      obtain ⟨fn, tmps, assign, body, hy, hR⟩ := hY _ (back es k) wr hJs (by rw [upto_length]; exact hlt)
      rw [hbk] at hy hR
      obtain ⟨j, hjj⟩ : ∃ j, j = len - 1 - k := ⟨_, rfl⟩
      rw [← hjj] at hj hpk hy hR ⊢
      obtain ⟨g, off, c, ev, hg, _, hc⟩ := ent_cells HC.out HL.out j hj
      simp only [Value.slice.injEq, true_and] at ev
      obtain ⟨rfl, rfl⟩ := ev
      have hBe : RowKit.Below w₀.heap.size w₀ wr := hW.trans (hnx.1.mono hn₀)
      have hcc := fun i hi => (hBe.cell (p := ⟨g, off + j * 7 + i, none⟩) (by simpa using hg)).trans (hc i hi)
      clear hc
      generalize es.getD j e0 = x at hcc hy hR hpk
      obtain ⟨x0, x1, x2, x3, x4, x5, x6⟩ := x
      have d0 := hcc 0 (by omega)
      have d1 := hcc 1 (by omega)
      have d2 := hcc 2 (by omega)
      have d3 := hcc 3 (by omega)
      have d4 := hcc 4 (by omega)
      have d5 := hcc 5 (by omega)
      have d6 := hcc 6 (by omega)
      clear hcc
      simp only [entC, List.getElem?_cons_zero, List.getElem?_cons_succ, Nat.add_zero] at d0 d1 d2 d3 d4 d5 d6
      simp only [encB, entC] at hy
      have HPK := Lib.hid hpk
      have HJ := Lib.hid hjj
      clear hpk hjj
      have i3 : (j : Int) < (len : Int) := by omega
      have i4 : (0 : Int) ≤ (j : Int) := by omega
      gi_wp2
      refine hR.mono ?_
      rintro e W3 (⟨rfl, hJ3, hk3⟩ | ⟨rfl, hJx3⟩)
      · gi_wp2
        go_roundw
        case rel => exact ⟨k + 1, by omega, by have := HJ.out; simp; omega, by rw [HPK.out]; exact hJ3, hnx.trans hk3⟩
        case measure => first | (simp [intOf]; done) | (simp [intOf]; omega)
      · gi_wp2
        refine bodyPost_ret (results_none rfl _ _ _) rfl ?_
        exact ⟨⟨_, rfl⟩, .inr ⟨_, ⟨k + 1, by omega, HPK.out.symm⟩, hJx3⟩⟩
    · obtain rfl : k = len := by omega
      rw [show (k : Int) - 1 - (k : Int) = -1 by omega]
      gi_wp2
      go_end0
      exact ⟨⟨_, rfl⟩, .inl ⟨_, rfl, hJs⟩⟩
open Go.Sort in
theorem blk_own {β : Type} (b : Nat) (t : TypeId) (f : β → Array Value) : Own (fun s W => BlkIs W b (f s) t) := fun s X Y row hs hg hrow =>
  ⟨(hg.block b hs.lt (fun e' => by obtain ⟨o, ho, hc⟩ := hrow b e'.symm; rw [hs.eq] at ho; cases ho; cases hc)).trans hs.eq⟩
theorem putB_grown (W : World) (b : Nat) (cs : Array Value) (t : TypeId) : W.grownBy (putB W b cs t) (some b) :=
  ⟨rfl, rfl, rfl, by simp [putB], fun k _ hk => by
    unfold putB
    exact Array.getElem?_setIfInBounds_ne (fun e => hk (by rw [e]))⟩
theorem keepsFrom_putB {B b : Nat} (W : World) (cs : Array Value) (t : TypeId) (hb : b < B) : KeepsFrom B W (putB W b cs t) := KeepsFrom.of_grownBy (putB_grown W b cs t) (fun j e => by cases e; exact hb)
theorem blk_other {W : World} {b c : Nat} {cs ds : Array Value} {t u : TypeId} (h : BlkIs W b cs t) (hne : b ≠ c) : BlkIs (putB W c ds u) b cs t :=
  ⟨((putB_grown W c ds u).block b h.lt (fun e => hne (by cases e; rfl))).trans h.eq⟩
theorem blk_putObj {W : World} {b D : Nat} {cs : Array Value} {t : TypeId} {o : Obj} (h : BlkIs W b cs t) (hne : b ≠ D) : BlkIs (W.putObj D o) b cs t :=
  ⟨((grownBy_putObj' W D o).block b h.lt (fun e => hne (by cases e; rfl))).trans h.eq⟩
theorem back_mem (l : List Ent) (k i : Nat) (h1 : l.length - k ≤ i) (h2 : i < l.length) : (i, l.getD i e0) ∈ upto (back l) k := by
  simp only [upto, List.mem_map, List.mem_range, back]
  exact ⟨l.length - 1 - i, by omega, by rw [show l.length - 1 - (l.length - 1 - i) = i by omega]⟩
def zeroE : Array Value := #[.int .u16 0, .int .i64 0, .int .u32 0, .int .u16 0, .int .u32 0, .int .u32 0, .int .u16 0]
theorem back_stops (F : Fence) (n : Nat) (h53 : F.fn 53) (hro : F.round = none) (hn : 1 ≤ n) (Bs n₀ len : Nat) (sv : Value) (es : List Ent) (hl : es.length = len) (hreach : len ≤ 100000000) (w w₀ : World) (hBs : Bs < w.heap.size)
    (hw : RowKit.Below w₀.heap.size w₀ w) (hn₀ : w₀.heap.size ≤ n₀) (hc : w.cell? ⟨Bs, 0, none⟩ = some sv) (hI : Has w₀ 7 sv len (ents es)) :
    SeqStopsK F n Try.prog 53 #[.pointer (some ⟨Bs, 0, none⟩)] encB (KpB n₀ Bs) (fun ys => ys = upto (back es) len) (fun pre => ∃ k, k ≤ len ∧ pre = upto (back es) k) len w := fun l J Jx W hW _ _ hY h0 =>
  back1_in F n h53 hro hn l Bs n₀ len sv es hl hreach J Jx hY W w₀ (hw.trans (hW.mono hw.size)) hn₀ ((hW.cell (p := ⟨Bs, 0, none⟩) hBs).trans hc) hI h0
end Go.Proofs.Ytjlclpdjblicjaa
