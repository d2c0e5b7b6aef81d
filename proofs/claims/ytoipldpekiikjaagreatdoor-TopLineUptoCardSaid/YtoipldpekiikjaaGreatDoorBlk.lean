/-
  Blocks that are known whole: read and written by looking at the block alone, whatever else the world holds. No condition.
-/
import Derived.Test.YtoipldpekiikjaaGreatDoorMore
import Derived.Deep.MidRow
import Derived.Deep.Quiet
namespace Go.Proofs.YtoipldpekiikjaaGreatDoor
open Go Go.RowKit Go.Sort
set_option linter.unusedVariables false

/-- Block b holds the cells cs; they may be written. -/
class BlkIs (w : World) (b : Nat) (cs : outParam (Array Value)) (t : outParam TypeId) : Prop where
  eq : w.heap[b]? = some (.cells cs t (0, 0))
/-- The block b holds cs now. -/
def putB (w : World) (b : Nat) (cs : Array Value) (t : TypeId) : World := { w with heap := w.heap.setIfInBounds b (.cells cs t (0, 0)) }

/-- b is not c. -/
class NeB (b c : Nat) : Prop where
  ne : b ≠ c
class LtB (b c : Nat) : Prop where
  lt : b < c
class GeSize (c : Nat) (w : outParam World) : Prop where
  ge : w.heap.size ≤ c
instance ltB_succ {b : Nat} : LtB b (b + 1) := ⟨Nat.lt_succ_self _⟩
instance (priority := low) ltB_step {b c : Nat} [h : LtB b c] : LtB b (c + 1) := ⟨by have := h.lt; omega⟩
instance geSize_self {w : World} : GeSize w.heap.size w := ⟨Nat.le_refl _⟩
instance geSize_step {c : Nat} {w : World} [h : GeSize c w] : GeSize (c + 1) w := ⟨by have := h.ge; omega⟩
instance neB_lt {b c : Nat} [h : LtB b c] : NeB b c := ⟨by have := h.lt; omega⟩
instance neB_gt {b c : Nat} [h : LtB c b] : NeB b c := ⟨by have := h.lt; omega⟩
instance (priority := low) neB_old {b c : Nat} {w : World} [g : GeSize c w] [h : Old b w] : NeB b c := ⟨by have := h.lt; have := g.ge; omega⟩
instance (priority := low) neB_new {b c : Nat} {w : World} [g : GeSize b w] [h : Old c w] : NeB b c := ⟨by have := h.lt; have := g.ge; omega⟩

theorem putB_size (w : World) (b : Nat) (cs : Array Value) (t : TypeId) : (putB w b cs t).heap.size = w.heap.size := by simp [putB]
theorem putB_same {w : World} {b : Nat} {cs : Array Value} {t : TypeId} (h : b < w.heap.size) : (putB w b cs t).heap[b]? = some (.cells cs t (0, 0)) := by simp [putB, h]
theorem putB_other {w : World} {b c : Nat} {cs : Array Value} {t : TypeId} (h : b ≠ c) : (putB w c cs t).heap[b]? = w.heap[b]? := by
  simp only [putB]
  rw [Array.getElem?_setIfInBounds_ne (Ne.symm h)]
theorem BlkIs.lt {w : World} {b : Nat} {cs : Array Value} {t : TypeId} (h : BlkIs w b cs t) : b < w.heap.size := (Array.getElem?_eq_some_iff.1 h.eq).1

instance sizeIs_putB {w : World} {n b : Nat} {cs : Array Value} {t : TypeId} [h : SizeIs w n] : SizeIs (putB w b cs t) n := ⟨by rw [putB_size]; exact h.eq⟩
instance old_putB {b c : Nat} {w : World} {cs : Array Value} {t : TypeId} [h : Old b w] : Old b (putB w c cs t) := ⟨by rw [putB_size]; exact h.lt⟩
instance (priority := low) old_blk {w : World} {b : Nat} {cs : Array Value} {t : TypeId} [h : BlkIs w b cs t] : Old b w := ⟨h.lt⟩

instance blk_new {w : World} {n : Nat} {cs : Array Value} {t : TypeId} [h : SizeIs w n] : BlkIs (w.alloc (.cells cs t)) n cs t := ⟨by rw [← h.eq]; exact heap_alloc_new w _⟩
instance (priority := low) blk_alloc {w : World} {b : Nat} {cs : Array Value} {t : TypeId} {o : Obj} [h : BlkIs w b cs t] : BlkIs (w.alloc o) b cs t := ⟨by rw [Below.heap_alloc _ _ _ h.lt]; exact h.eq⟩
instance blk_drew {w : World} {b : Nat} {cs : Array Value} {t : TypeId} [h : BlkIs w b cs t] : BlkIs w.drew b cs t := ⟨h.eq⟩
instance blk_drewN {w : World} {b n : Nat} {cs : Array Value} {t : TypeId} [h : BlkIs w b cs t] : BlkIs (w.drewN n) b cs t := ⟨h.eq⟩
instance (priority := low) blk_after {W w1 : World} {b : Nat} {cs : Array Value} {t : TypeId} [k : After W w1] [h : BlkIs W b cs t] : BlkIs w1 b cs t := ⟨by rw [k.below.block _ h.lt]; exact h.eq⟩
instance blk_put {w : World} {b : Nat} {cs : Array Value} {t : TypeId} [h : Old b w] : BlkIs (putB w b cs t) b cs t := ⟨putB_same h.lt⟩
instance (priority := low) blk_far {w : World} {b c : Nat} {cs cs' : Array Value} {t t' : TypeId} [h : BlkIs w b cs t] [n : NeB b c] : BlkIs (putB w c cs' t') b cs t := ⟨by rw [putB_other n.ne]; exact h.eq⟩
instance (priority := low) blk_set_far {w : World} {b c o : Nat} {v : Value} {cs : Array Value} {t : TypeId} [h : BlkIs w b cs t] [n : NeB b c] : BlkIs (w.setCell ⟨c, o, none⟩ v) b cs t := ⟨by rw [Below.heap_setCell _ _ _ _ n.ne]; exact h.eq⟩

theorem cell_blk {w : World} {b o : Nat} {cs : Array Value} {t : TypeId} [h : BlkIs w b cs t] : w.cell? ⟨b, o, none⟩ = cs[o]? := cell_of_row w b o cs t (0, 0) h.eq
theorem frozen_blk {w : World} {b o : Nat} {cs : Array Value} {t : TypeId} [h : BlkIs w b cs t] : w.frozen? ⟨b, o, none⟩ = false := by simp [World.frozen?, h.eq]
theorem set_blk {w : World} {b o : Nat} {v : Value} {cs : Array Value} {t : TypeId} [h : BlkIs w b cs t] : w.setCell ⟨b, o, none⟩ v = putB w b (cs.setIfInBounds o v) t := by
  have e : (w.setCell ⟨b, o, none⟩ v).heap = (putB w b (cs.setIfInBounds o v) t).heap := by
    apply Array.ext_getElem?
    intro i
    by_cases hi : i = b
    · subst hi
      rw [putB_same h.lt]
      simp only [World.setCell, Array.getElem?_modify, h.eq]
      simp
    · rw [putB_other hi, Below.heap_setCell _ _ _ _ hi]
  have e1 : w.setCell ⟨b, o, none⟩ v = { w with heap := (w.setCell ⟨b, o, none⟩ v).heap } := rfl
  rw [e1, e]
  rfl
theorem putB_putB (w : World) (b : Nat) (x y : Array Value) (t t' : TypeId) : putB (putB w b x t) b y t' = putB w b y t' := by simp [putB]
theorem putB_new {w : World} {n : Nat} {cs cs' : Array Value} {t t' : TypeId} [h : SizeIs w n] : putB (w.alloc (.cells cs t)) n cs' t' = w.alloc (.cells cs' t') := by
  rw [← h.eq]
  simp only [putB, World.alloc]
  congr 1
  apply Array.ext
  · simp
  · intro i h1 h2
    have h3 : i < w.heap.size + 1 := by simpa using h2
    rw [Array.getElem_setIfInBounds (by simpa using h2)]
    by_cases e : w.heap.size = i
    · rw [if_pos e, Array.getElem_push, dif_neg (by omega)]
    · rw [if_neg e, Array.getElem_push, dif_pos (by omega), Array.getElem_push, dif_pos (by omega)]
theorem drew_putB (w : World) (b : Nat) (cs : Array Value) (t : TypeId) : putB w.drew b cs t = (putB w b cs t).drew := rfl
attribute [go_sem high] cell_blk frozen_blk set_blk putB_new
attribute [go_sem] putB_putB drew_putB
attribute [simp] putB_size
theorem below_putB {B b : Nat} {a w : World} {cs : Array Value} {t : TypeId} (h : Below B a w) (hb : B ≤ b) : Below B a (putB w b cs t) :=
  h.trans ⟨rfl, rfl, rfl, by rw [putB_size]; exact Nat.le_refl _, fun k hk => putB_other (by omega)⟩
theorem cell_put_far {w : World} {b c o : Nat} {cs : Array Value} {t : TypeId} [n : NeB b c] : (putB w c cs t).cell? ⟨b, o, none⟩ = w.cell? ⟨b, o, none⟩ := World.cell?_of_block (w := w) (putB_other n.ne)
theorem frozen_put_far {w : World} {b c o : Nat} {cs : Array Value} {t : TypeId} [n : NeB b c] : (putB w c cs t).frozen? ⟨b, o, none⟩ = w.frozen? ⟨b, o, none⟩ := World.frozen?_of_block (w := w) (putB_other n.ne)
attribute [go_sem] cell_put_far frozen_put_far

/-! ### Structs that are read and written whole -/
/-- Values of the type ty are rows of n cells. -/
class AggIs (P : Program) (ty : TypeId) (n : outParam Nat) : Prop where
  agg : ∃ d, P.underlying ty = some d ∧ d.isRow = true
  size : (P.info? ty).map (·.size) = some n
/-- The cells with these in their place. -/
def spl : Array Value → Nat → List Value → Array Value
  | cs, _, [] => cs
  | cs, o, v :: r => spl (cs.setIfInBounds o v) (o + 1) r
theorem setCells_blk : ∀ (vs : List Value) (o : Nat) (w : World) (b : Nat) (cs : Array Value) (t : TypeId) [h : BlkIs w b cs t], w.setCells b o vs = putB w b (spl cs o vs) t
  | [], o, w, b, cs, t, h => by
    have e : (putB w b cs t).heap = w.heap := by
      apply Array.ext_getElem?
      intro i
      by_cases hi : i = b
      · subst hi; rw [putB_same h.lt, h.eq]
      · rw [putB_other hi]
    have e1 : putB w b cs t = { w with heap := (putB w b cs t).heap } := rfl
    show w = putB w b cs t
    rw [e1, e]
  | v :: r, o, w, b, cs, t, h => by
    rw [World.setCells, set_blk (w := w) (b := b) (o := o) (v := v)]
    have ob : Old b w := ⟨h.lt⟩
    rw [setCells_blk r (o + 1) (putB w b (cs.setIfInBounds o v) t) b (cs.setIfInBounds o v) t, putB_putB]
    rfl
theorem rangeAt_blk {w : World} {b : Nat} {cs : Array Value} {t : TypeId} [h : BlkIs w b cs t] (o n : Nat) (part : List Value) (hp : (cs.toList.drop o).take n = part) : w.rangeAt b o part := by
  have := World.rangeAt_of_block h.eq o n
  rw [← hp]
  have e : (cs.extract o (o + n)).toList = (cs.toList.drop o).take n := by
    rw [Array.toList_extract]
    simp [List.extract]
  rwa [e] at this
theorem there_blk {w : World} {b : Nat} {cs : Array Value} {t : TypeId} [h : BlkIs w b cs t] (o n : Nat) (hn : o + n ≤ cs.size) : w.there b o n := by
  intro j hj
  rw [cell_blk (w := w) (b := b), frozen_blk (w := w) (b := b)]
  refine ⟨?_, rfl⟩
  rw [Array.getElem?_eq_getElem (by omega)]
  rfl
section
variable {P : Program} {w : World}
theorem wpList_load_blk {ops : Array Oper} {rest : List Oper} {op : Oper} {a : Act} {Q : Exit → Act → World → Prop} (hgd : op.guard = none) (ty : TypeId) (x : Operand) (ho : op.op = .load ty x) {n : Nat} [g : AggIs P ty n]
    (b o : Nat) (hx : a.eval x = .pointer (some ⟨b, o, none⟩)) {cs : Array Value} {t : TypeId} (hb : BlkIs w b cs t) (part : List Value) (hp : (cs.toList.drop o).take n = part) (hl : part.length = n)
    (h : wpList P ops Q rest (a.put op.dst (.agg part.toArray)) w) : wpList P ops Q (op :: rest) a w := by
  obtain ⟨d, hu, hd⟩ := g.agg
  exact wpList_load_mid hgd ty x ho b o hx part d (rangeAt_blk o n part hp) hu hd (by rw [g.size, hl]) h
/-- A struct that is read out of the whole block. -/
theorem wpList_load_whole {ops : Array Oper} {rest : List Oper} {op : Oper} {a : Act} {Q : Exit → Act → World → Prop} (hgd : op.guard = none) (ty : TypeId) (x : Operand) (ho : op.op = .load ty x) {n : Nat} [g : AggIs P ty n]
    (b : Nat) (hx : a.eval x = .pointer (some ⟨b, 0, none⟩)) {cs : Array Value} {t : TypeId} (hb : BlkIs w b cs t) (hl : cs.size = n)
    (h : wpList P ops Q rest (a.put op.dst (.agg cs)) w) : wpList P ops Q (op :: rest) a w :=
  wpList_load_blk hgd ty x ho b 0 hx hb cs.toList (by rw [List.drop_zero, List.take_of_length_le (by simp; omega)]) (by simp [hl]) h
theorem wpList_store_blk {ops : Array Oper} {rest : List Oper} {op : Oper} {a : Act} {Q : Exit → Act → World → Prop} (hgd : op.guard = none) (ty : TypeId) (x y : Operand) (ho : op.op = .store ty x y) {n : Nat} [g : AggIs P ty n]
    (b o : Nat) (vs : Array Value) (hx : a.eval x = .pointer (some ⟨b, o, none⟩)) (hy : a.eval y = .agg vs) {cs : Array Value} {t : TypeId} (hb : BlkIs w b cs t) (hl : vs.size = n) (hn : o + n ≤ cs.size) (h1 : vs.all (·.oneCell') = true)
    (cs' : Array Value) (hs : spl cs o vs.toList = cs')
    (h : wpList P ops Q rest (a.put op.dst undef) (putB w b cs' t)) : wpList P ops Q (op :: rest) a w := by
  refine wpList_store_mid hgd ty x y ho b o vs hx hy (there_blk o _ (by omega)) (by rw [g.size, hl]) h1 ?_
  rw [setCells_blk vs.toList o w b cs t, hs]
  exact h
theorem spl_pre : ∀ (vs : List Value) (pre : List Value) (cs : Array Value), cs.size = pre.length + vs.length → cs.toList.take pre.length = pre → (spl cs pre.length vs).toList = pre ++ vs
  | [], pre, cs, hs, hp => by
    simp only [spl, List.append_nil]
    rw [← hp]
    rw [List.length_nil, Nat.add_zero] at hs
    conv => lhs; rw [← List.take_length (l := cs.toList)]
    rw [Array.length_toList, hs]
  | v :: r, pre, cs, hs, hp => by
    have hlt : pre.length < cs.size := by rw [hs]; simp
    have := spl_pre r (pre ++ [v]) (cs.setIfInBounds pre.length v) (by simp [hs]; omega) (by
      rw [Array.toList_setIfInBounds, List.length_append, List.length_singleton]
      rw [List.take_succ_eq_append_getElem (by simpa using hlt)]
      rw [List.take_set_of_le (Nat.le_refl _), hp]
      simp)
    rw [List.length_append, List.length_singleton] at this
    rw [spl, this]
    simp
theorem spl_whole (vs cs : Array Value) (h : vs.size = cs.size) : spl cs 0 vs.toList = vs := by
  have := spl_pre vs.toList [] cs (by simp [h]) (by simp)
  simp only [List.length_nil, List.nil_append] at this
  exact Array.toList_inj.1 this
/-- A struct that is stored over the whole block. -/
theorem wpList_store_whole {ops : Array Oper} {rest : List Oper} {op : Oper} {a : Act} {Q : Exit → Act → World → Prop} (hgd : op.guard = none) (ty : TypeId) (x y : Operand) (ho : op.op = .store ty x y) {n : Nat} [g : AggIs P ty n]
    (b : Nat) (vs : Array Value) (hx : a.eval x = .pointer (some ⟨b, 0, none⟩)) (hy : a.eval y = .agg vs) {cs : Array Value} {t : TypeId} (hb : BlkIs w b cs t) (hl : vs.size = n) (hn : cs.size = n) (h1 : vs.toList.all (·.oneCell') = true)
    (h : wpList P ops Q rest (a.put op.dst undef) (putB w b vs t)) : wpList P ops Q (op :: rest) a w :=
  wpList_store_blk hgd ty x y ho b 0 vs hx hy hb hl (by omega) (by rw [← Array.all_toList]; exact h1) vs (spl_whole vs cs (by omega)) h
theorem loadVar_blk (ty : TypeId) {n : Nat} [g : AggIs P ty n] (b : Nat) {cs : Array Value} {t : TypeId} [hb : BlkIs w b cs t] (hn : cs.size = n) : (loadVar ty ⟨b, 0, none⟩).run P w = .ok (.agg cs) w := by
  obtain ⟨d, hu, hd⟩ := g.agg
  have hp : (cs.toList.drop 0).take n = cs.toList := by rw [List.drop_zero, List.take_of_length_le (by simp; omega)]
  have := run_loadVar_mid (P := P) w b 0 ty cs.toList d (rangeAt_blk 0 n cs.toList hp) hu hd (by rw [g.size]; simp [hn])
  simpa using this
/-- In a region that draws its order. -/
theorem wpQuiet_load_blk {ops : Array Oper} {C : World → Prop} {rest : List Oper} {op : Oper} {a : Act} {Q : Act → Prop} (hgd : op.guard = none) (ty : TypeId) (x : Operand) (ho : op.op = .load ty x) {n : Nat} [g : AggIs P ty n]
    (b o : Nat) (hx : a.eval x = .pointer (some ⟨b, o, none⟩)) {cs : Array Value} {t : TypeId} (hb : ∀ w, C w → BlkIs w b cs t) (part : List Value) (hp : (cs.toList.drop o).take n = part) (hl : part.length = n)
    (h : wpQuiet P ops C Q rest (a.put op.dst (.agg part.toArray))) : wpQuiet P ops C Q (op :: rest) a := by
  obtain ⟨d, hu, hd⟩ := g.agg
  have hw : Region.wanted op (yielded ops a.tmps) = true := by simp [Region.wanted, hgd]
  unfold wpQuiet
  rw [if_pos hw]
  refine ⟨.agg part.toArray, fun w hC => ?_, h⟩
  have hbb := hb w hC
  unfold Oper.quietAt execOp
  simp only [ho, hx, Instr.loadAt, Instr.sureAddr, Sem.run_bind, Sem.run_pure, Result.andThen_ok, run_loadVar_mid w b o ty part d (rangeAt_blk o n part hp) hu hd (by rw [g.size, hl])]
  exact ⟨rfl, rfl⟩
theorem wpQuiet_load_whole {ops : Array Oper} {C : World → Prop} {rest : List Oper} {op : Oper} {a : Act} {Q : Act → Prop} (hgd : op.guard = none) (ty : TypeId) (x : Operand) (ho : op.op = .load ty x) {n : Nat} [g : AggIs P ty n]
    (b : Nat) (hx : a.eval x = .pointer (some ⟨b, 0, none⟩)) {cs : Array Value} {t : TypeId} (hb : ∀ w, C w → BlkIs w b cs t) (hl : cs.size = n)
    (h : wpQuiet P ops C Q rest (a.put op.dst (.agg cs))) : wpQuiet P ops C Q (op :: rest) a :=
  wpQuiet_load_blk hgd ty x ho b 0 hx hb cs.toList (by rw [List.drop_zero, List.take_of_length_le (by simp; omega)]) (by simp [hl]) h
/-- The end of a walk whose results are two structs and a value. -/
theorem ret_cct {fn : Func} {R : Ending → World → Prop} {a : Act} (i j k : Nat) (t1 t2 : TypeId) (hr : fn.results = #[.cell i t1, .cell j t2, .tmp k]) (hd : a.defers = [])
    {n1 n2 : Nat} [g1 : AggIs P t1 n1] [g2 : AggIs P t2 n2] (b1 b2 : Nat) (v : Value) (h1 : a.tmps.getD i undef = .pointer (some ⟨b1, 0, none⟩)) (h2 : a.tmps.getD j undef = .pointer (some ⟨b2, 0, none⟩)) (h3 : a.tmps.getD k undef = v)
    {cs1 cs2 : Array Value} {u1 u2 : TypeId} (k1 : BlkIs w b1 cs1 u1) (k2 : BlkIs w b2 cs2 u2) (l1 : cs1.size = n1) (l2 : cs2.size = n2)
    (h : R (.returned (.tuple #[.agg cs1, .agg cs2, v])) w) : bodyPost P fn R .ret a w := by
  refine bodyPost_ret (v := .tuple #[.agg cs1, .agg cs2, v]) ?_ hd h
  simp only [Array.getD_eq_getD_getElem?] at h1 h2 h3
  simp [results, hr, h1, h2, h3, asAddr, loadVar_blk (P := P) (w := w) t1 b1 l1, loadVar_blk (P := P) (w := w) t2 b2 l2]
end
end Go.Proofs.YtoipldpekiikjaaGreatDoor
