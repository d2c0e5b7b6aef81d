/-
  Small general facts that the walks of this seat use: how a walk ends, what a call that makes memory leaves, which blocks lie in which world. No condition.
-/
import Derived.WalkKit
import Derived.WalkSpells
import Derived.WalkLawsBesides
import Derived.Deep.QuietTactic
import Derived.BigQuiet
import Derived.Lib.QuietBelow
import Derived.Lib.Hide
import Derived.Deep.RegionWith
import Derived.Test.YtoipldpekiikjaaGreatDoorTail
namespace Go.Proofs.YtoipldpekiikjaaGreatDoor
open Go.RowKit Go.Sort

/-- The end of a walk: what the results are read as, and what is asked of them. -/
theorem ret_any {P : Program} {fn : Func} {R : Ending → World → Prop} {a : Act} {w : World} (h : ∃ v, (results fn a.tmps).run P w = .ok v w ∧ R (.returned v) w) (hd : a.defers = []) : bodyPost P fn R .ret a w := by
  obtain ⟨v, h1, h2⟩ := h
  exact bodyPost_ret h1 hd h2

/-- The post of every contract here: the value, and that below the heap nothing has turned. -/
def Gives (v : Value) (w : World) (e : Ending) (w' : World) : Prop := e = .returned v ∧ Below w.heap.size w w'

theorem gives_of {v v' : Value} {w w' : World} (h : v = v') (hb : Below w.heap.size w w') : Gives v' w (.returned v) w' := ⟨by rw [h], hb⟩

/-! ### Which blocks lie in which world: found by instances, so that no depth bounds the search -/
class Old (b : Nat) (w : World) : Prop where
  lt : b < w.heap.size
/-- w1 is W with blocks more; what W held it holds. -/
class After (W : outParam World) (w1 : World) : Prop where
  below : Below W.heap.size W w1
class SizeIs (w : World) (n : outParam Nat) : Prop where
  eq : w.heap.size = n

instance (priority := low) sizeIs_self {w : World} : SizeIs w w.heap.size := ⟨rfl⟩
instance sizeIs_alloc {w : World} {n : Nat} {o : Obj} [h : SizeIs w n] : SizeIs (w.alloc o) (n + 1) := ⟨by simp [h.eq]⟩
instance sizeIs_set {w : World} {n : Nat} {a : Addr} {v : Value} [h : SizeIs w n] : SizeIs (w.setCell a v) n := ⟨by simp [World.setCell, h.eq]⟩
instance sizeIs_drew {w : World} {n : Nat} [h : SizeIs w n] : SizeIs w.drew n := ⟨h.eq⟩

instance old_new {w : World} {n : Nat} {o : Obj} [h : SizeIs w n] : Old n (w.alloc o) := ⟨by simp [h.eq]⟩
instance old_alloc {b : Nat} {w : World} {o : Obj} [h : Old b w] : Old b (w.alloc o) := ⟨by have := h.lt; simp; omega⟩
instance old_set {b : Nat} {w : World} {a : Addr} {v : Value} [h : Old b w] : Old b (w.setCell a v) := ⟨by have := h.lt; simp [World.setCell]; omega⟩
instance old_drew {b : Nat} {w : World} [h : Old b w] : Old b w.drew := ⟨h.lt⟩
instance old_drewN {b n : Nat} {w : World} [h : Old b w] : Old b (w.drewN n) := ⟨h.lt⟩
instance old_after {b : Nat} {W w1 : World} [k : After W w1] [h : Old b W] : Old b w1 := ⟨Nat.lt_of_lt_of_le h.lt k.below.size⟩
instance after_grow {W : World} {d : Nat} {os : Array Obj} : After W (grow (redrawn W d) os) := ⟨below_regrown W d os⟩
instance after_drewN {W : World} {n : Nat} : After W (W.drewN n) := ⟨⟨rfl, rfl, rfl, Nat.le_refl _, fun _ _ => rfl⟩⟩

theorem after {W w1 : World} (k : Below W.heap.size W w1) : (∀ b o [Old b W], w1.cell? ⟨b, o, none⟩ = W.cell? ⟨b, o, none⟩) ∧ (∀ b o [Old b W], w1.frozen? ⟨b, o, none⟩ = W.frozen? ⟨b, o, none⟩) :=
  ⟨fun _ _ h => k.cell h.lt, fun _ _ h => k.frozen h.lt⟩
theorem regrown_cell {W : World} {d : Nat} {os : Array Obj} {b o : Nat} [h : Old b W] : (grow (redrawn W d) os).cell? ⟨b, o, none⟩ = W.cell? ⟨b, o, none⟩ := (below_regrown W d os).cell h.lt
theorem regrown_frozen {W : World} {d : Nat} {os : Array Obj} {b o : Nat} [h : Old b W] : (grow (redrawn W d) os).frozen? ⟨b, o, none⟩ = W.frozen? ⟨b, o, none⟩ := (below_regrown W d os).frozen h.lt
theorem cell_alloc_old {b i : Nat} {w : World} {o : Obj} [h : Old b w] : (w.alloc o).cell? ⟨b, i, none⟩ = w.cell? ⟨b, i, none⟩ := World.cell?_alloc_past (w := w) o b i h.lt
theorem frozen_alloc_old {b i : Nat} {w : World} {o : Obj} [h : Old b w] : (w.alloc o).frozen? ⟨b, i, none⟩ = w.frozen? ⟨b, i, none⟩ :=
  World.frozen?_of_block (w := w) (Below.heap_alloc _ _ _ h.lt)
theorem cell_set_old {b c i j : Nat} {w : World} {v : Value} (h : b ≠ c) : (w.setCell ⟨c, j, none⟩ v).cell? ⟨b, i, none⟩ = w.cell? ⟨b, i, none⟩ :=
  World.cell?_of_block (w := w) (Below.heap_setCell _ _ _ _ h)
theorem ne_size {n k : Nat} {w : World} [h : Old n w] : (n = w.heap.size + k) = False := eq_false (by have := h.lt; omega)
theorem size_ne {n k : Nat} {w : World} [h : Old n w] : (w.heap.size + k = n) = False := eq_false (by have := h.lt; omega)
theorem ne_size0 {n : Nat} {w : World} [h : Old n w] : (n = w.heap.size) = False := eq_false (by have := h.lt; omega)
theorem size_ne0 {n : Nat} {w : World} [h : Old n w] : (w.heap.size = n) = False := eq_false (by have := h.lt; omega)
attribute [go_sem] regrown_cell regrown_frozen cell_alloc_old frozen_alloc_old ne_size size_ne ne_size0 size_ne0

/-- A contract met in a world of the class. -/
theorem Calls.regrown_gives {P : Program} {f : FuncId} {args : Array Value} {w : World} {d : Nat} {os : Array Obj} {v : Value}
    (h : Calls P f args (grow (redrawn w d) os) (Gives v (grow (redrawn w d) os))) : Calls P f args (grow (redrawn w d) os) fun e w'' => e = .returned v ∧ ∃ p : Regrown, w'' = grow (redrawn w p.d) p.os :=
  Calls.regrown_of (h.mono fun _ _ h => h)

/-- A contract of a function that leaves the world alone is one of the common form. -/
theorem Calls.gives_of_pure {P : Program} {f : FuncId} {args : Array Value} {w : World} {v : Value} (h : Calls P f args w fun e w' => e = .returned v ∧ w = w') : Calls P f args w (Gives v w) :=
  h.mono fun _ _ ⟨he, hw⟩ => ⟨he, by subst hw; exact Below.refl _ _⟩

theorem below_grow {B : Nat} {a W : World} {d : Nat} {os : Array Obj} (h : Below B a W) (hB : B ≤ W.heap.size) : Below B a (grow (redrawn W d) os) := h.trans ((below_regrown W d os).mono hB)

theorem below_drewN {B n : Nat} {a w : World} (h : Below B a w) : Below B a (w.drewN n) := h.trans ⟨rfl, rfl, rfl, Nat.le_refl _, fun _ _ => rfl⟩

theorem below_step {B : Nat} {a b c : World} (hb : Below b.heap.size b c) (h : Below B a b) (hB : B ≤ b.heap.size) : Below B a c := h.trans (hb.mono hB)

end Go.Proofs.YtoipldpekiikjaaGreatDoor
