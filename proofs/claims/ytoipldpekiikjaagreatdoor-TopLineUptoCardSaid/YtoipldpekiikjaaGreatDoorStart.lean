/-
  A world at the start of the call, and what stands behind it. The two listed errors are held by their variables.
-/
import Derived.Test.YtoipldpekiikjaaGreatDoorCode2
import Derived.Test.YtoipldpekiikjaaGreatDoorCloD
namespace Go.Proofs.YtoipldpekiikjaaGreatDoor.Clo
set_option linter.all false
set_option maxRecDepth 100000

def pg : QB := QB.all .dead
def pg2 : QB2 := QB2.all pg
def pg3 : QB3 := QB3.all pg2
def gvA : V := .z 467 (.p ⟨.d0,.d0,.d0,.d8⟩ 0)
def gvB : V := .z 467 (.p ⟨.d0,.d0,.d0,.d9⟩ 0)
def p0 : QB := ⟨.dead, .dead, .dead, .dead, .dead, .dead, .cl 61 .c 0 1 [gvA], .cl 61 .c 0 1 [gvB], .dead, .dead, .dead, .dead, .dead, .dead, .dead, .dead⟩
def p1 : QB2 := ⟨p0, pg, pg, pg, pg, pg, pg, pg, pg, pg, pg, pg, pg, pg, pg, pg⟩
def p2 : QB3 := ⟨p1, pg2, pg2, pg2, pg2, pg2, pg2, pg2, pg2, pg2, pg2, pg2, pg2, pg2, pg2, pg2⟩
def h0 : Hp := ⟨⟨.d0,.d0,.d0,.d10⟩, ⟨p2, pg3, pg3, pg3, pg3, pg3, pg3, pg3, pg3, pg3, pg3, pg3, pg3, pg3, pg3, pg3⟩⟩
def nA : Nm := ⟨.d0, .d0, .d0, .d6⟩
def nB : Nm := ⟨.d0, .d0, .d0, .d7⟩
theorem pg_get (d : D) : QB.get d pg = .dead := by cases d <;> rfl
theorem pg2_get (c : D) : QB2.get c pg2 = pg := by cases c <;> rfl
theorem pg3_get (b : D) : QB3.get b pg3 = pg2 := by cases b <;> rfl
theorem h0_get (x : Nm) : h0.get x = .dead ∨ (x = nA ∧ h0.get x = .cl 61 .c 0 1 [gvA]) ∨ (x = nB ∧ h0.get x = .cl 61 .c 0 1 [gvB]) := by
  obtain ⟨a, b, c, d⟩ := x
  have e : h0.get ⟨a, b, c, d⟩ = QB.get d (QB2.get c (QB3.get b (QB4.get a h0.t))) := rfl
  rw [e]
  by_cases ha : a = .d0
  · subst ha
    rw [show QB4.get .d0 h0.t = p2 from rfl]
    by_cases hb : b = .d0
    · subst hb
      rw [show QB3.get .d0 p2 = p1 from rfl]
      by_cases hc : c = .d0
      · subst hc
        rw [show QB2.get .d0 p1 = p0 from rfl]
        cases d <;> first | exact .inl rfl | exact .inr (.inl ⟨rfl, rfl⟩) | exact .inr (.inr ⟨rfl, rfl⟩)
      · left
        have : QB2.get c p1 = pg := by cases c <;> first | exact absurd rfl hc | rfl
        rw [this, pg_get]
    · left
      have : QB3.get b p2 = pg2 := by cases b <;> first | exact absurd rfl hb | rfl
      rw [this, pg2_get, pg_get]
  · left
    have : QB4.get a h0.t = pg3 := by cases a <;> first | exact absurd rfl ha | rfl
    rw [this, pg3_get, pg2_get, pg_get]

/-- The object that such a variable is. -/
def sentObj (b o : Nat) : Obj := .cells #[.iface 467 (.pointer (some ⟨b, o, none⟩))] 61
/-- The names of the start: the variables, the two errors; all other blocks are to stay. -/
def s0 (w : World) (bA oA bB oB : Nat) : Sg :=
  ⟨fun x => if x.n < 8 then some ⟨x.n, 0, 1, 1⟩ else if x.n = 8 then some ⟨bA, oA, 1, 1⟩ else if x.n = 9 then some ⟨bB, oB, 1, 1⟩ else none,
   ⟨fun b => if b = 6 ∨ b = 7 then none else w.heap[b]?, w.os, w.output, w.tape⟩⟩

/-- A world in which the two variables hold errors. -/
structure Begun (w : World) (bA oA bB oB : Nat) : Prop where
  size : 8 ≤ w.heap.size
  ltA : bA < w.heap.size
  ltB : bB < w.heap.size
  atA : w.heap[6]? = some (sentObj bA oA)
  atB : w.heap[7]? = some (sentObj bB oB)

theorem start_rel {P : Program} {w : World} {bA oA bB oB : Nat} (hg : P.globals.size = 8) (hc : P.cellsOf 61 = 1) (H : Begun w bA oA bB oB) : Rel P (s0 w bA oA bB oB) h0 (core w) := by
  have vA : VR (s0 w bA oA bB oB) gvA (.iface 467 (.pointer (some ⟨bA, oA, none⟩))) := .z _ _ _ (VR.p (σ := s0 w bA oA bB oB) ⟨.d0, .d0, .d0, .d8⟩ 0 ⟨bA, oA, 1, 1⟩ rfl)
  have vB : VR (s0 w bA oA bB oB) gvB (.iface 467 (.pointer (some ⟨bB, oB, none⟩))) := .z _ _ _ (VR.p (σ := s0 w bA oA bB oB) ⟨.d0, .d0, .d0, .d9⟩ 0 ⟨bB, oB, 1, 1⟩ rfl)
  have qA : BR P (s0 w bA oA bB oB) w.heap ⟨6, 0, 1, 1⟩ (.cl 61 .c 0 1 [gvA]) :=
    closedBR (l := [gvA]) (cs := #[.iface 467 (.pointer (some ⟨bA, oA, none⟩))]) H.atA rfl rfl (by rw [hc]) (.cons _ _ _ _ vA .nil) (by simp [Value.oneCell'])
  have qB : BR P (s0 w bA oA bB oB) w.heap ⟨7, 0, 1, 1⟩ (.cl 61 .c 0 1 [gvB]) :=
    closedBR (l := [gvB]) (cs := #[.iface 467 (.pointer (some ⟨bB, oB, none⟩))]) H.atB rfl rfl (by rw [hc]) (.cons _ _ _ _ vB .nil) (by simp [Value.oneCell'])
  refine ⟨fun x i hx => ?_, fun x y i j hx hy dx dy e => ?_, fun x hx => ?_, fun x i hx => ?_, fun g hg' => ⟨⟨g, 0, 1, 1⟩, ?_, rfl, rfl⟩, fun x hx => ?_, fun b o hb => ?_, fun x i hx dx => ?_, rfl, rfl, rfl⟩
  · rcases h0_get x with h | ⟨rfl, h⟩ | ⟨rfl, h⟩
    · rw [h]; trivial
    · rw [h]; cases hx; exact qA
    · rw [h]; cases hx; exact qB
  · rcases h0_get x with h | ⟨rfl, _⟩ | ⟨rfl, _⟩
    · exact absurd h dx
    · rcases h0_get y with h | ⟨rfl, _⟩ | ⟨rfl, _⟩
      · exact absurd h dy
      · rfl
      · cases hx; cases hy; cases e
    · rcases h0_get y with h | ⟨rfl, _⟩ | ⟨rfl, _⟩
      · exact absurd h dy
      · cases hx; cases hy; cases e
      · rfl
  · have hx : 10 ≤ x.n := hx
    show (if x.n < 8 then _ else _) = _
    rw [if_neg (by omega), if_neg (by omega), if_neg (by omega)]
  · have hx : (if x.n < 8 then some (Inf.mk x.n 0 1 1) else if x.n = 8 then some ⟨bA, oA, 1, 1⟩ else if x.n = 9 then some ⟨bB, oB, 1, 1⟩ else none) = some i := hx
    have := H.size
    split at hx
    · cases hx; show x.n < w.heap.size; omega
    · split at hx
      · cases hx; exact H.ltA
      · split at hx
        · cases hx; exact H.ltB
        · cases hx
  · show (if (Nm.of g).n < 8 then some (Inf.mk (Nm.of g).n 0 1 1) else _) = _
    rw [Nm.n_of (by omega), if_pos (by omega)]
  · have hx : 10 ≤ x.n := hx
    rcases h0_get x with h | ⟨rfl, _⟩ | ⟨rfl, _⟩
    · exact h
    · exact absurd hx (by decide)
    · exact absurd hx (by decide)
  · have hb : (if b = 6 ∨ b = 7 then none else w.heap[b]?) = some o := hb
    split at hb
    · cases hb
    · exact hb
  · rcases h0_get x with h | ⟨rfl, _⟩ | ⟨rfl, _⟩
    · exact absurd h dx
    · cases hx; rfl
    · cases hx; rfl

/-- Behind a run that has left the two variables as they were, all that was there stands. -/
structure Stood (w w' : World) : Prop where
  os : w'.os = w.os
  out : w'.output = w.output
  tape : w'.tape = w.tape
  size : w.heap.size ≤ w'.heap.size
  block : ∀ k, k < w.heap.size → w'.heap[k]? = w.heap[k]?
theorem Stood.refl (w : World) : Stood w w := ⟨rfl, rfl, rfl, Nat.le_refl _, fun _ _ => rfl⟩
theorem Stood.trans {a b c : World} (h : Stood a b) (k : Stood b c) : Stood a c :=
  ⟨k.os.trans h.os, k.out.trans h.out, k.tape.trans h.tape, Nat.le_trans h.size k.size, fun i hi => (k.block i (Nat.lt_of_lt_of_le hi h.size)).trans (h.block i hi)⟩
theorem Begun.stood {w w' : World} {bA oA bB oB : Nat} (H : Begun w bA oA bB oB) (h : Stood w w') : Begun w' bA oA bB oB :=
  ⟨Nat.le_trans H.size h.size, Nat.lt_of_lt_of_le H.ltA h.size, Nat.lt_of_lt_of_le H.ltB h.size,
   by rw [h.block _ (by have := H.size; omega)]; exact H.atA, by rw [h.block _ (by have := H.size; omega)]; exact H.atB⟩
theorem sent_stays {P : Program} {σ : Sg} {hp : Array Obj} {i : Inf} {x : Nm} {b o : Nat} (hd : i.d = 0) (hE : i.E = 1) (hx : σ x = some ⟨b, o, 1, 1⟩)
    (r : BR P σ hp i (.cl 61 .c 0 1 [.z 467 (.p x 0)])) : hp[i.blk]? = some (sentObj b o) := by
  obtain ⟨cs, fr, r⟩ := r
  have hfr := r.fr0 rfl rfl
  have hat := r.at_
  have hsz := r.size
  rw [hd, hE] at hsz
  obtain ⟨c, hc, hv, _⟩ := r.cell 0 _ rfl
  rw [hd] at hc
  rw [hat, hfr]
  cases hv with
  | z _ _ c' h =>
    obtain ⟨j, hj, rfl⟩ := h.inv_p
    rw [hx] at hj; cases hj
    have : cs = #[.iface 467 (.pointer (some ⟨b, o, none⟩))] := by
      apply Array.ext_getElem?
      intro k
      cases k with
      | zero => exact hc
      | succ k => rw [Array.getElem?_eq_none (by omega), Array.getElem?_eq_none (by simp)]
    rw [this]
    rfl
theorem stood_of {P : Program} {w w' : World} {bA oA bB oB : Nat} {σ' : Sg} {h' : Hp} (H : Begun w bA oA bB oB) (hx : Ext (s0 w bA oA bB oB) σ' h0 h') (r : Rel P σ' h' (core w'))
    (eA : h'.get nA = .cl 61 .c 0 1 [gvA]) (eB : h'.get nB = .cl 61 .c 0 1 [gvB]) : Stood w w' := by
  have hfr := hx.fr
  have o8 : σ' ⟨.d0, .d0, .d0, .d8⟩ = some ⟨bA, oA, 1, 1⟩ := hx.old _ (by decide)
  have o9 : σ' ⟨.d0, .d0, .d0, .d9⟩ = some ⟨bB, oB, 1, 1⟩ := hx.old _ (by decide)
  have kA : σ' nA = some ⟨6, 0, 1, 1⟩ := hx.old _ (by decide)
  have kB : σ' nB = some ⟨7, 0, 1, 1⟩ := hx.old _ (by decide)
  have atA : w'.heap[6]? = some (sentObj bA oA) := sent_stays rfl rfl o8 (by have := r.blk _ _ kA; rw [eA] at this; exact this)
  have atB : w'.heap[7]? = some (sentObj bB oB) := sent_stays rfl rfl o9 (by have := r.blk _ _ kB; rw [eB] at this; exact this)
  have hblk : ∀ k, k < w.heap.size → w'.heap[k]? = w.heap[k]? := fun k hk => by
    by_cases h1 : k = 6
    · subst h1; rw [atA, H.atA]
    · by_cases h2 : k = 7
      · subst h2; rw [atB, H.atB]
      · have : σ'.fr.b k = w.heap[k]? := by
          rw [hfr]
          show (if k = 6 ∨ k = 7 then none else w.heap[k]?) = _
          rw [if_neg (by omega)]
        rw [Array.getElem?_eq_getElem hk] at this
        rw [Array.getElem?_eq_getElem hk]
        exact r.fix k _ this
  refine ⟨by have := r.os; rw [hfr] at this; exact this, by have := r.out; rw [hfr] at this; exact this, by have := r.tp; rw [hfr] at this; exact this, ?_, hblk⟩
  apply Classical.byContradiction
  intro hlt
  have hs : w'.heap.size < w.heap.size := by omega
  have := hblk w'.heap.size hs
  rw [Array.getElem?_eq_none (Nat.le_refl _), Array.getElem?_eq_getElem hs] at this
  cases this
end Go.Proofs.YtoipldpekiikjaaGreatDoor.Clo
