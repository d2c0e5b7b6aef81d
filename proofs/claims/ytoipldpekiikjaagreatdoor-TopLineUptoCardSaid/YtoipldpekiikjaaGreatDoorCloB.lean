/-
  Operations of the program, compiled and run abstractly, do what they do in the model. No condition but those of each law.
-/
import Derived.Test.YtoipldpekiikjaaGreatDoorCloA
import Derived.ChangeKeysEq
import Derived.Laws.Entries
import Derived.Laws.Strings2
import Derived.Laws.StructEq
import Derived.Laws.RangeString
namespace Go.Proofs.YtoipldpekiikjaaGreatDoor.Clo
set_option linter.all false

section
variable {P : Program} {σ σ' : Sg} {h h' h2 : Hp} {w w' : World}

theorem setCells_core (b : Nat) : ∀ (vs : List Value) (o : Nat) (w : World), core (w.setCells b o vs) = (core w).with (w.setCells b o vs).heap
  | [], _, _ => rfl
  | v :: r, o, w => by rw [World.setCells, setCells_core b r]; rfl
theorem setCells_heap (b : Nat) : ∀ (vs : List Value) (o : Nat) (w : World) (cs : Array Value) (t : Nat) (fr : Nat × Nat), w.heap[b]? = some (.cells cs t fr) → o + vs.length ≤ cs.size →
    ∃ cs', (w.setCells b o vs).heap[b]? = some (.cells cs' t fr) ∧ cs'.size = cs.size ∧ (∀ j, cs'[j]? = if o ≤ j ∧ j < o + vs.length then vs[j - o]? else cs[j]?) ∧
      (∀ q, q ≠ b → (w.setCells b o vs).heap[q]? = w.heap[q]?) ∧ (w.setCells b o vs).heap.size = w.heap.size
  | [], o, w, cs, t, fr, hb, _ => ⟨cs, hb, rfl, fun j => by simp; omega, fun _ _ => rfl, rfl⟩
  | v :: r, o, w, cs, t, fr, hb, hl => by
    simp only [List.length_cons] at hl
    have h1 : (w.setCell ⟨b, o, none⟩ v).heap[b]? = some (.cells (cs.setIfInBounds o v) t fr) := by
      simp [World.setCell, Array.getElem?_modify, hb]
    obtain ⟨cs', e1, e2, e3, e4, e5⟩ := setCells_heap b r (o + 1) (w.setCell ⟨b, o, none⟩ v) (cs.setIfInBounds o v) t fr h1 (by simp; omega)
    refine ⟨cs', e1, by rw [e2]; simp, fun j => ?_, fun q hq => ?_, by rw [World.setCells, e5]; simp⟩
    · rw [e3 j]
      simp only [List.length_cons]
      by_cases hj : o + 1 ≤ j ∧ j < o + 1 + r.length
      · rw [if_pos hj, if_pos (by omega)]
        obtain ⟨k, rfl⟩ : ∃ k, j = o + 1 + k := ⟨j - (o + 1), by omega⟩
        rw [show o + 1 + k - (o + 1) = k by omega, show o + 1 + k - o = k + 1 by omega]; simp
      · rw [if_neg hj]
        by_cases hjo : j = o
        · subst hjo
          rw [if_pos (by omega), Array.getElem?_setIfInBounds_self, if_pos (by omega)]; simp
        · rw [if_neg (by omega), Array.getElem?_setIfInBounds_ne (by omega)]
    · rw [World.setCells, e4 q hq]
      simp [World.setCell, Array.getElem?_modify, Ne.symm hq]

variable {i : Inf} {t fz n : Nat} {st : BS} {l : List V} {cs : Array Value} {fr : Nat × Nat} {x : Nm}

theorem BRc.cell? (r : BRc P σ w.heap i t st fz n l cs fr) (j : Nat) : w.cell? ⟨i.blk, j, none⟩ = cs[j]? := by
  simp [World.cell?, r.at_]
theorem BRc.frozen? (r : BRc P σ w.heap i t st fz n l cs fr) (j : Nat) : w.frozen? ⟨i.blk, j, none⟩ = (decide (fr.1 ≤ j) && decide (j < fr.2)) := by
  simp [World.frozen?, r.at_]
theorem addr_add (b o j : Nat) : (⟨b, o, none⟩ : Addr).add j = ⟨b, o + j, none⟩ := by unfold Addr.add; split <;> simp_all

/-- The cells that a stretch of a block holds. -/
theorem BRc.cells (r : BRc P σ w.heap i t st fz n l cs fr) (o m : Nat) (hm : m = 0 ∨ o + m ≤ l.length) :
    ∃ vs : List Value, vs.length = m ∧ VRs σ ((l.drop o).take m) vs ∧ (∀ v ∈ vs, v.oneCell' = true) ∧ (∀ (j : Nat) v, vs[j]? = some v → w.cell? ⟨i.blk, i.d + o + j, none⟩ = some v) ∧
      (∀ (j : Nat), j < m → cs[i.d + o + j]? = vs[j]?) := by
  rcases hm with rfl | hm
  · exact ⟨[], rfl, by simpa using VRs.nil, by simp, by simp, by simp⟩
  have hsz : i.d + o + m ≤ cs.size := by have := r.size; have := r.le; have := r.len; omega
  refine ⟨(cs.toList.drop (i.d + o)).take m, by simp; omega, ?_, ?_, ?_, ?_⟩
  · refine VRs.of_get (by simp; omega) fun j v c hv hc => ?_
    rw [List.getElem?_take] at hv hc
    split at hv
    · rename_i hj
      rw [List.getElem?_drop] at hv
      rw [if_pos hj, List.getElem?_drop, Array.getElem?_toList] at hc
      obtain ⟨c', hc', hr, _⟩ := r.cell (o + j) v hv
      rw [show i.d + (o + j) = i.d + o + j by omega, hc] at hc'
      cases hc'; exact hr
    · cases hv
  · intro v hv
    obtain ⟨j, hj⟩ := List.mem_iff_getElem?.1 hv
    rw [List.getElem?_take] at hj
    split at hj
    · rw [List.getElem?_drop, Array.getElem?_toList] at hj
      have hlt : o + j < l.length := by omega
      obtain ⟨c', hc', _, h1⟩ := r.cell (o + j) l[o + j] (List.getElem?_eq_getElem hlt)
      rw [show i.d + (o + j) = i.d + o + j by omega, hj] at hc'
      cases hc'; exact h1
    · cases hj
  · intro j v hv
    rw [List.getElem?_take] at hv
    split at hv
    · rw [List.getElem?_drop, Array.getElem?_toList] at hv
      rw [r.cell?]; exact hv
    · cases hv
  · intro j hj
    rw [List.getElem?_take, if_pos hj, List.getElem?_drop, Array.getElem?_toList]
theorem BRc.load (r : BRc P σ w.heap i t st fz n l cs fr) (o m : Nat) (hm : m = 0 ∨ o + m ≤ l.length) :
    ∃ vs : List Value, vs.length = m ∧ VRs σ ((l.drop o).take m) vs ∧ (∀ v ∈ vs, v.oneCell' = true) ∧ (loadCells ⟨i.blk, i.d + o, none⟩ m).run P w = .ok vs.toArray w := by
  obtain ⟨vs, h1, h2, h3, h4, _⟩ := r.cells o m hm
  refine ⟨vs, h1, h2, h3, ?_⟩
  rw [← h1]
  exact run_loadCells_list w _ vs fun j v hv => by rw [addr_add]; exact h4 j v hv

theorem Hp.cl_ok {k : Nat → BS → Nat → Nat → List V → R1} {v : V} (e : h.cl x k = .ok v h') :
    ∃ t st fz n l, h.get x = .cl t st fz n l ∧ k t st fz n l = .ok v h' := by
  unfold Hp.cl at e
  cases hb : h.get x <;> rw [hb] at e <;> first | (cases e; done) | exact ⟨_, _, _, _, _, rfl, e⟩
theorem Rel.cl (r : Rel P σ h (core w)) (hx : σ x = some i) (hb : h.get x = .cl t st fz n l) : ∃ cs fr, BRc P σ w.heap i t st fz n l cs fr := by
  have := r.blk x i hx
  rw [hb] at this; exact this

/-- What a load gives. -/
theorem part_ok {g : Bool} {o m : Nat} {k : V → R1} {v : V} (e : part g o m l k = .ok v h') :
    (g = false ∧ ∃ x, l[o]? = some x ∧ k x = .ok v h') ∨ (g = true ∧ (m = 0 ∨ o + m ≤ l.length) ∧ k (.a ((l.drop o).take m)) = .ok v h') := by
  cases g with
  | false =>
    obtain ⟨x, r, e1, e2⟩ := hdL_ok (l := dropL o l) (k := k) e
    rw [dropL_eq] at e1
    refine .inl ⟨rfl, x, ?_, e2⟩
    have := congrArg (·[0]?) e1
    simpa [List.getElem?_drop] using this
  | true =>
    obtain ⟨e1, e2⟩ := takeC_ok m (l := dropL o l) (k := fun r => k (.a r)) e
    rw [dropL_eq] at e1 e2
    rw [List.length_drop] at e1
    exact .inr ⟨rfl, by omega, e2⟩

/-- Into a block. -/
theorem put_sim {k : Hp → R1} {v : V} {o : Nat} {xs : List V} {vs : List Value} (r : Rel P σ h (core w)) (hx : σ x = some i) (hv : VRs σ xs vs) (h1 : ∀ v ∈ vs, v.oneCell' = true)
    (e : h.put x o xs k = .ok v h') : ∃ h2 w2, k h2 = .ok v h' ∧ (storeCells ⟨i.blk, i.d + o, none⟩ vs).run P w = .ok () w2 ∧ Rel P σ h2 (core w2) ∧ h2.nx = h.nx := by
  cases hv with
  | nil => exact ⟨h, w, e, rfl, r, rfl⟩
  | cons y c ys cs hyc hs =>
    have hv : VRs σ (y :: ys) (c :: cs) := .cons _ _ _ _ hyc hs
    obtain ⟨t, st, fz, n, l, hb, e⟩ := Hp.cl_ok (k := fun t st fz n l => bR (Nat.ble fz o) (putC o (y :: ys) l fun l' => h.set x (.cl t st fz n l') k) (.no 13)) e
    obtain ⟨hfz, e⟩ := bR_no e
    have hfz := nble hfz
    obtain ⟨hle, e⟩ := putC_ok o e
    rw [Hp.set_eq] at e
    obtain ⟨cc, fr, br⟩ := r.cl hx hb
    have hlen := hv.length
    have hsz := br.size
    have hE := br.le
    have hl := br.len
    have hst := run_storeCells_cells (P := P) i.blk (i.d + o) (c :: cs) 0 w
      (fun j hj => by rw [br.cell?, Array.getElem?_eq_getElem (by omega)]; rfl)
      (fun j hj => by
        rw [br.frozen?]
        have := br.fro (o + j) (by omega)
        simp only [Bool.and_eq_false_iff, decide_eq_false_iff_not]
        by_cases h2 : fr.1 ≤ i.d + o + 0 + j
        · right; intro h3; have := this (by omega) (by omega); omega
        · exact .inl h2) h1
    obtain ⟨cs', c1, c2, c3, c4, c5⟩ := setCells_heap i.blk (c :: cs) (i.d + o) w cc t fr br.at_ (by omega)
    refine ⟨_, _, e, hst, ?_, rfl⟩
    rw [setCells_core]
    refine r.change hx (by rw [hb]; simp) c5 c4 ?_
    refine ⟨cs', fr, ⟨c1, by rw [c2]; exact hsz, by rw [put_length hle]; exact hl, hE, br.shut, br.sz, fun j q hu => ?_, br.fro, br.fro2, br.fr0⟩⟩
    rw [put_get hle] at hu
    rw [c3]
    split at hu
    · obtain ⟨c', hc', hr⟩ := br.cell j q hu
      exact ⟨c', by rw [if_neg (by omega)]; exact hc', hr⟩
    · split at hu
      · rename_i ha hb'
        obtain ⟨c', hc', hr⟩ := hv.get hu
        refine ⟨c', ?_, hr, h1 c' (List.mem_of_getElem? hc')⟩
        rw [if_pos (by omega), show i.d + j - (i.d + o) = j - o by omega]; exact hc'
      · obtain ⟨c', hc', hr⟩ := br.cell j q hu
        exact ⟨c', by rw [if_neg (by omega)]; exact hc', hr⟩

/-- A new block of cells. -/
theorem new_cells (r : Rel P σ h (core w)) {y : Nm} (hy : y.n = h.nx.n + 1) {l : List V} {cs : Array Value} {t : Nat} {st : BS} {fz : Nat} {fr : Nat × Nat} (hle : l.length ≤ cs.size)
    (hst : st = .c → cs.size = l.length) (hc : ∀ (j : Nat) (v : V), l[j]? = some v → ∃ c, cs[j]? = some c ∧ CR σ v c)
    (hf : ∀ j, j < cs.size → fr.1 ≤ j → j < fr.2 → j < fz) (hf2 : st ≠ .os → fr.2 ≤ fz ∨ fr.1 = fr.2) (hf0 : st = .c → fz = 0 → fr = (0, 0)) :
    let s := σ.add h.nx ⟨w.heap.size, 0, cs.size, P.cellsOf t⟩
    Rel P s (h.add y (.cl t st fz l.length l)) ((core w).with (w.heap.push (.cells cs t fr))) ∧ Ext σ s h (h.add y (.cl t st fz l.length l)) ∧ s h.nx = some ⟨w.heap.size, 0, cs.size, P.cellsOf t⟩ := by
  intro s
  have le : Le σ s := r.le_add (Nat.le_refl _) _
  obtain ⟨h1, h2⟩ := r.push hy (o := .cells cs t fr) (b := .cl t st fz l.length l) (i := ⟨w.heap.size, 0, cs.size, P.cellsOf t⟩) rfl
    ⟨cs, fr, ⟨by simp, by simp, rfl, hle, fun e => ⟨hst e, rfl⟩, rfl, fun j v hv => by
      obtain ⟨c, hc', hr, h1⟩ := hc j v hv
      exact ⟨c, by simpa using hc', hr.mono le, h1⟩, fun j hj => by simpa using hf j hj, fun e => by simpa using hf2 e, hf0⟩⟩
  exact ⟨h1, h2, Sg.add_self _ _ _⟩
end
end Go.Proofs.YtoipldpekiikjaaGreatDoor.Clo

namespace Go.Proofs.YtoipldpekiikjaaGreatDoor.Clo
set_option linter.all false

mutual
def ofVal : Value → V
  | .bool b => .b b
  | .int k n => if toI k (n % (2 ^ k.bits : Int)).toNat = n ∧ (n % (2 ^ k.bits : Int)).toNat < 2 ^ k.bits then .i k (n % (2 ^ k.bits : Int)).toNat else .u
  | .string s => .s s.data.toList.length (packB s.data.toList)
  | .pointer none => .p0
  | .slice none 0 0 => .s0
  | .map none => .m0
  | .nilFunc => .f0
  | .nilIface => .z0
  | .agg ⟨l⟩ => if l.all (·.oneCell') then .a (ofVals l) else .u
  | .tuple ⟨l⟩ => .t (ofVals l)
  | _ => .u
def ofVals : List Value → List V
  | [] => []
  | v :: l => ofVal v :: ofVals l
end

def dig (t : Nat) : D × D := (.of (t / 16), .of (t % 16))
/-- The temporaries that may be read: below n, and of these those that are allowed. -/
structure Tm where
  n : Nat
  ok : Nat → Bool
/-- All below n. -/
def Tm.all (n : Nat) : Tm := ⟨n, fun _ => true⟩
/-- Some below n. -/
def Tm.some (n : Nat) (l : List Nat) : Tm := ⟨n, fun t => l.contains t⟩
/-- An operand, of a function of n temporaries. -/
def opd (P : Program) (n : Tm) : Operand → Option O
  | .tmp t => if t < n.n ∧ t < 256 ∧ n.ok t = true then some (.t (dig t).1 (dig t).2) else none
  | .const v => some (.c (ofVal v))
  | .global g => if g < P.globals.size ∧ g < 65536 then some (.c (.p (.of g) 0)) else none
  | .func f => if f < 4096 then some (.c (.f (.of f) [] [])) else none
def opds (P : Program) (n : Tm) : List Operand → Option (List O)
  | [] => some []
  | x :: l => do some ((← opd P n x) :: (← opds P n l))

def agg? (P : Program) (t : TypeId) : Option Bool := (P.underlying t).map fun | .struct _ | .array _ _ => true | _ => false
def size? (P : Program) (t : TypeId) : Option Nat := (P.info? t).map (·.size)
def bytes? (P : Program) (t : TypeId) : Option Nat := (P.info? t).map (·.bytes)
def zero? (P : Program) (t : TypeId) : Option (List V) := (P.info? t).bind fun i => i.zero.bind fun v => if v.cells.toList.all (·.oneCell') then some (ofVals v.cells.toList) else none

def placesS (P : Program) (n : Tm) (fs : Array Field) : List (Nat × Operand) → Option (List (Nat × Nat × O))
  | [] => some []
  | (i, x) :: l => do
    let f ← fs[i]?
    some ((f.offset, ← size? P f.type, ← opd P n x) :: (← placesS P n fs l))
def placesA (P : Program) (n : Tm) (s : Nat) : List (Nat × Operand) → Option (List (Nat × Nat × O))
  | [] => some []
  | (i, x) :: l => do some ((i * s, s, ← opd P n x) :: (← placesA P n s l))

def rep {α : Type} (l : List α) : Nat → List α
  | 0 => []
  | n + 1 => l ++ rep l n

/-- Kinds of plain types: 0 a truth, 1 an integer, 2 a string; 3 a pointer to what has cells. -/
def kindOf (P : Program) (t : TypeId) : Option Nat := match P.underlying t with
  | some .bool => some 0
  | some (.int _) => some 1
  | some .string => some 2
  | some (.pointer e) => if (size? P e).any (0 < ·) then some 3 else none
  | _ => none
/-- The kinds of the fields of a struct of plain fields, one behind the other. -/
def kindsS (P : Program) : List Field → Nat → Option (List Nat)
  | [], _ => some []
  | f :: l, n => do
    let k ← kindOf P f.type
    if f.name = "_" ∨ f.offset ≠ n ∨ k = 3 then none else some (k :: (← kindsS P l (n + 1)))
/-- What may be in an interface value, as its first method tells. -/
def dynOf (P : Program) (ms : Array (String × TypeId)) : List (Nat × Nat) := match ms[0]? with
  | none => []
  | some (m, _) => P.types.toList.zipIdx.filterMap fun (i, t) =>
    if i.methods.any (·.name == m) && i.comparable && (P.info? t).any (·.comparable) then (kindOf P t).map (t, ·) else none

def arOf : BinOp → Option Ar
  | .add => some .add | .sub => some .sub | .mul => some .mul | .and => some .and | .or => some .or | .xor => some .xor | .andNot => some .andNot
  | .quo => some .quo | .rem => some .rem | .eql => some .eq | .neq => some .ne | .lss => some .lt | .leq => some .le | .gtr => some .gt | .geq => some .ge
  | _ => none

def isC : Operand → Bool
  | .const _ => true
  | _ => false

def compBin (P : Program) (op : BinOp) (t : TypeId) (x y : Operand) (a b : O) : Option AO :=
  match P.underlying t, op with
  | some (.int _), .shl => some (.shl a b)
  | some (.int _), .shr => some (.shr a b)
  | some (.int _), op => (arOf op).map fun f => .ar f a b
  | some .string, .add => some (.sadd a b)
  | some .string, .eql => some (.seq a b)
  | some .string, .neq => some (.sne a b)
  | some (.pointer _), .eql => if kindOf P t = some 3 then some (.qeq a b) else none
  | some (.pointer _), .neq => if kindOf P t = some 3 then some (.qne a b) else none
  | some (.interface ms), .eql => some (.ieq (isC x || isC y || ms.isEmpty) (dynOf P ms) a b)
  | some (.interface ms), .neq => some (.ine (isC x || isC y || ms.isEmpty) (dynOf P ms) a b)
  | some (.slice _), .eql => some (.geq a b)
  | some (.slice _), .neq => some (.gne a b)
  | some (.struct fs), .eql => if P.stoodInHeld t then none else (kindsS P fs.toList 0).map fun ks => .aeq ks a b
  | some (.struct fs), .neq => if P.stoodInHeld t then none else (kindsS P fs.toList 0).map fun ks => .ane ks a b
  | _, _ => none

/-- Is it an integer of any kind? of a byte? a string? -/
def isInt (P : Program) (t : TypeId) : Bool := match P.underlying t with
  | some (.int _) => true
  | _ => false
def isU8 (P : Program) (t : TypeId) : Bool := match P.underlying t with
  | some (.int .u8) => true
  | _ => false
def isStr (P : Program) (t : TypeId) : Bool := match P.underlying t with
  | some .string => true
  | _ => false
theorem isInt_eq {P : Program} {t : TypeId} (h : isInt P t = true) : ∃ k, P.underlying t = some (.int k) := by
  unfold isInt at h
  split at h
  · exact ⟨_, by assumption⟩
  · cases h
theorem isU8_eq {P : Program} {t : TypeId} (h : isU8 P t = true) : P.underlying t = some (.int .u8) := by
  unfold isU8 at h
  split at h
  · assumption
  · cases h
theorem isStr_eq {P : Program} {t : TypeId} (h : isStr P t = true) : P.underlying t = some .string := by
  unfold isStr at h
  split at h
  · assumption
  · cases h

def compCvt (P : Program) (s d : TypeId) (a : O) : Option AO := do
  match P.underlying s, P.underlying d with
  | some (.int _), some (.int k) => some (.cvt k a)
  | some .string, some (.slice e) => if isU8 P e = true ∧ size? P e = some 1 then some (.s2b e a) else none
  | some (.pointer e), some .unsafePointer => match size? P e with | some (m + 1) => some (.unp e (m + 1) a) | _ => none
  | some .unsafePointer, some (.pointer e) => match size? P e with | some (m + 1) => some (.unp e (m + 1) a) | _ => none
  | _, _ => none

def isStruct (P : Program) (t : TypeId) : Bool := match P.underlying t with
  | some (.struct _) => true
  | _ => false
/-- The methods of that name, by the dynamic type. -/
def methodAt (P : Program) (name : String) (t : TypeId) : Option (Nat × Fx) := do
  let i ← P.info? t
  let m ← i.methods.find? (·.name == name)
  let q ← m.func
  if m.path.toList.isEmpty && !q.2 && isStruct P t && decide (q.1 < 4096) then some (t, .of q.1) else none
def methodsOf (P : Program) (name : String) : List (Nat × Fx) := (List.range P.types.size).filterMap (methodAt P name)

def compBuiltin (P : Program) (b : Builtin) (ts : List TypeId) (as : List O) : Option AO :=
  match b, ts, as with
  | .append, [s, x], [a, b] => do
    let some (.slice e) := P.underlying s | none
    let m ← size? P e
    let y ← bytes? P e
    let z ← zero? P e
    if m = 0 ∨ z.length ≠ m then none else
    match P.underlying x with
    | some (.slice _) => some (.app e m y a b)
    | some .string => if m = 1 then some (.apps e y a b) else none
    | some (.int _) => some (.appz e m y z a b)
    | _ => none
  | .len, [t], [a] => match P.underlying t with
    | some .string => some (.len true a)
    | some (.slice _) => some (.len false a)
    | _ => none
  | .cap, [t], [a] => match P.underlying t with
    | some (.slice _) => some (.cap a)
    | _ => none
  | .copy, [t, x], [a, b] => do
    let some (.slice e) := P.underlying t | none
    let m ← size? P e
    match P.underlying x with
    | some (.slice _) => some (.copy false m a b)
    | some .string => if m = 1 then some (.copy true m a b) else none
    | _ => none
  | .clear, [t], [a] => do
    let some (.slice e) := P.underlying t | none
    let z ← zero? P e
    if z.length = 0 then none else some (.clr (← size? P e) z a)
  | .max, [_, _], [a, b] => some (.max a b)
  | .min, [_, _], [a, b] => some (.min a b)
  | .unsafeSliceData, _, [a] => some (.usd a)
  | .unsafeString, pt :: _, [a, b] => do
    let some (.pointer e) := P.underlying pt | none
    if size? P e = some 1 then some (.ust e a b) else none
  | _, _, _ => none

def compOp? (P : Program) (n : Tm) (o : Oper) : Option AO := do
  match o.op with
  | .move x | .assign x => some (.mv (← opd P n x))
  | .pick c a b => some (.pick (← opd P n c) (← opd P n a) (← opd P n b))
  | .alloc t => do
    let z ← zero? P t
    some (.alloc t z.length z)
  | .box t x => some (.box t (← size? P t) (← agg? P t) (← opd P n x))
  | .build t ps => do
    let z ← zero? P t
    match P.underlying t with
    | some (.struct fs) => if fs.toList.all (fun f => (size? P f.type).isSome) then some (.build z (← placesS P n fs ps.toList)) else none
    | some (.array _ e) => some (.build z (← placesA P n (← size? P e) ps.toList))
    | _ => none
  | .buildSlice t l ps => do
    let some (.slice e) := P.underlying t | none
    let m ← size? P e
    let z ← zero? P e
    if l * m > 10000 ∨ z.length ≠ m then none else
    some (.bsl e l m (rep z l) (← placesA P n m ps.toList))
  | .load t a => some (.ld (← agg? P t) (← size? P t) (← opd P n a))
  | .store t a x => do
    let g ← agg? P t
    let m ← size? P t
    if g = false ∧ m ≠ 1 then none else some (.st g m (← opd P n a) (← opd P n x))
  | .nilCheck x => some (.nil (← opd P n x))
  | .binOp op t x y _ => do compBin P op t x y (← opd P n x) (← opd P n y)
  | .unOp .not _ x => some (.not (← opd P n x))
  | .convert s d x => do compCvt P s d (← opd P n x)
  | .makeInterface t x => match P.underlying t with
    | some (.interface _) => none
    | some _ => do some (.mkif t (← opd P n x))
    | none => none
  | .makeFunc (.func f) a b => if f < 4096 then do some (.mkfn (.of f) (← opds P n a.toList) (← opds P n b.toList)) else none
  | .makeMap _ none => some .mkmap
  | .makeSlice t l c => do
    let some (.slice e) := P.underlying t | none
    let m ← size? P e
    let z ← zero? P e
    if z.length ≠ m then none else some (.mksl e m (← bytes? P e) z (← opd P n l) (← opd P n c))
  | .slice t x lo hi mx => do
    let x ← opd P n x
    let lo ← (match lo with | none => some none | some y => (opd P n y).map some)
    let hi' ← (match hi with | none => some none | some y => (opd P n y).map some)
    let mx' ← (match mx with | none => some none | some y => (opd P n y).map some)
    match P.underlying t with
    | some .string => if mx.isSome then none else some (.sls x lo hi')
    | some (.slice e) => do
      let m ← size? P e
      if m = 0 ∨ (mx.isSome && hi.isNone) then none else some (.sll e m x lo hi' mx')
    | _ => none
  | .fieldAddr s x i => do
    let some (.struct fs) := P.underlying s | none
    let f ← fs[i]?
    if (size? P f.type).any (0 < ·) then some (.fa f.offset (← opd P n x)) else none
  | .field t x i => do
    let some (.struct fs) := P.underlying t | none
    let f ← fs[i]?
    some (.fld (← agg? P f.type) f.offset (← size? P f.type) (← opd P n x))
  | .indexAddr t x i => do
    match P.underlying t with
    | some (.array l e) => some (.iap l (← size? P e) (← opd P n x) (← opd P n i))
    | some (.slice e) => some (.ias (← size? P e) (← opd P n x) (← opd P n i))
    | _ => none
  | .index t x i => do
    match P.underlying t with
    | some .string => some (.ixs (← opd P n x) (← opd P n i))
    | some (.array l e) => some (.ixa (← agg? P e) l (← size? P e) (← opd P n x) (← opd P n i))
    | _ => none
  | .lookup t x i false => do
    let some (.map k _) := P.underlying t | none
    if isInt P k = true then some (.lk (← opd P n x) (← opd P n i)) else none
  | .mapUpdate t m k v => do
    let some (.map q _) := P.underlying t | none
    if isInt P q = true then some (.mup (← opd P n m) (← opd P n k) (← opd P n v)) else none
  | .range t x => if isStr P t = true then do some (.rng (← opd P n x)) else none
  | .next it true => do some (.nxt (← opd P n it))
  | .typeAssert x _ t ok => do
    match P.underlying t with
    | none | some (.interface _) => none
    | some _ => match ok with
      | false => some (.tas t none (← opd P n x))
      | true => do
        let i ← P.info? t
        some (.tas t (some (ofVal (← i.zero))) (← opd P n x))
  | .extract t i => do some (.ext i (← opd P n t))
  | .call c => do
    let as ← opds P n c.args.toList
    match c.callee with
    | .value (.func f) => if f < 4096 then some (.call (.of f) as) else none
    | .value x => do some (.callv (← opd P n x) as)
    | .invoke x m => do some (.calli (methodsOf P m) (← opd P n x) as)
    | .builtin b => compBuiltin P b c.argTypes.toList as
  | _ => none

def compOp (P : Program) (n : Tm) (o : Oper) : AO := (compOp? P n o).getD .bad

/-- Does it change the heap (other than by a new block of its own), or call? -/
def AO.loud : AO → Bool
  | .st .. | .s2b .. | .mksl .. | .mup .. | .rng _ | .nxt _ | .call .. | .callv .. | .calli .. | .app .. | .apps .. | .appz .. | .copy .. | .clr .. | .ust .. | .bad => true
  | _ => false
def AO.makes : AO → Bool
  | .alloc .. | .box .. | .bsl .. | .mkmap => true
  | _ => false
def AO.looks : AO → Bool
  | .ld .. | .lk .. | .unp .. | .sll .. => true
  | _ => false

structure OI where
  o : Oper
  a : AO
  bef : Nat
  reads : List Tmp

def readsOf (ops : Array Oper) (o : Oper) : List Tmp :=
  (o.op.operands.toList.filterMap fun | .tmp t => some t | _ => none) ++
  (match o.guard with | some (j, _) => ((ops[j]?).bind (·.dst)).toList | none => [])

/-- The order: what is not loud as early as may be. -/
def early (l : List (Nat × OI)) : Nat → Nat → List (Nat × OI) → List (Nat × OI)
  | 0, _, acc => acc.reverse
  | f + 1, done, acc =>
    let ready (x : Nat × OI) : Bool := !done.testBit x.1 && (x.2.bef &&& done) == x.2.bef
    match l.find? (fun x => ready x && !x.2.a.loud) with
    | some x => early l f (done ||| 2 ^ x.1) (x :: acc)
    | none => match l.find? ready with
      | some x => early l f (done ||| 2 ^ x.1) (x :: acc)
      | none => acc.reverse

def gd (ops : Array Oper) (o : Oper) : Option (Option ((D × D) × Bool)) := match o.guard with
  | none => some none
  | some (j, w) => match (ops[j]?).bind (·.dst) with
    | some t => if t < 256 then some (some (dig t, w)) else none
    | none => none
def dd (n : Nat) (o : Oper) : Option (Option (D × D)) := match o.dst with
  | none => some none
  | some t => if t < n ∧ t < 256 then some (some (dig t)) else none

def stepOf (ops : Array Oper) (n : Nat) (o : Oper) (a : AO) : Option AS := do
  match ← gd ops o, ← dd n o with
  | none, d => some (.op d a)
  | some (g, w), d => some (.og g w d a)
/-- A second look at a float. -/
def lookOf (ops : Array Oper) (n : Nat) (o : Oper) (a : AO) : Option AS := do
  match ← gd ops o, ← dd n o with
  | none, some d => some (if a.makes then .ca d a else .ck d a)
  | some (g, w), some d => some (if a.makes then .cag g w d a else .ckg g w d a)
  | _, none => none

/-- What is behind what, in the order that was chosen: each loud one before all that come behind it; each name's readers and writers. -/
def ordered : List (Nat × OI) → Bool
  | [] => true
  | (i, x) :: l =>
    l.all (fun (_, y) => (!x.a.loud || y.bef.testBit i) &&
      (match x.o.dst with | some d => (!y.reads.contains d || y.bef.testBit i) && y.o.dst != some d | none => true) &&
      (match y.o.dst with | some d => !x.reads.contains d || y.bef.testBit i | none => true)) &&
    (match x.o.dst with | some d => !x.reads.contains d | none => true) &&
    ordered l

/-- Each comes behind all that is before it, and all come. -/
def befOk : List (Nat × OI) → Nat → Nat → Bool
  | [], m, full => m == full
  | (i, x) :: l, m, full => (x.bef &&& m) == x.bef && !m.testBit i && befOk l (m ||| 2 ^ i) full

/-- Does it make a block, as the program says it? -/
def isMade : Op → Bool
  | .alloc _ | .box .. | .buildSlice .. | .makeMap _ none => true
  | _ => false
/-- The floats that are open at a loud one. -/
def opens (x : OI) (pre : List (Nat × OI)) : List (Nat × OI) :=
  pre.filter fun (i, y) => (y.a.makes || y.a.looks) && !x.bef.testBit i
/-- No name that the floats read is written behind them up to here. -/
def stands (pre : List (Nat × OI)) (y : OI) (i : Nat) : Bool :=
  ((pre.dropWhile (fun z => z.1 != i)).all fun z => match z.2.o.dst with | some d => !y.reads.contains d | none => true)

def walk (ops : Array Oper) (n : Nat) : List (Nat × OI) → List (Nat × OI) → Option (List AS)
  | _, [] => some []
  | pre, x :: l => do
    let s ← stepOf ops n x.2.o x.2.a
    let more ← (if x.2.a.loud then
        (opens x.2 pre).mapM fun y => if stands (pre ++ [x]) y.2 y.1 then lookOf ops n y.2.o y.2.a else none
      else some [])
    some (s :: more ++ (← walk ops n (pre ++ [x]) l))

def infos (P : Program) (ops : Array Oper) (n : Nat) : List (Nat × OI) :=
  let b := Region.before ops
  ops.toList.zipIdx.map fun (o, i) => (i, { o, a := compOp P (.some n (readsOf ops o)) o, bef := b.getD i 0, reads := readsOf ops o })

def compDrawn (P : Program) (n : Nat) (ops : Array Oper) : Option (List AS) :=
  let l := infos P ops n
  let c := early l ops.size 0 []
  if ordered c && befOk c 0 (2 ^ ops.size - 1) && c.all (fun z => !z.2.a.makes || isMade z.2.o.op) then walk ops n [] c else none

def compPlain (P : Program) (n : Nat) (ops : Array Oper) : List Oper → Option (List AS)
  | [] => some []
  | o :: l => do some ((← stepOf ops n o (compOp P (.all n) o)) :: (← compPlain P n ops l))

def comp (P : Program) (n : Nat) : Code → AC
  | .skip => .skip
  | .ret => .ret
  | .exit i => .exit i
  | .seq a b => .seq (comp P n a) (comp P n b)
  | .cond c a b => match opd P (.all n) c with
    | some c => .cond c (comp P n a) (comp P n b)
    | none => .bad
  | .block i a => .block i (comp P n a)
  | .loop a => .loop (comp P n a)
  | .region _ ops false => match compPlain P n ops ops.toList with
    | some l => .reg l
    | none => .bad
  | .region _ ops true => match compDrawn P n ops with
    | some l => .reg l
    | none => .bad
  | _ => .bad

def compRes (P : Program) (n : Nat) : List ResultVar → Option (List RV)
  | [] => some []
  | .tmp t :: l => if t < n ∧ t < 256 then do some (.t (dig t).1 (dig t).2 :: (← compRes P n l)) else none
  | .cell t ty :: l => if t < n ∧ t < 256 then do some (.c (← agg? P ty) (← size? P ty) (dig t).1 (dig t).2 :: (← compRes P n l)) else none

def extNo (name : String) : Option Nat :=
  if name = "internal/abi.NoEscape" then some 0 else if name = "internal/bytealg.CountString" then some 1
  else if name = "internal/bytealg.IndexByteString" then some 2 else if name = "internal/bytealg.MakeNoZero" then some 3 else none

def compFn (P : Program) (fn : Func) : FE := match fn.body with
  | none => match extNo fn.name with
    | some k => .ext k
    | none => .no
  | some c => if fn.name = "sluicegate/resend.find" then
      match fn.results.toList with
      | .cell _ t :: _ => match size? P t, zero? P t with | some m, some z => .find m z | _, _ => .no
      | _ => .no
    else if fn.ntmps > 256 ∨ fn.name = "runtime.NumGoroutine" then .no else match compRes P fn.ntmps fn.results.toList with
    | some r => .fn (comp P fn.ntmps c) r
    | none => .no

end Go.Proofs.YtoipldpekiikjaaGreatDoor.Clo

namespace Go.Proofs.YtoipldpekiikjaaGreatDoor.Clo
set_option linter.all false

mutual
theorem ofVal_sim (σ : Sg) : ∀ v : Value, VR σ (ofVal v) v
  | .bool b => by rw [ofVal]; exact .b b
  | .int k n => by
    rw [ofVal]
    split
    · rename_i hc
      have := VR.i (σ := σ) k (n % (2 ^ k.bits : Int)).toNat (by rw [mod_eq]; exact hc.2)
      rw [hc.1] at this; exact this
    · exact .u _
  | .string s => by rw [ofVal]; exact .s s _ _ rfl rfl
  | .pointer none => by rw [ofVal]; exact .p0
  | .slice none 0 0 => by rw [ofVal]; exact .s0
  | .map none => by rw [ofVal]; exact .m0
  | .nilFunc => by rw [ofVal]; exact .f0
  | .nilIface => by rw [ofVal]; exact .z0
  | .agg ⟨l⟩ => by
    rw [ofVal]
    split
    · rename_i hc; exact .a _ _ (ofVals_sim σ l) (by simpa using hc)
    · exact .u _
  | .tuple ⟨l⟩ => by rw [ofVal]; exact .t _ _ (ofVals_sim σ l)
  | .pointer (some a) => by simp only [ofVal]; exact .u _
  | .slice (some a) l c => by simp only [ofVal]; exact .u _
  | .slice none (l + 1) c => by simp only [ofVal]; exact .u _
  | .slice none 0 (c + 1) => by simp only [ofVal]; exact .u _
  | .map (some a) => by simp only [ofVal]; exact .u _
  | .chan a => by simp only [ofVal]; exact .u _
  | .func _ _ _ => by simp only [ofVal]; exact .u _
  | .iface _ _ => by simp only [ofVal]; exact .u _
  | .float _ _ => by simp only [ofVal]; exact .u _
  | .complex _ _ _ => by simp only [ofVal]; exact .u _
theorem ofVals_sim (σ : Sg) : ∀ l : List Value, VRs σ (ofVals l) l
  | [] => by rw [ofVals]; exact .nil
  | v :: l => by rw [ofVals]; exact .cons _ _ _ _ (ofVal_sim σ v) (ofVals_sim σ l)
end

section inv
variable {σ : Sg} {c : Value}
theorem VR.inv_b {x : Bool} (h : VR σ (.b x) c) : c = .bool x := by cases h; rfl
theorem VR.inv_i {k : IntKind} {n : Nat} (h : VR σ (.i k n) c) : n < mod k ∧ c = .int k (toI k n) := by cases h with | i _ _ h => exact ⟨h, rfl⟩
theorem VR.inv_s {l n : Nat} (h : VR σ (.s l n) c) : ∃ bs : ByteArray, c = .string bs ∧ bs.data.toList.length = l ∧ packB bs.data.toList = n := by cases h with | s bs _ _ h1 h2 => exact ⟨bs, rfl, h1, h2⟩
theorem VR.inv_p0 (h : VR σ .p0 c) : c = .pointer none := by cases h; rfl
theorem VR.inv_p {x : Nm} {o : Nat} (h : VR σ (.p x o) c) : ∃ i, σ x = some i ∧ c = .pointer (some ⟨i.blk, i.d + o, none⟩) := by cases h with | p _ _ i h => exact ⟨i, h, rfl⟩
theorem VR.inv_s0 (h : VR σ .s0 c) : c = .slice none 0 0 := by cases h; rfl
theorem VR.inv_se (h : VR σ .se c) : ∃ a n, c = .slice (some a) 0 n := by cases h with | se a n => exact ⟨a, n, rfl⟩
theorem VR.inv_sl {x : Nm} {o l k : Nat} (h : VR σ (.sl x o l k) c) : ∃ i cap, σ x = some i ∧ c = .slice (some ⟨i.blk, i.d + o, none⟩) l cap ∧ l ≤ cap ∧ (k = 0 → cap * i.sz + o = i.E) ∧ (∀ m, k = m + 1 → cap = m) := by
  cases h with | sl _ _ _ _ i cap h h1 h2 h3 => exact ⟨i, cap, h, rfl, h1, h2, h3⟩
theorem VR.inv_m {x : Nm} (h : VR σ (.m x) c) : ∃ i, σ x = some i ∧ c = .map (some i.blk) := by cases h with | m _ i h => exact ⟨i, h, rfl⟩
theorem VR.inv_f {x : Fx} {fs cs : List V} (h : VR σ (.f x fs cs) c) : ∃ vs ws : Array Value, c = .func (.func x.n) vs ws ∧ VRs σ fs vs.toList ∧ VRs σ cs ws.toList := by
  cases h with | f _ _ _ vs ws h h' => exact ⟨vs, ws, rfl, h, h'⟩
theorem VR.inv_z0 (h : VR σ .z0 c) : c = .nilIface := by cases h; rfl
theorem VR.inv_z {t : Nat} {v : V} (h : VR σ (.z t v) c) : ∃ d, c = .iface t d ∧ VR σ v d := by cases h with | z _ _ d h => exact ⟨d, rfl, h⟩
theorem VR.inv_a {l : List V} (h : VR σ (.a l) c) : ∃ cs : Array Value, c = .agg cs ∧ VRs σ l cs.toList ∧ (∀ x ∈ cs.toList, x.oneCell' = true) := by cases h with | a _ cs h h1 => exact ⟨cs, rfl, h, h1⟩
theorem VR.inv_t {l : List V} (h : VR σ (.t l) c) : ∃ cs : Array Value, c = .tuple cs ∧ VRs σ l cs.toList := by cases h with | t _ cs h => exact ⟨cs, rfl, h⟩
end inv

/-- The temporaries as the abstract ones say. -/
def EnvR (σ : Sg) (n : Tm) (e : QE) (ts : Array Value) : Prop := n.n ≤ ts.size ∧ ∀ t, t < 256 → n.ok t = true → VR σ (QV.get (dig t).2 (QE.get (dig t).1 e)) (ts.getD t undef)
theorem EnvR.mono {σ σ' : Sg} {n : Tm} {e : QE} {ts : Array Value} (le : Le σ σ') (h : EnvR σ n e ts) : EnvR σ' n e ts := ⟨h.1, fun t ht hk => (h.2 t ht hk).mono le⟩

/-- A value that comes out. -/
def SimV (P : Program) (σ : Sg) (h h' : Hp) (w : World) (v : V) (s : Sem Value) : Prop :=
  ∃ σ' c w', s.run P w = .ok c w' ∧ Ext σ σ' h h' ∧ Rel P σ' h' (core w') ∧ VR σ' v c
/-- What an operation comes to. -/
def NextOk (P : Program) (σ : Sg) (h h' : Hp) (w : World) (v : V) (s : Sem Next) : Prop :=
  (∃ σ' c w', s.run P w = .ok (.value c) w' ∧ Ext σ σ' h h' ∧ Rel P σ' h' (core w') ∧ VR σ' v c) ∨
  (∃ σ' w', s.run P w = .ok .skip w' ∧ Ext σ σ' h h' ∧ Rel P σ' h' (core w') ∧ v = .t []) ∨
  (∃ f args, s.run P w = .ok (.enter f args) w ∧ Calls P f args w fun
    | .returned c, w' => ∃ σ', Ext σ σ' h h' ∧ Rel P σ' h' (core w') ∧ VR σ' v c
    | _, _ => False)
/-- What a call comes to. -/
def CallOk (P : Program) (cf : CF) : Prop := ∀ f as h v h', cf f as h = .ok v h' → ∀ σ w (args : Array Value), Rel P σ h (core w) → VRs σ as args.toList → NextOk P σ h h' w v (callFunc f.n args)
def OpSim (P : Program) (n : Tm) (o : Oper) (ao : AO) : Prop := ∀ (cf : CF) (σ : Sg) (h : Hp) (w : World) (e : QE) (a : Act) (v : V) (h' : Hp),
  CallOk P cf → Rel P σ h (core w) → EnvR σ n e a.tmps → ao.go cf h e = .ok v h' → NextOk P σ h h' w v (execOp a.eval o)

section
variable {P : Program} {σ : Sg} {h h' : Hp} {w : World} {n : Tm} {e : QE} {a : Act} {v : V} {hp : Array Obj}

theorem opd_sim {hp : Core} (r : Rel P σ h hp) (he : EnvR σ n e a.tmps) {x : Operand} {y : O} (hx : opd P n x = some y) : VR σ (y.v e) (a.eval x) := by
  cases x with
  | tmp t =>
    simp only [opd] at hx
    split at hx
    · rename_i ht; cases hx; exact he.2 t ht.2.1 ht.2.2
    · cases hx
  | const c => cases hx; exact ofVal_sim σ c
  | global g =>
    simp only [opd] at hx
    split at hx
    · rename_i hg; cases hx
      obtain ⟨i, h1, h2, h3⟩ := r.glob g hg.1
      have := VR.p (σ := σ) (Nm.of g) 0 i h1
      rw [h2, h3] at this; exact this
    · cases hx
  | func f =>
    simp only [opd] at hx
    split at hx
    · rename_i hf; cases hx
      have := VR.f (σ := σ) (Fx.of f) [] [] #[] #[] .nil .nil
      rw [Fx.n_of hf] at this; exact this
    · cases hx
theorem opds_sim {hp : Core} (r : Rel P σ h hp) (he : EnvR σ n e a.tmps) : ∀ {xs : List Operand} {ys : List O}, opds P n xs = some ys → VRs σ (ys.map (·.v e)) (xs.map a.eval)
  | [], _, hx => by cases hx; exact .nil
  | x :: xs, ys, hx => by
    simp only [opds, Option.bind_eq_bind, Option.bind_eq_some_iff, Option.some.injEq] at hx
    obtain ⟨y, h1, ys', h2, rfl⟩ := hx
    exact .cons _ _ _ _ (opd_sim r he h1) (opds_sim r he h2)
theorem vals_eq (l : List O) : ∀ (e : QE) (k : List V → R1), vals l e k = k (l.map (·.v e)) := by
  induction l with
  | nil => intro e k; rfl
  | cons x l ih => intro e k; exact ih e (fun r => k (x.v e :: r))

theorem SimV.here {s : Sem Value} {c : Value} (hr : s.run P w = .ok c w) (r : Rel P σ h (core w)) (hv : VR σ v c) : SimV P σ h h w v s := ⟨σ, c, w, hr, .refl _ _, r, hv⟩
theorem NextOk.val {s : Sem Value} (hs : SimV P σ h h' w v s) : NextOk P σ h h' w v (do let x ← s; pure (Next.value x)) := by
  obtain ⟨σ', c, w', hr, he, r, hv⟩ := hs
  exact .inl ⟨σ', c, w', by rw [Sem.run_bind, hr]; rfl, he, r, hv⟩
theorem NextOk.here {c : Value} (r : Rel P σ h (core w)) (hv : VR σ v c) : NextOk P σ h h w v (pure (Next.value c)) := .inl ⟨σ, c, w, rfl, .refl _ _, r, hv⟩

theorem okB_ok {b : Bool} (e : okB b h = .ok v h') : v = .b b ∧ h' = h := by cases b <;> (cases e; exact ⟨rfl, rfl⟩)
theorem okN_ok {b : Bool} (e : okN b h = .ok v h') : v = .b (!b) ∧ h' = h := by cases b <;> (cases e; exact ⟨rfl, rfl⟩)
theorem okI_ok {k : IntKind} {m : Nat} (e : okI k h m = .ok v h') : v = .i k m ∧ h' = h := by
  rw [okI, fo_eq] at e; cases e; exact ⟨rfl, rfl⟩
theorem okL_ok {m : Nat} (e : okL m h = .ok v h') : v = .i .i64 m ∧ h' = h ∧ m ≤ 1000000 := by
  obtain ⟨hm, e⟩ := bR_no e
  cases e; exact ⟨rfl, rfl, nble hm⟩
theorem VR.len (σ : Sg) {m : Nat} (hm : m ≤ 1000000) : VR σ (.i .i64 m) (goInt m) := by
  have := VR.i (σ := σ) .i64 m (by show m < 18446744073709551616; omega)
  have e : toI .i64 m = m := toI_pos (by simp [pos, sgn, half]; omega)
  rw [e] at this; exact this
theorem idx_ok {x : V} {k : Nat → R1} {c : Value} (hx : VR σ x c) (e : idx x k = .ok v h) : ∃ q m, x = .i q m ∧ c = .int q m ∧ m < mod q ∧ pos q m = true ∧ k m = .ok v h := by
  obtain ⟨q, m, rfl, e⟩ := asI_ok e
  obtain ⟨hp, e⟩ := bR_no e
  cases hx with
  | i _ _ hm => exact ⟨q, m, rfl, by rw [toI_pos hp], hm, hp, e⟩

theorem binOp_int {op : BinOp} {t : TypeId} {k : IntKind} {x y : Int} (hs : op ≠ .shl) (hr : op ≠ .shr) : binOp op t (.int k x) (.int k y) = (match op with
    | .add | .sub | .mul => Op.intArith op k x y
    | .quo | .rem => Op.intDiv op k x y
    | .and | .or | .xor | .andNot => Op.intBits op k x y
    | _ => Op.intCmp op x y) := by
  cases op <;> first | exact absurd rfl hs | exact absurd rfl hr | simp [binOp]
theorem eqGuard_plain {op : BinOp} {t : TypeId} {x y : Operand} {c d : Value} (h : (match c, d with | .nilIface, .nilIface => false | .agg _, .agg _ => false | _, _ => true) = true) :
    (eqGuard op t x y c d).run P w = .ok () w := by
  unfold eqGuard
  cases op <;> first | rfl | (cases c <;> cases d <;> first | rfl | simp at h)

theorem land_lt {k : IntKind} {x y : Nat} (hx : x < mod k) : x &&& y < mod k := Nat.lt_of_le_of_lt Nat.and_le_left hx
theorem lor_lt {k : IntKind} {x y : Nat} (hx : x < mod k) (hy : y < mod k) : x ||| y < mod k := by rw [mod_eq] at *; exact Nat.or_lt_two_pow hx hy
theorem xor_lt {k : IntKind} {x y : Nat} (hx : x < mod k) (hy : y < mod k) : x ^^^ y < mod k := by rw [mod_eq] at *; exact Nat.xor_lt_two_pow hx hy

theorem arith_sim {op : BinOp} {f : Ar} {t : TypeId} {k : IntKind} {x y : Nat} (hf : arOf op = some f) (hx : x < mod k) (hy : y < mod k) (r : Rel P σ h (core w))
    (e : arith f k x y h = .ok v h') : SimV P σ h h' w v (binOp op t (.int k (toI k x)) (.int k (toI k y))) := by
  have hs : op ≠ .shl := by rintro rfl; cases hf
  have hr : op ≠ .shr := by rintro rfl; cases hf
  rw [binOp_int hs hr]
  cases op <;> cases hf
  case add => obtain ⟨rfl, rfl⟩ := okI_ok e; exact .here (by simp [Op.intArith, toI_add]; rfl) r (.i _ _ (Nat.mod_lt _ (mod_pos k)))
  case sub => obtain ⟨rfl, rfl⟩ := okI_ok e; exact .here (by simp [Op.intArith, toI_sub _ _ (Nat.le_of_lt hy)]; rfl) r (.i _ _ (Nat.mod_lt _ (mod_pos k)))
  case mul => obtain ⟨rfl, rfl⟩ := okI_ok e; exact .here (by simp [Op.intArith, toI_mul]; rfl) r (.i _ _ (Nat.mod_lt _ (mod_pos k)))
  case quo =>
    obtain ⟨px, e⟩ := bR_no e
    obtain ⟨py, e⟩ := bR_no e
    rcases nR_ok e with ⟨_, e⟩ | ⟨y', rfl, e⟩
    · cases e
    obtain ⟨rfl, rfl⟩ := okI_ok e
    have hle : x / (y' + 1) ≤ x := Nat.div_le_self _ _
    refine .here (c := .int k (toI k (x / (y' + 1)))) ?_ r (.i _ _ (Nat.lt_of_le_of_lt hle hx))
    rw [toI_pos px, toI_pos py, toI_pos (pos_le px hle)]
    have : ¬ ((y' + 1 : Nat) : Int) = 0 := by omega
    simp only [Op.intDiv, this, if_false, Sem.run_pure]
    rw [show ((x : Int).tdiv ((y' + 1 : Nat) : Int)) = ((x / (y' + 1) : Nat) : Int) from rfl, wrap_small (Nat.lt_of_le_of_lt hle hx) (pos_le px hle)]
  case rem =>
    obtain ⟨px, e⟩ := bR_no e
    obtain ⟨py, e⟩ := bR_no e
    rcases nR_ok e with ⟨_, e⟩ | ⟨y', rfl, e⟩
    · cases e
    obtain ⟨rfl, rfl⟩ := okI_ok e
    have hle : x % (y' + 1) ≤ x := Nat.mod_le _ _
    refine .here (c := .int k (toI k (x % (y' + 1)))) ?_ r (.i _ _ (Nat.lt_of_le_of_lt hle hx))
    rw [toI_pos px, toI_pos py, toI_pos (pos_le px hle)]
    have : ¬ ((y' + 1 : Nat) : Int) = 0 := by omega
    simp only [Op.intDiv, this, if_false, Sem.run_pure]
    rfl
  case and =>
    obtain ⟨rfl, rfl⟩ := okI_ok e
    refine .here ?_ r (.i _ _ (land_lt hx))
    simp only [Op.intBits, ofInt_toI, Sem.run_pure, BitVec.toNat_and, BitVec.toNat_ofNat]
    rw [mod_eq] at hx hy
    rw [Nat.mod_eq_of_lt hx, Nat.mod_eq_of_lt hy, toI_bits (land_lt (by rw [mod_eq]; exact hx))]; rfl
  case or =>
    obtain ⟨rfl, rfl⟩ := okI_ok e
    refine .here ?_ r (.i _ _ (lor_lt hx hy))
    have hl := lor_lt hx hy
    simp only [Op.intBits, ofInt_toI, Sem.run_pure, BitVec.toNat_or, BitVec.toNat_ofNat]
    rw [mod_eq] at hx hy
    rw [Nat.mod_eq_of_lt hx, Nat.mod_eq_of_lt hy, toI_bits hl]; rfl
  case xor =>
    obtain ⟨rfl, rfl⟩ := okI_ok e
    refine .here ?_ r (.i _ _ (xor_lt hx hy))
    have hl := xor_lt hx hy
    simp only [Op.intBits, ofInt_toI, Sem.run_pure, BitVec.toNat_xor, BitVec.toNat_ofNat]
    rw [mod_eq] at hx hy
    rw [Nat.mod_eq_of_lt hx, Nat.mod_eq_of_lt hy, toI_bits hl]; rfl
  case andNot =>
    obtain ⟨rfl, rfl⟩ := okI_ok e
    refine .here ?_ r (.i _ _ (land_lt hx))
    have hl := land_lt (y := mod k - 1 - y) hx
    simp only [Op.intBits, ofInt_toI, Sem.run_pure, BitVec.toNat_and, BitVec.toNat_not, BitVec.toNat_ofNat]
    have hm := mod_eq k
    rw [mod_eq] at hx hy
    rw [Nat.mod_eq_of_lt hx, Nat.mod_eq_of_lt hy, ← hm, toI_bits hl]; rfl
  case eql =>
    obtain ⟨rfl, rfl⟩ := okB_ok e
    refine .here ?_ r (.b _)
    simp only [Op.intCmp, Sem.run_pure, nbeq_eq]
    by_cases hxy : x = y
    · subst hxy; simp
    · have : toI k x ≠ toI k y := fun h => hxy (toI_inj hx hy h)
      simp [hxy, this]
  case neq =>
    obtain ⟨rfl, rfl⟩ := okN_ok e
    refine .here ?_ r (.b _)
    simp only [Op.intCmp, Sem.run_pure, nbeq_eq]
    by_cases hxy : x = y
    · subst hxy; simp
    · have : toI k x ≠ toI k y := fun h => hxy (toI_inj hx hy h)
      simp [hxy, this]
  case lss =>
    obtain ⟨rfl, rfl⟩ := okB_ok e
    refine .here ?_ r (.b _)
    simp only [Op.intCmp, Sem.run_pure, nble_eq, nsucc, Nat.succ_le_iff, ord_lt hx hy]
  case leq =>
    obtain ⟨rfl, rfl⟩ := okB_ok e
    refine .here ?_ r (.b _)
    simp only [Op.intCmp, Sem.run_pure, nble_eq, ord_le hx hy]
  case gtr =>
    obtain ⟨rfl, rfl⟩ := okB_ok e
    refine .here ?_ r (.b _)
    simp only [Op.intCmp, Sem.run_pure, nble_eq, nsucc, Nat.succ_le_iff, ord_lt hy hx]
  case geq =>
    obtain ⟨rfl, rfl⟩ := okB_ok e
    refine .here ?_ r (.b _)
    simp only [Op.intCmp, Sem.run_pure, nble_eq, ord_le hy hx]
end
end Go.Proofs.YtoipldpekiikjaaGreatDoor.Clo

namespace Go.Proofs.YtoipldpekiikjaaGreatDoor.Clo
set_option linter.all false
section
variable {P : Program} {n : Tm} {o : Oper}

theorem sim_mv {x : Operand} {y : O} (hx : opd P n x = some y) (ho : o.op = .move x ∨ o.op = .assign x) : OpSim P n o (.mv y) := by
  intro cf σ h w e a v h' _ r he g
  cases (show R1.ok (y.v e) h = .ok v h' from g)
  have : execOp a.eval o = pure (.value (a.eval x)) := by rcases ho with ho | ho <;> simp [execOp, ho]
  rw [this]
  exact .here r (opd_sim r he hx)

theorem sim_pick {c x y : Operand} {c' x' y' : O} (hc : opd P n c = some c') (hx : opd P n x = some x') (hy : opd P n y = some y') (ho : o.op = .pick c x y) : OpSim P n o (.pick c' x' y') := by
  intro cf σ h w e a v h' _ r he g
  have vc := opd_sim r he hc
  have hex : execOp a.eval o = (do pure (.value (if ← asBool (a.eval c) then a.eval x else a.eval y))) := by simp [execOp, ho]
  rw [hex]
  rcases asB_ok (show asB (c'.v e) (.ok (x'.v e) h) (.ok (y'.v e) h) = .ok v h' from g) with ⟨h1, g⟩ | ⟨h1, g⟩ <;> (cases g; rw [h1] at vc; generalize a.eval c = cv at *; cases vc)
  · exact .inl ⟨σ, a.eval x, w, rfl, .refl _ _, r, opd_sim r he hx⟩
  · exact .inl ⟨σ, a.eval y, w, rfl, .refl _ _, r, opd_sim r he hy⟩

theorem sim_nil {x : Operand} {y : O} (hx : opd P n x = some y) (ho : o.op = .nilCheck x) : OpSim P n o (.nil y) := by
  intro cf σ h w e a v h' _ r he g
  have vc := opd_sim r he hx
  obtain ⟨b, off, h1, g⟩ := asP_ok (show asP (y.v e) (fun a o => .ok (.p a o) h) = .ok v h' from g)
  cases g
  rw [h1] at vc
  obtain ⟨i, hi, hv⟩ := vc.inv_p
  have hex : execOp a.eval o = pure (.value (a.eval x)) := by simp [execOp, ho, hv]
  rw [hex, hv]
  exact .here r (.p _ _ i hi)

theorem sim_not {x : Operand} {t : TypeId} {y : O} (hx : opd P n x = some y) (ho : o.op = .unOp .not t x) : OpSim P n o (.not y) := by
  intro cf σ h w e a v h' _ r he g
  have vc := opd_sim r he hx
  have hex : execOp a.eval o = (do let v ← Op.unary .not (a.eval x); pure (.value v)) := by simp [execOp, ho]
  rw [hex]
  rcases asB_ok (show asB (y.v e) (.ok (.b false) h) (.ok (.b true) h) = .ok v h' from g) with ⟨h1, g⟩ | ⟨h1, g⟩ <;> (cases g; rw [h1] at vc; generalize a.eval x = cv at *; cases vc)
  · exact .val (.here (c := .bool false) rfl r (.b _))
  · exact .val (.here (c := .bool true) rfl r (.b _))

theorem exec_bin {op : BinOp} {t yt : TypeId} {x y : Operand} {a : Act} (ho : o.op = .binOp op t x y yt) :
    execOp a.eval o = (do let v ← (do eqGuard op t x y (a.eval x) (a.eval y); binOp op t (a.eval x) (a.eval y)); pure (.value v)) := by simp [execOp, ho]
theorem SimV.guard {σ : Sg} {h h' : Hp} {w : World} {v : V} {op : BinOp} {t : TypeId} {x y : Operand} {c d : Value} {s : Sem Value}
    (hg : (eqGuard op t x y c d).run P w = .ok () w) (hs : SimV P σ h h' w v s) : SimV P σ h h' w v (do eqGuard op t x y c d; s) := by
  obtain ⟨σ', u, w', hr, r⟩ := hs
  exact ⟨σ', u, w', by rw [Sem.run_bind, hg]; exact hr, r⟩

theorem sim_ar {op : BinOp} {t yt : TypeId} {x y : Operand} {x' y' : O} {f : Ar} (hx : opd P n x = some x') (hy : opd P n y = some y') (hf : arOf op = some f)
    (ho : o.op = .binOp op t x y yt) : OpSim P n o (.ar f x' y') := by
  intro cf σ h w e a v h' _ r he g
  have vx := opd_sim r he hx
  have vy := opd_sim r he hy
  obtain ⟨k, m, h1, g⟩ := asI_ok (show asI (x'.v e) (fun k n => asI (y'.v e) fun k' m => bR (kin k k') (arith f k n m h) (.no 45)) = .ok v h' from g)
  obtain ⟨k', m', h2, g⟩ := asI_ok g
  obtain ⟨hk, g2⟩ := bR_no g
  rw [kin_eq] at hk
  have hk := of_decide_eq_true hk
  subst hk
  rw [exec_bin ho]
  rw [h1] at vx; rw [h2] at vy
  obtain ⟨hm, ex⟩ := vx.inv_i
  obtain ⟨hm', ey⟩ := vy.inv_i
  rw [ex, ey]
  exact .val (.guard (eqGuard_plain rfl) (arith_sim hf hm hm' r g2))

theorem sim_shl {t yt : TypeId} {x y : Operand} {x' y' : O} (hx : opd P n x = some x') (hy : opd P n y = some y') (ho : o.op = .binOp .shl t x y yt) : OpSim P n o (.shl x' y') := by
  intro cf σ h w e a v h' _ r he g
  have vx := opd_sim r he hx
  have vy := opd_sim r he hy
  obtain ⟨k, m, h1, g⟩ := asI_ok (show asI (x'.v e) (fun k n => idx (y'.v e) fun m => bR (Nat.ble 64 m) (.ok (.i k 0) h) (okI k h (Nat.mod (Nat.shiftLeft n m) (mod k)))) = .ok v h' from g)
  obtain ⟨q, s, h2, hc, hs, hp, g⟩ := idx_ok vy g
  rw [exec_bin ho, hc]
  rw [h1] at vx
  generalize a.eval x = cx at *
  cases vx with
  | i _ _ hm =>
    refine .val (.guard (eqGuard_plain rfl) ?_)
    have hb : binOp .shl t (.int k (toI k m)) (.int q s) = Op.shift .shl k (toI k m) q s := rfl
    rw [hb]
    have hn : ¬ ((s : Int) < 0) := by omega
    rcases bR_ok g with ⟨h64, g⟩ | ⟨h64, g⟩
    · cases g
      have h64 := nble h64
      refine .here ?_ r (.i _ _ (mod_pos k))
      have hmin : min s k.bits = k.bits := Nat.min_eq_right (Nat.le_trans (bits_le k) h64)
      simp only [Op.shift, hn, if_false, Int.toNat_natCast, hmin, Sem.run_pure]
      rw [wrap_toI (n := 0) (by rw [mod_eq]; push_cast; simp)]
    · obtain ⟨rfl, rfl⟩ := okI_ok g
      refine .here ?_ r (.i _ _ (Nat.mod_lt _ (mod_pos k)))
      simp only [Op.shift, hn, if_false, Int.toNat_natCast, Sem.run_pure, nmod, nshl, Nat.shiftLeft_eq]
      congr 2
      apply wrap_toI
      rw [Int.mul_emod, toI_mod]
      rcases Nat.le_total s k.bits with hle | hle
      · rw [Nat.min_eq_left hle]
        rw [show ((m % mod k : Nat) : Int) * ((2 : Int) ^ s % (mod k : Int)) % (mod k : Int) = (((m % mod k) * (2 ^ s % mod k) % mod k : Nat) : Int) by push_cast; rfl]
        rw [← Nat.mul_mod]
      · rw [Nat.min_eq_right hle]
        have e1 : (2 : Int) ^ k.bits % (mod k : Int) = 0 := by rw [mod_eq]; push_cast; simp
        have e2 : m * 2 ^ s % mod k = 0 := by
          rw [mod_eq]
          obtain ⟨d, rfl⟩ : ∃ d, s = k.bits + d := ⟨s - k.bits, by omega⟩
          rw [Nat.pow_add, ← Nat.mul_assoc, Nat.mul_comm m, Nat.mul_assoc]
          exact Nat.mul_mod_right _ _
        rw [e1, e2]; simp

theorem sim_shr {t yt : TypeId} {x y : Operand} {x' y' : O} (hx : opd P n x = some x') (hy : opd P n y = some y') (ho : o.op = .binOp .shr t x y yt) : OpSim P n o (.shr x' y') := by
  intro cf σ h w e a v h' _ r he g
  have vx := opd_sim r he hx
  have vy := opd_sim r he hy
  obtain ⟨k, m, h1, g⟩ := asI_ok (show asI (x'.v e) (fun k n => bR (pos k n) (idx (y'.v e) fun m => bR (Nat.ble 64 m) (.ok (.i k 0) h) (okI k h (Nat.shiftRight n m))) (.no 47)) = .ok v h' from g)
  obtain ⟨pk, g⟩ := bR_no g
  obtain ⟨q, s, h2, hc, hs, hp, g⟩ := idx_ok vy g
  rw [exec_bin ho, hc]
  rw [h1] at vx
  generalize a.eval x = cx at *
  cases vx with
  | i _ _ hm =>
    refine .val (.guard (eqGuard_plain rfl) ?_)
    have hb : binOp .shr t (.int k (toI k m)) (.int q s) = Op.shift .shr k (toI k m) q s := rfl
    rw [hb, toI_pos pk]
    have hn : ¬ ((s : Int) < 0) := by omega
    have hfd : ∀ j : Nat, ((m : Int).fdiv (2 ^ j)) = ((m / 2 ^ j : Nat) : Int) := fun j => by
      rw [Int.fdiv_eq_ediv_of_nonneg _ (Int.le_of_lt (Int.pow_pos (by omega)))]; push_cast; rfl
    have hm2 : m < 2 ^ k.bits := by rw [← mod_eq]; exact hm
    rcases bR_ok g with ⟨h64, g⟩ | ⟨h64, g⟩
    · cases g
      have h64 := nble h64
      refine .here ?_ r (.i _ _ (mod_pos k))
      have hmin : min s k.bits = k.bits := Nat.min_eq_right (Nat.le_trans (bits_le k) h64)
      simp only [Op.shift, hn, if_false, Int.toNat_natCast, hmin, Sem.run_pure, hfd, Nat.div_eq_of_lt hm2, zero_toI]
      rfl
    · obtain ⟨rfl, rfl⟩ := okI_ok g
      have hle : m >>> s ≤ m := by rw [Nat.shiftRight_eq_div_pow]; exact Nat.div_le_self _ _
      refine .here ?_ r (.i _ _ (Nat.lt_of_le_of_lt hle hm))
      simp only [Op.shift, hn, if_false, Int.toNat_natCast, Sem.run_pure, hfd]
      congr 2
      rw [nshr, toI_pos (pos_le pk hle), Nat.shiftRight_eq_div_pow]
      rcases Nat.le_total s k.bits with hle | hle
      · rw [Nat.min_eq_left hle]
      · rw [Nat.min_eq_right hle, Nat.div_eq_of_lt hm2, Nat.div_eq_of_lt (Nat.lt_of_lt_of_le hm2 (Nat.pow_le_pow_right (by omega) hle))]
end
end Go.Proofs.YtoipldpekiikjaaGreatDoor.Clo

namespace Go.Proofs.YtoipldpekiikjaaGreatDoor.Clo
set_option linter.all false
section
variable {P : Program} {n : Tm} {o : Oper} {σ : Sg} {h h' : Hp} {w : World} {v : V}

theorem bs_mk (bs : ByteArray) : bs = ByteArray.mk bs.data.toList.toArray := by cases bs; simp
theorem bs_size (bs : ByteArray) : bs.size = bs.data.toList.length := by cases bs; simp [ByteArray.size]
theorem bs_ext {a b : ByteArray} (h : a.data.toList = b.data.toList) : a = b := by rw [bs_mk a, bs_mk b, h]
theorem bs_append (a b : ByteArray) : (a ++ b).data.toList = a.data.toList ++ b.data.toList := by simp
theorem bs_extract (b : ByteArray) (l r : Nat) : (b.extract l r).data.toList = (b.data.toList.drop l).take (r - l) := by
  conv => lhs; rw [bs_mk b, ByteArray.extract_mk]
theorem i64_max : IntKind.i64.max = 9223372036854775807 := rfl

theorem sim_sadd {t yt : TypeId} {x y : Operand} {x' y' : O} (hx : opd P n x = some x') (hy : opd P n y = some y') (ho : o.op = .binOp .add t x y yt) : OpSim P n o (.sadd x' y') := by
  intro cf σ h w e a v h' _ r he g
  obtain ⟨l, m, h1, g⟩ := asS_ok (show asS (x'.v e) (fun l n => asS (y'.v e) fun l' n' => fo (Nat.add l l') fun k => fo (Nat.add n (Nat.shiftLeft n' (Nat.mul 8 l))) fun m => bR (Nat.ble k 1000000) (.ok (.s k m) h) (.no 49)) = .ok v h' from g)
  obtain ⟨l', m', h2, g⟩ := asS_ok g
  rw [fo_eq, fo_eq] at g
  obtain ⟨hk, g2⟩ := bR_no g
  have hk := nble hk
  cases g2
  have vx := opd_sim r he hx
  have vy := opd_sim r he hy
  rw [h1] at vx; rw [h2] at vy
  obtain ⟨bs, ex, hl, hn⟩ := vx.inv_s
  obtain ⟨bs', ey, hl', hn'⟩ := vy.inv_s
  rw [exec_bin ho, ex, ey]
  refine .val (.guard (eqGuard_plain rfl) (.here (c := .string (bs ++ bs')) ?_ r (.s _ _ _ ?_ ?_)))
  · have hs : ¬ (((bs.size + bs'.size : Nat) : Int) > IntKind.i64.max) := by
      rw [bs_size, bs_size, hl, hl', i64_max]; simp only [nadd] at hk; omega
    simp only [binOp_string_add, Op.stringOp, hs, if_false, Sem.run_pure]
  · rw [bs_append, List.length_append, hl, hl']; rfl
  · rw [bs_append, packB_append, hl, hn, hn']; rfl

theorem str_eq {bs bs' : ByteArray} {l l' m m' : Nat} (hl : bs.data.toList.length = l) (hl' : bs'.data.toList.length = l') (hm : packB bs.data.toList = m) (hm' : packB bs'.data.toList = m') :
    (bs.toList == bs'.toList) = (decide (l = l') && decide (m = m')) := by
  rw [ByteArray.toList_eq, ByteArray.toList_eq]
  by_cases h1 : l = l'
  · by_cases h2 : m = m'
    · have : bs.data.toList = bs'.data.toList := packB_inj (by rw [hl, hl', h1]) (by rw [hm, hm', h2])
      simp [h1, h2, this]
    · have : bs.data ≠ bs'.data := fun e => h2 (by rw [← hm, ← hm', e])
      simp [h1, h2, this]
  · have : bs.data ≠ bs'.data := fun e => h1 (by rw [← hl, ← hl', e])
    simp [h1, this]

theorem sim_seq {t yt : TypeId} {x y : Operand} {x' y' : O} (hx : opd P n x = some x') (hy : opd P n y = some y') (ho : o.op = .binOp .eql t x y yt) : OpSim P n o (.seq x' y') := by
  intro cf σ h w e a v h' _ r he g
  obtain ⟨l, m, h1, g⟩ := asS_ok (show asS (x'.v e) (fun l n => asS (y'.v e) fun l' n' => bR (Nat.beq l l') (okB (Nat.beq n n') h) (.ok (.b false) h)) = .ok v h' from g)
  obtain ⟨l', m', h2, g⟩ := asS_ok g
  have vx := opd_sim r he hx
  have vy := opd_sim r he hy
  rw [h1] at vx; rw [h2] at vy
  obtain ⟨bs, ex, hl, hn⟩ := vx.inv_s
  obtain ⟨bs', ey, hl', hn'⟩ := vy.inv_s
  rw [exec_bin ho, ex, ey]
  have hb : binOp .eql t (.string bs) (.string bs') = pure (.bool (decide (l = l') && decide (m = m'))) := by rw [binOp_string_eql, str_eq hl hl' hn hn']
  refine .val (.guard (eqGuard_plain rfl) ?_)
  rw [hb]
  rcases bR_ok g with ⟨hq, g2⟩ | ⟨hq, g2⟩
  · obtain ⟨rfl, rfl⟩ := okB_ok g2
    have hq := nbeq hq
    refine .here rfl r ?_
    rw [nbeq_eq]; simp only [hq, decide_true, Bool.true_and]; exact .b _
  · cases g2
    rw [nbeq_eq] at hq
    refine .here rfl r ?_
    rw [hq]; exact .b _
theorem sim_sne {t yt : TypeId} {x y : Operand} {x' y' : O} (hx : opd P n x = some x') (hy : opd P n y = some y') (ho : o.op = .binOp .neq t x y yt) : OpSim P n o (.sne x' y') := by
  intro cf σ h w e a v h' _ r he g
  obtain ⟨l, m, h1, g⟩ := asS_ok (show asS (x'.v e) (fun l n => asS (y'.v e) fun l' n' => bR (Nat.beq l l') (okN (Nat.beq n n') h) (.ok (.b true) h)) = .ok v h' from g)
  obtain ⟨l', m', h2, g⟩ := asS_ok g
  have vx := opd_sim r he hx
  have vy := opd_sim r he hy
  rw [h1] at vx; rw [h2] at vy
  obtain ⟨bs, ex, hl, hn⟩ := vx.inv_s
  obtain ⟨bs', ey, hl', hn'⟩ := vy.inv_s
  rw [exec_bin ho, ex, ey]
  have hb : binOp .neq t (.string bs) (.string bs') = pure (.bool !(decide (l = l') && decide (m = m'))) := by rw [binOp_string_neq, str_eq hl hl' hn hn']
  refine .val (.guard (eqGuard_plain rfl) ?_)
  rw [hb]
  rcases bR_ok g with ⟨hq, g2⟩ | ⟨hq, g2⟩
  · obtain ⟨rfl, rfl⟩ := okN_ok g2
    have hq := nbeq hq
    refine .here rfl r ?_
    rw [nbeq_eq]; simp only [hq, decide_true, Bool.true_and]; exact .b _
  · cases g2
    rw [nbeq_eq] at hq
    refine .here rfl r ?_
    rw [hq]; exact .b _

theorem exec_v1 {a : Act} {s : Sem Value} {op : Op} (ho : o.op = op) (hs : execOp a.eval { o with op } = (do let v ← s; pure (.value v))) : execOp a.eval o = (do let v ← s; pure (.value v)) := by
  rw [← hs, ← ho]

theorem sim_ixs {t : TypeId} {x i : Operand} {x' i' : O} (hu : P.underlying t = some .string) (hx : opd P n x = some x') (hi : opd P n i = some i') (ho : o.op = .index t x i) : OpSim P n o (.ixs x' i') := by
  intro cf σ h w e a v h' _ r he g
  obtain ⟨l, m, h1, g⟩ := asS_ok (show asS (x'.v e) (fun l n => idx (i'.v e) fun i => bR (Nat.ble (.succ i) l) (okI .u8 h (let8 n i)) (.no 80)) = .ok v h' from g)
  obtain ⟨q, j, h2, hj, hs, hp, g2⟩ := idx_ok (opd_sim r he hi) g
  obtain ⟨hlt, g3⟩ := bR_no g2
  have hlt := nble hlt
  obtain ⟨rfl, rfl⟩ := okI_ok g3
  have vx := opd_sim r he hx
  rw [h1] at vx
  obtain ⟨bs, ex, hl, hn⟩ := vx.inv_s
  have hlt' : j < bs.size := by rw [bs_size, hl]; exact hlt
  have hlt'' : j < bs.data.toList.length := by rw [hl]; exact hlt
  have hex : execOp a.eval o = (do let v ← Instr.index t (a.eval x) (a.eval i); pure (.value v)) := by simp [execOp, ho]
  rw [hex, ex, hj]
  have hb : bs.data.toList[j]? = some bs[j] := by
    rw [List.getElem?_eq_getElem hlt'']; cases bs; rfl
  have h8 : let8 m j = bs[j].toNat := by rw [← hn]; exact packB_get hb
  have hlt8 := bs[j].toNat_lt
  refine .val (.here (c := .int .u8 bs[j].toNat) ?_ r ?_)
  · have h0 : (0 : Int) ≤ (j : Int) := by omega
    simp [Instr.index, asIntOf, run_underlying hu, h0, ByteArray.getElem?_lt' bs j hlt']
  · rw [h8]
    have := VR.i (σ := σ) .u8 bs[j].toNat (by show bs[j].toNat < 256; omega)
    rw [toI_pos rfl] at this
    exact this

theorem letb (n : Nat) : n = n := rfl
/-- Bounds of a cut. -/
theorem slB_ok {lo hi : Option Operand} {lo' hi' : Option O} {e : QE} {a : Act} {top : Nat} {k : Nat → Nat → R1} (r : Rel P σ h (core w)) (he : EnvR σ n e a.tmps)
    (hlo : (match lo with | none => some none | some y => (opd P n y).map some) = some lo') (hhi : (match hi with | none => some none | some y => (opd P n y).map some) = some hi')
    (g : slB lo' hi' e top k = .ok v h') : ∃ A B, k A B = .ok v h' ∧ A ≤ B ∧ (hi = none → B = top) ∧ (lo = none → A = 0) ∧
      (∀ y, hi = some y → ∃ q, a.eval y = .int q (B : Nat)) ∧ (∀ y, lo = some y → ∃ q, a.eval y = .int q (A : Nat)) := by
  unfold slB at g
  cases hi with
  | none =>
    simp only [Option.some.injEq] at hhi; subst hhi
    cases lo with
    | none => simp only [Option.some.injEq] at hlo; subst hlo; exact ⟨0, top, g, Nat.zero_le _, fun _ => rfl, fun _ => rfl, fun _ h => (by cases h), fun _ h => (by cases h)⟩
    | some y =>
      simp only [Option.map_eq_some_iff] at hlo
      obtain ⟨y', hy, rfl⟩ := hlo
      obtain ⟨q, l, h2, hc, hs, hp, g2⟩ := idx_ok (opd_sim r he hy) (show idx (y'.v e) (fun l => bR (Nat.ble l top) (k l top) (.no 24)) = .ok v h' from g)
      obtain ⟨hle, g3⟩ := bR_no g2
      exact ⟨l, top, g3, nble hle, fun _ => rfl, fun h => (by cases h), fun _ h => (by cases h), fun _ h => (by cases h; exact ⟨q, hc⟩)⟩
  | some z =>
    simp only [Option.map_eq_some_iff] at hhi
    obtain ⟨z', hz, rfl⟩ := hhi
    obtain ⟨q, B, h2, hc, hs, hp, g2⟩ := idx_ok (opd_sim r he hz) (show idx (z'.v e) (fun h => optR lo' (k 0 h) fun x => idx (x.v e) fun l => bR (Nat.ble l h) (k l h) (.no 24)) = .ok v h' from g)
    cases lo with
    | none => simp only [Option.some.injEq] at hlo; subst hlo; exact ⟨0, B, g2, Nat.zero_le _, fun h => (by cases h), fun _ => rfl, fun _ h => (by cases h; exact ⟨q, hc⟩), fun _ h => (by cases h)⟩
    | some y =>
      simp only [Option.map_eq_some_iff] at hlo
      obtain ⟨y', hy, rfl⟩ := hlo
      obtain ⟨q', l, h2', hc', hs', hp', g3⟩ := idx_ok (opd_sim r he hy) (show idx (y'.v e) (fun l => bR (Nat.ble l B) (k l B) (.no 24)) = .ok v h' from g2)
      obtain ⟨hle, g4⟩ := bR_no g3
      exact ⟨l, B, g4, nble hle, fun h => (by cases h), fun h => (by cases h), fun _ h => (by cases h; exact ⟨q, hc⟩), fun _ h => (by cases h; exact ⟨q', hc'⟩)⟩
/-- 'sliceBounds', where all is in its bounds. -/
theorem run_bounds {b : Bool} {len cap A B M : Nat} {lo hi mx : Option Value} (hM : M ≤ cap) (hB : B ≤ M) (hA : A ≤ B)
    (hm : (mx = none ∧ M = cap) ∨ ∃ q, mx = some (.int q M)) (hh : (hi = none ∧ mx = none ∧ B = len) ∨ ∃ q, hi = some (.int q B)) (hl : (lo = none ∧ A = 0) ∨ ∃ q, lo = some (.int q A)) :
    (Instr.sliceBounds b len cap lo hi mx).run P w = .ok (A, B, M) w := by
  rcases hm with ⟨rfl, rfl⟩ | ⟨q, rfl⟩ <;> rcases hh with ⟨rfl, h0, rfl⟩ | ⟨q', rfl⟩ <;> rcases hl with ⟨rfl, rfl⟩ | ⟨q'', rfl⟩ <;>
    first
    | (cases h0; done)
    | simp [Instr.sliceBounds, Instr.sliceBound, asIntOf, hM, hB, hA]

theorem sim_sls {t : TypeId} {x : Operand} {lo hi : Option Operand} {x' : O} {lo' hi' : Option O} (hu : P.underlying t = some .string) (hx : opd P n x = some x')
    (hlo : (match lo with | none => some none | some y => (opd P n y).map some) = some lo') (hhi : (match hi with | none => some none | some y => (opd P n y).map some) = some hi')
    (ho : o.op = .slice t x lo hi none) : OpSim P n o (.sls x' lo' hi') := by
  intro cf σ h w e a v h' _ r he g
  obtain ⟨l, m, h1, g⟩ := asS_ok (show asS (x'.v e) (fun l n => slB lo' hi' e l fun a b => bR (Nat.ble b l)
    (fo (Nat.sub b a) fun k => fo (Nat.mod (Nat.shiftRight n (Nat.mul 8 a)) (Nat.shiftLeft 1 (Nat.mul 8 k))) fun m => .ok (.s k m) h) (.no 63)) = .ok v h' from g)
  obtain ⟨A, B, g2, hAB, e1, e2, e3, e4⟩ := slB_ok r he hlo hhi g
  obtain ⟨hB, g3⟩ := bR_no g2
  have hB := nble hB
  rw [fo_eq, fo_eq] at g3
  cases g3
  have vx := opd_sim r he hx
  rw [h1] at vx
  obtain ⟨bs, ex, hl, hn⟩ := vx.inv_s
  have hex : execOp a.eval o = (do let v ← Instr.sliceAt t (a.eval x) (lo.map a.eval) (hi.map a.eval) none; pure (.value v)) := by simp [execOp, ho]
  rw [hex, ex]
  have hb := run_bounds (P := P) (w := w) (b := false) (len := bs.size) (cap := bs.size) (A := A) (B := B) (M := bs.size) (lo := lo.map a.eval) (hi := hi.map a.eval) (mx := none)
    (Nat.le_refl _) (by rw [bs_size, hl]; exact hB) hAB (.inl ⟨rfl, rfl⟩)
    (by cases hi with
      | none => exact .inl ⟨rfl, rfl, by rw [e1 rfl, bs_size, hl]⟩
      | some y => obtain ⟨q, hq⟩ := e3 y rfl; exact .inr ⟨q, by simp [hq]⟩)
    (by cases lo with
      | none => exact .inl ⟨rfl, e2 rfl⟩
      | some y => obtain ⟨q, hq⟩ := e4 y rfl; exact .inr ⟨q, by simp [hq]⟩)
  refine .val (.here (c := .string (bs.extract A B)) ?_ r (.s _ _ _ ?_ ?_))
  · simp [Instr.sliceAt, Instr.slice, run_underlying hu, hb]
  · rw [bs_extract, List.length_take, List.length_drop, hl]
    show min (B - A) (l - A) = B - A
    omega
  · rw [bs_extract, packB_take, packB_drop, hn]
    simp only [nmod, nshr, nshl, nmul, nsub, Nat.one_shiftLeft]

theorem exec_len {t : TypeId} {x : Operand} {a : Act} (ho : o.op = .call { callee := .builtin .len, args := #[x], argTypes := #[t] }) :
    execOp a.eval o = (do let v ← Builtin.len_ #[t] o.type #[a.eval x]; pure (.value v)) := by simp [execOp, ho, resolve, invoke, builtin]
theorem sim_lenS {t : TypeId} {x : Operand} {y : O} (hu : P.underlying t = some .string) (hx : opd P n x = some y)
    (ho : o.op = .call { callee := .builtin .len, args := #[x], argTypes := #[t] }) : OpSim P n o (.len true y) := by
  intro cf σ h w e a v h' _ r he g
  have vx := opd_sim r he hx
  obtain ⟨l, m, h1, g⟩ := asS_ok (show asS (y.v e) (fun l _ => okL l h) = .ok v h' from g)
  obtain ⟨rfl, rfl, hm⟩ := okL_ok g
  rw [h1] at vx
  obtain ⟨bs, ex, hl, hn⟩ := vx.inv_s
  rw [exec_len ho, ex]
  exact .val (.here (c := goInt l) (by rw [run_len_string w t o.type bs hu, bs_size, hl]) r (.len _ hm))
theorem sim_lenL {t el : TypeId} {x : Operand} {y : O} (hu : P.underlying t = some (.slice el)) (hx : opd P n x = some y)
    (ho : o.op = .call { callee := .builtin .len, args := #[x], argTypes := #[t] }) : OpSim P n o (.len false y) := by
  intro cf σ h w e a v h' _ r he g
  have vx := opd_sim r he hx
  rw [exec_len ho]
  have hr : ∀ (b : Option Addr) (l c : Nat), (Builtin.len_ #[t] o.type #[.slice b l c]).run P w = .ok (goInt l) w := fun b l c => by simp [Builtin.len_, run_underlying hu]
  rcases asSl_ok (show asSl (y.v e) (.ok (.i .i64 0) h) (.ok (.i .i64 0) h) (fun _ _ l _ => okL l h) = .ok v h' from g) with ⟨h1, g⟩ | ⟨h1, g⟩ | ⟨b, off, l, c, h1, g⟩
  · cases g; rw [h1] at vx; rw [vx.inv_s0]
    exact .val (.here (hr _ _ _) r (.len (m := 0) _ (by omega)))
  · cases g; rw [h1] at vx; obtain ⟨b, c, ex⟩ := vx.inv_se; rw [ex]
    exact .val (.here (hr _ _ _) r (.len (m := 0) _ (by omega)))
  · obtain ⟨rfl, rfl, hm⟩ := okL_ok g
    rw [h1] at vx
    obtain ⟨i, cap, hi, ex, _⟩ := vx.inv_sl; rw [ex]
    exact .val (.here (hr _ _ _) r (.len _ hm))
theorem sim_cap {t el : TypeId} {x : Operand} {y : O} (hu : P.underlying t = some (.slice el)) (hx : opd P n x = some y)
    (ho : o.op = .call { callee := .builtin .cap, args := #[x], argTypes := #[t] }) : OpSim P n o (.cap y) := by
  intro cf σ h w e a v h' _ r he g
  have vx := opd_sim r he hx
  have hex : execOp a.eval o = (do let v ← Builtin.cap_ #[t] o.type #[a.eval x]; pure (.value v)) := by simp [execOp, ho, resolve, invoke, builtin]
  rw [hex]
  have hr : ∀ (b : Option Addr) (l c : Nat), (Builtin.cap_ #[t] o.type #[.slice b l c]).run P w = .ok (goInt c) w := fun b l c => by simp [Builtin.cap_, run_underlying hu]
  rcases asSl_ok (show asSl (y.v e) (.ok (.i .i64 0) h) (.no 104) (fun _ _ _ c => nR c (.no 104) fun c => okL c h) = .ok v h' from g) with ⟨h1, g⟩ | ⟨h1, g⟩ | ⟨b, off, l, c, h1, g⟩
  · cases g; rw [h1] at vx; rw [vx.inv_s0]
    exact .val (.here (hr _ _ _) r (.len (m := 0) _ (by omega)))
  · cases g
  · rcases nR_ok g with ⟨_, g⟩ | ⟨c, rfl, g⟩
    · cases g
    obtain ⟨rfl, rfl, hm⟩ := okL_ok g
    rw [h1] at vx
    obtain ⟨i, cap, hi, ex, _, _, hc⟩ := vx.inv_sl; rw [ex, hc _ rfl]
    exact .val (.here (hr _ _ _) r (.len _ hm))

theorem sim_max {s t : TypeId} {x y : Operand} {x' y' : O} (hx : opd P n x = some x') (hy : opd P n y = some y')
    (ho : o.op = .call { callee := .builtin .max, args := #[x, y], argTypes := #[s, t] }) : OpSim P n o (.max x' y') := by
  intro cf σ h w e a v h' _ r he g
  have vx := opd_sim r he hx
  have vy := opd_sim r he hy
  obtain ⟨k, m, h1, g⟩ := asI_ok (show asI (x'.v e) (fun k n => asI (y'.v e) fun k' m => bR (kin k k') (bR (Nat.ble (.succ (ord k n)) (ord k m)) (.ok (.i k m) h) (.ok (.i k n) h)) (.no 109)) = .ok v h' from g)
  obtain ⟨k', m', h2, g⟩ := asI_ok g
  obtain ⟨hk, g2⟩ := bR_no g
  rw [kin_eq] at hk
  have hk := of_decide_eq_true hk
  subst hk
  rw [h1] at vx; rw [h2] at vy
  obtain ⟨hm, ex⟩ := vx.inv_i
  obtain ⟨hm', ey⟩ := vy.inv_i
  have hex : execOp a.eval o = (do let v ← Builtin.max_ #[s, t] o.type #[a.eval x, a.eval y]; pure (.value v)) := by simp [execOp, ho, resolve, invoke, builtin]
  rw [hex, ex, ey]
  have hr : (Builtin.max_ #[s, t] o.type #[.int k (toI k m), .int k (toI k m')]).run P w = .ok (.int k (if toI k m' > toI k m then toI k m' else toI k m)) w := by
    simp [Builtin.max_, Builtin.max2]
  rcases bR_ok g2 with ⟨hb, g3⟩ | ⟨hb, g3⟩ <;> cases g3
  · have hb := (ord_lt hm hm').1 (nble hb)
    exact .val (.here (by rw [hr, if_pos hb]) r (.i _ _ hm'))
  · have hb : ¬ toI k m' > toI k m := fun hc => by have := (ord_lt hm hm').2 hc; have := nble_false hb; omega
    exact .val (.here (by rw [hr, if_neg hb]) r (.i _ _ hm))
theorem sim_min {s t : TypeId} {x y : Operand} {x' y' : O} (hx : opd P n x = some x') (hy : opd P n y = some y')
    (ho : o.op = .call { callee := .builtin .min, args := #[x, y], argTypes := #[s, t] }) : OpSim P n o (.min x' y') := by
  intro cf σ h w e a v h' _ r he g
  have vx := opd_sim r he hx
  have vy := opd_sim r he hy
  obtain ⟨k, m, h1, g⟩ := asI_ok (show asI (x'.v e) (fun k n => asI (y'.v e) fun k' m => bR (kin k k') (bR (Nat.ble (.succ (ord k m)) (ord k n)) (.ok (.i k m) h) (.ok (.i k n) h)) (.no 111)) = .ok v h' from g)
  obtain ⟨k', m', h2, g⟩ := asI_ok g
  obtain ⟨hk, g2⟩ := bR_no g
  rw [kin_eq] at hk
  have hk := of_decide_eq_true hk
  subst hk
  rw [h1] at vx; rw [h2] at vy
  obtain ⟨hm, ex⟩ := vx.inv_i
  obtain ⟨hm', ey⟩ := vy.inv_i
  have hex : execOp a.eval o = (do let v ← Builtin.min_ #[s, t] o.type #[a.eval x, a.eval y]; pure (.value v)) := by simp [execOp, ho, resolve, invoke, builtin]
  rw [hex, ex, ey]
  have hr : (Builtin.min_ #[s, t] o.type #[.int k (toI k m), .int k (toI k m')]).run P w = .ok (.int k (if toI k m' < toI k m then toI k m' else toI k m)) w := by
    simp [Builtin.min_, Builtin.min2]
  rcases bR_ok g2 with ⟨hb, g3⟩ | ⟨hb, g3⟩ <;> cases g3
  · have hb := (ord_lt hm' hm).1 (nble hb)
    exact .val (.here (by rw [hr, if_pos hb]) r (.i _ _ hm'))
  · have hb : ¬ toI k m' < toI k m := fun hc => by have := (ord_lt hm' hm).2 hc; have := nble_false hb; omega
    exact .val (.here (by rw [hr, if_neg hb]) r (.i _ _ hm))

theorem sim_cvt {s d : TypeId} {k q : IntKind} {x : Operand} {y : O} (hs : P.underlying s = some (.int q)) (hd : P.underlying d = some (.int k)) (hx : opd P n x = some y)
    (ho : o.op = .convert s d x) : OpSim P n o (.cvt k y) := by
  intro cf σ h w e a v h' _ r he g
  have vx := opd_sim r he hx
  obtain ⟨q', m, h1, g⟩ := asI_ok (show asI (y.v e) (fun q n => bR (pos q n) (okI k h (Nat.mod n (mod k))) (okI k h (Nat.mod (Nat.add n (Nat.sub 18446744073709551616 (mod q))) (mod k)))) = .ok v h' from g)
  rw [h1] at vx
  obtain ⟨hm, ex⟩ := vx.inv_i
  have hex : execOp a.eval o = (do let v ← convert s d (a.eval x); pure (.value v)) := by simp [execOp, ho]
  rw [hex, ex]
  have hr : (convert s d (.int q' (toI q' m))).run P w = .ok (.int k (k.wrap (toI q' m))) w := by simp [convert, run_underlying hs, run_underlying hd, Conv.intToInt]
  rcases bR_ok g with ⟨hb, g2⟩ | ⟨hb, g2⟩ <;> obtain ⟨rfl, rfl⟩ := okI_ok g2
  · refine .val (.here ?_ r (.i _ _ (Nat.mod_lt _ (mod_pos k))))
    rw [hr, toI_pos hb, wrap_toI (n := m % mod k) (by push_cast; rfl)]; rfl
  · refine .val (.here ?_ r (.i _ _ (Nat.mod_lt _ (mod_pos k))))
    rw [hr, wrap_toI (n := (m + (18446744073709551616 - mod q')) % mod k)]
    · rfl
    · rw [toI_neg hb]
      have hle : mod q' ≤ 18446744073709551616 := by cases q' <;> decide
      have hdv : ∃ c, 18446744073709551616 = mod k * c := by
        cases k
        · exact ⟨72057594037927936, rfl⟩
        · exact ⟨281474976710656, rfl⟩
        · exact ⟨4294967296, rfl⟩
        · exact ⟨1, rfl⟩
        · exact ⟨72057594037927936, rfl⟩
        · exact ⟨281474976710656, rfl⟩
        · exact ⟨4294967296, rfl⟩
        · exact ⟨1, rfl⟩
      obtain ⟨c, hc⟩ := hdv
      generalize hT : (18446744073709551616 : Nat) = T at hc hle ⊢
      rw [Int.natCast_emod, Int.natCast_add, Int.natCast_sub hle, hc, Int.natCast_mul]
      rw [show (m : Int) + ((mod k : Int) * (c : Int) - (mod q' : Int)) = ((m : Int) - mod q') + (mod k : Int) * (c : Int) by omega, Int.add_mul_emod_self_left]

theorem sim_mkif {t : TypeId} {d : TypeDesc} {x : Operand} {y : O} (hu : P.underlying t = some d) (hd : ∀ ms, d ≠ .interface ms) (hx : opd P n x = some y) (ho : o.op = .makeInterface t x) : OpSim P n o (.mkif t y) := by
  intro cf σ h w e a v h' _ r he g
  cases (show R1.ok (.z t (y.v e)) h = .ok v h' from g)
  have hex : execOp a.eval o = (do let v ← Instr.makeInterface t (a.eval x); pure (.value v)) := by simp [execOp, ho]
  rw [hex]
  refine .val (.here (c := .iface t (a.eval x)) ?_ r (.z _ _ _ (opd_sim r he hx)))
  simp only [Instr.makeInterface, Sem.run_bind, run_underlying hu, Result.andThen_ok]
  cases d <;> first | rfl | exact absurd rfl (hd _)

theorem sim_mkfn {f : Nat} {fs cs : Array Operand} {fs' cs' : List O} (hf : f < 4096) (h1 : opds P n fs.toList = some fs') (h2 : opds P n cs.toList = some cs')
    (ho : o.op = .makeFunc (.func f) fs cs) : OpSim P n o (.mkfn (.of f) fs' cs') := by
  intro cf σ h w e a v h' _ r he g
  have g : vals fs' e (fun fs => vals cs' e fun cs => .ok (.f (.of f) fs cs) h) = .ok v h' := g
  rw [vals_eq, vals_eq] at g
  cases g
  have hex : execOp a.eval o = (do let v ← Instr.makeFunc (.func f) (fs.map a.eval) (cs.map a.eval); pure (.value v)) := by simp [execOp, ho]
  rw [hex]
  refine .val (.here (c := .func (.func f) (fs.map a.eval) (cs.map a.eval)) rfl r ?_)
  have := VR.f (σ := σ) (.of f) (fs'.map (·.v e)) (cs'.map (·.v e)) (fs.map a.eval) (cs.map a.eval) (by simpa using opds_sim r he h1) (by simpa using opds_sim r he h2)
  rw [Fx.n_of hf] at this; exact this

theorem sim_ext {x : Operand} {y : O} {j : Nat} (hx : opd P n x = some y) (ho : o.op = .extract x j) : OpSim P n o (.ext j y) := by
  intro cf σ h w e a v h' _ r he g
  have vx := opd_sim r he hx
  obtain ⟨l, h1, g⟩ := asT_ok (show asT (y.v e) (fun l => hdL (dropL j l) fun v => .ok v h) = .ok v h' from g)
  obtain ⟨x1, rr, h2, g2⟩ := hdL_ok g
  cases g2
  rw [dropL_eq] at h2
  rw [h1] at vx
  obtain ⟨cs, ex, hv⟩ := vx.inv_t
  have hex : execOp a.eval o = (do let v ← Instr.extract (a.eval x) j; pure (.value v)) := by simp [execOp, ho]
  rw [hex, ex]
  have hj : l[j]? = some v := by have := congrArg (·[0]?) h2; simpa [List.getElem?_drop] using this
  obtain ⟨c, hc, hr⟩ := hv.get hj
  rw [Array.getElem?_toList] at hc
  exact .val (.here (c := c) (by simp [Instr.extract, hc]) r hr)

theorem sim_fa {s : TypeId} {fs : Array Field} {f : Field} {x : Operand} {y : O} {j : Nat} (hu : P.underlying s = some (.struct fs)) (hf : fs[j]? = some f) (hz : (size? P f.type).any (0 < ·) = true) (hx : opd P n x = some y)
    (ho : o.op = .fieldAddr s x j) : OpSim P n o (.fa f.offset y) := by
  intro cf σ h w e a v h' _ r he g
  have vx := opd_sim r he hx
  obtain ⟨b, off, h1, g⟩ := asP_ok (show asP (y.v e) (fun a o' => fo (Nat.add o' f.offset) fun n => .ok (.p a n) h) = .ok v h' from g)
  rw [fo_eq] at g
  cases g
  rw [h1] at vx
  obtain ⟨i, hi, ex⟩ := vx.inv_p
  have hex : execOp a.eval o = (do let v ← Instr.fieldAt s (a.eval x) j; pure (.value v)) := by simp [execOp, ho]
  rw [hex, ex]
  simp only [size?, Option.any_eq_true, Option.map_eq_some_iff] at hz
  obtain ⟨sz, ⟨inf, hinf, rfl⟩, hpos⟩ := hz
  have hc : P.cellsOf f.type = inf.size := by simp [Program.cellsOf, hinf]
  have hne : ¬ inf.size = 0 := by simpa [Nat.pos_iff_ne_zero] using hpos
  refine .val (.here (c := .pointer (some ⟨i.blk, i.d + (off + f.offset), none⟩)) ?_ r (.p _ _ i hi))
  simp [Instr.fieldAt, Instr.sureAddr, run_underlying hu, hf, fieldPlace, run_sizeOf w hinf, hc, hne, addr_add, Nat.add_assoc]

theorem sim_iap {t el : TypeId} {l m : Nat} {x ix : Operand} {x' i' : O} (hu : P.underlying t = some (.array l el)) (hm : size? P el = some m) (hx : opd P n x = some x') (hi : opd P n ix = some i')
    (ho : o.op = .indexAddr t x ix) : OpSim P n o (.iap l m x' i') := by
  intro cf σ h w e a v h' _ r he g
  have vx := opd_sim r he hx
  obtain ⟨b, off, h1, g⟩ := asP_ok (show asP (x'.v e) (fun a o => idx (i'.v e) fun i => bR (Nat.ble (.succ i) l) (fo (Nat.add o (Nat.mul i m)) fun n => .ok (.p a n) h) (.no 76)) = .ok v h' from g)
  obtain ⟨q, j, h2, hj, hs, hp, g2⟩ := idx_ok (opd_sim r he hi) g
  obtain ⟨hlt, g3⟩ := bR_no g2
  have hlt := nble hlt
  rw [fo_eq] at g3
  cases g3
  rw [h1] at vx
  obtain ⟨i, hi, ex⟩ := vx.inv_p
  have hex : execOp a.eval o = (do let v ← Instr.indexAt t (a.eval x) (a.eval ix); pure (.value v)) := by simp [execOp, ho]
  rw [hex, ex, hj]
  simp only [size?, Option.map_eq_some_iff] at hm
  obtain ⟨inf, hinf, rfl⟩ := hm
  have hc : P.cellsOf el = inf.size := by simp [Program.cellsOf, hinf]
  refine .val (.here (c := .pointer (some ⟨i.blk, i.d + (off + j * inf.size), none⟩)) ?_ r (.p _ _ i hi))
  simp [Instr.indexAt, asIntOf, Instr.sureAddr, run_underlying hu, run_sizeOf w hinf, hc, Nat.lt_of_succ_le hlt, addr_add, Nat.add_assoc]
theorem sim_ias {t el : TypeId} {m : Nat} {x ix : Operand} {x' i' : O} (hu : P.underlying t = some (.slice el)) (hm : size? P el = some m) (hx : opd P n x = some x') (hi : opd P n ix = some i')
    (ho : o.op = .indexAddr t x ix) : OpSim P n o (.ias m x' i') := by
  intro cf σ h w e a v h' _ r he g
  have vx := opd_sim r he hx
  rcases asSl_ok (show asSl (x'.v e) (.no 79) (.no 79) (fun a o l _ => idx (i'.v e) fun i => bR (Nat.ble (.succ i) l) (fo (Nat.add o (Nat.mul i m)) fun n => .ok (.p a n) h) (.no 78)) = .ok v h' from g) with ⟨_, g⟩ | ⟨_, g⟩ | ⟨b, off, l, c, h1, g⟩
  · cases g
  · cases g
  obtain ⟨q, j, h2, hj, hs, hp, g2⟩ := idx_ok (opd_sim r he hi) g
  obtain ⟨hlt, g3⟩ := bR_no g2
  have hlt := nble hlt
  rw [fo_eq] at g3
  cases g3
  rw [h1] at vx
  obtain ⟨i, cap, hi, ex, _⟩ := vx.inv_sl
  have hex : execOp a.eval o = (do let v ← Instr.indexAt t (a.eval x) (a.eval ix); pure (.value v)) := by simp [execOp, ho]
  rw [hex, ex, hj]
  simp only [size?, Option.map_eq_some_iff] at hm
  obtain ⟨inf, hinf, rfl⟩ := hm
  have hc : P.cellsOf el = inf.size := by simp [Program.cellsOf, hinf]
  refine .val (.here (c := .pointer (some ⟨i.blk, i.d + (off + j * inf.size), none⟩)) ?_ r (.p _ _ i hi))
  simp [Instr.indexAt, asIntOf, run_underlying hu, run_sizeOf w hinf, hc, Nat.lt_of_succ_le hlt, addr_add, Nat.add_assoc]

theorem run_isAgg {t : TypeId} {b : Bool} (hg : agg? P t = some b) : (isAgg t).run P w = .ok b w := by
  simp only [agg?, Option.map_eq_some_iff] at hg
  obtain ⟨d, hd, rfl⟩ := hg
  simp only [isAgg, Sem.run_bind, run_underlying hd, Result.andThen_ok]
  cases d <;> rfl
theorem run_size {t : TypeId} {m : Nat} (hm : size? P t = some m) : (sizeOf t).run P w = .ok m w ∧ P.cellsOf t = m := by
  simp only [size?, Option.map_eq_some_iff] at hm
  obtain ⟨inf, hinf, rfl⟩ := hm
  have hc : P.cellsOf t = inf.size := by simp [Program.cellsOf, hinf]
  exact ⟨by rw [run_sizeOf w hinf, hc], hc⟩
/-- A part of an aggregate. -/
theorem run_part {t : TypeId} {b : Bool} {m off : Nat} {l : List V} {cs : Array Value} {k : V → R1} (hg : agg? P t = some b) (hm : size? P t = some m) (hv : VRs σ l cs.toList) (h1 : ∀ c ∈ cs.toList, c.oneCell' = true)
    (g : Go.Proofs.YtoipldpekiikjaaGreatDoor.Clo.part b off m l k = .ok v h') : ∃ q c, k q = .ok v h' ∧ VR σ q c ∧ (Go.part t cs off).run P w = .ok c w := by
  rcases part_ok g with ⟨rfl, q, hu, g⟩ | ⟨rfl, hle, g⟩
  · obtain ⟨c, hc, hr⟩ := hv.get hu
    rw [Array.getElem?_toList] at hc
    exact ⟨q, c, g, hr, by simp [Go.part, run_isAgg hg, hc]⟩
  · refine ⟨_, .agg (cs.extract off (off + m)), g, .a _ _ ?_ ?_, by simp [Go.part, run_isAgg hg, (run_size (w := w) hm).1]⟩
    · have : (cs.extract off (off + m)).toList = (cs.toList.drop off).take m := by simp [List.extract]
      rw [this]; exact (hv.drop off).take m
    · intro c hc
      have : (cs.extract off (off + m)).toList = (cs.toList.drop off).take m := by simp [List.extract]
      rw [this] at hc
      exact h1 c (List.mem_of_mem_drop (List.mem_of_mem_take hc))

theorem sim_fld {t : TypeId} {fs : Array Field} {f : Field} {b : Bool} {m j : Nat} {x : Operand} {y : O} (hu : P.underlying t = some (.struct fs)) (hf : fs[j]? = some f) (hg : agg? P f.type = some b) (hm : size? P f.type = some m)
    (hx : opd P n x = some y) (ho : o.op = .field t x j) : OpSim P n o (.fld b f.offset m y) := by
  intro cf σ h w e a v h' _ r he g
  have vx := opd_sim r he hx
  obtain ⟨l, h1, g⟩ := asA_ok (show asA (y.v e) (fun l => Go.Proofs.YtoipldpekiikjaaGreatDoor.Clo.part b f.offset m l fun v => .ok v h) = .ok v h' from g)
  rw [h1] at vx
  obtain ⟨cs, ex, hv, hone⟩ := vx.inv_a
  obtain ⟨_, c, g2, hr, hrun⟩ := run_part (w := w) hg hm hv hone g
  cases g2
  have hex : execOp a.eval o = (do let v ← Instr.field t (a.eval x) j; pure (.value v)) := by simp [execOp, ho]
  rw [hex, ex]
  exact .val (.here (c := c) (by simp [Instr.field, run_underlying hu, hf, asAgg, hrun]) r hr)
theorem sim_ixa {t el : TypeId} {b : Bool} {l m : Nat} {x ix : Operand} {x' i' : O} (hu : P.underlying t = some (.array l el)) (hg : agg? P el = some b) (hm : size? P el = some m)
    (hx : opd P n x = some x') (hi : opd P n ix = some i') (ho : o.op = .index t x ix) : OpSim P n o (.ixa b l m x' i') := by
  intro cf σ h w e a v h' _ r he g
  have vx := opd_sim r he hx
  obtain ⟨c, h1, g⟩ := asA_ok (show asA (x'.v e) (fun c => idx (i'.v e) fun i => bR (Nat.ble (.succ i) l) (Go.Proofs.YtoipldpekiikjaaGreatDoor.Clo.part b (Nat.mul i m) m c fun v => .ok v h) (.no 82)) = .ok v h' from g)
  obtain ⟨q, j, h2, hj, hs, hp, g2⟩ := idx_ok (opd_sim r he hi) g
  obtain ⟨hlt, g3⟩ := bR_no g2
  have hlt := nble hlt
  rw [h1] at vx
  obtain ⟨cs, ex, hv, hone⟩ := vx.inv_a
  obtain ⟨_, c, g4, hr, hrun⟩ := run_part (w := w) hg hm hv hone g3
  cases g4
  have hex : execOp a.eval o = (do let v ← Instr.index t (a.eval x) (a.eval ix); pure (.value v)) := by simp [execOp, ho]
  rw [hex, ex, hj]
  simp only [nmul] at hrun
  exact .val (.here (c := c) (by simp [Instr.index, asIntOf, run_underlying hu, (run_size (w := w) hm).1, Nat.lt_of_succ_le hlt, hrun]) r hr)
end
end Go.Proofs.YtoipldpekiikjaaGreatDoor.Clo

namespace Go.Proofs.YtoipldpekiikjaaGreatDoor.Clo
set_option linter.all false
section
variable {P : Program} {n : Tm} {o : Oper} {σ σ' : Sg} {h h' : Hp} {w : World} {v : V}

theorem zero_ok {t : TypeId} {z : List V} (hz : zero? P t = some z) : ∃ c : Value, (∀ w, (zeroValue t).run P w = .ok c w) ∧ z = ofVals c.cells.toList ∧ (∀ x ∈ c.cells.toList, x.oneCell' = true) := by
  simp only [zero?, Option.bind_eq_some_iff] at hz
  obtain ⟨i, hi, c, hc, hz⟩ := hz
  split at hz
  · rename_i h1
    cases hz
    exact ⟨c, fun w => by simp [zeroValue, run_typeInfo w hi, hc], rfl, List.all_eq_true.1 h1⟩
  · cases hz
theorem ofVals_length : ∀ l : List Value, (ofVals l).length = l.length
  | [] => by rw [ofVals]; rfl
  | v :: l => by rw [ofVals, List.length_cons, List.length_cons, ofVals_length l]

theorem closedBR {hp : Array Obj} {l : List V} {cs : Array Value} {t : Nat} {i : Inf} (hat : hp[i.blk]? = some (.cells cs t)) (hd : i.d = 0) (hE : i.E = cs.size) (hs : i.sz = P.cellsOf t) (hv : VRs σ l cs.toList)
    (h1 : ∀ x ∈ cs.toList, x.oneCell' = true) : BR P σ hp i (.cl t .c 0 l.length l) := by
  have hl := hv.length
  simp only [Array.length_toList] at hl
  refine ⟨cs, (0, 0), ⟨hat, by omega, rfl, by omega, fun _ => ⟨by omega, hd⟩, hs, fun j x hx => ?_, fun j _ _ h3 => by simp at h3, fun _ => .inr rfl, fun _ _ => rfl⟩⟩
  obtain ⟨c, hc, hr⟩ := hv.get hx
  rw [Array.getElem?_toList] at hc
  exact ⟨c, by rw [hd, Nat.zero_add]; exact hc, hr, h1 c (by rw [Array.mem_toList_iff]; exact Array.mem_of_getElem? hc)⟩

/-- What an operation that makes a block comes to, whenever it is done. -/
structure MadeAt (P : Program) (σ : Sg) (w : World) (s : Sem Next) (b : Blk) (f : Nm → V) : Prop where
  run : ∃ obj c i, s.run P w = .ok (.value c) { w with heap := w.heap.push obj } ∧ i.blk = w.heap.size ∧
    ∀ x, Le σ (σ.add x i) → VR (σ.add x i) (f x) c ∧ BR P (σ.add x i) (w.heap.push obj) i b
def MadeSim (P : Program) (n : Tm) (o : Oper) (ao : AO) : Prop := ∀ (e : QE) (k : Blk → (Nm → V) → R1) (v : V) (h' : Hp), ao.made e k = .ok v h' →
  ∃ b f, k b f = .ok v h' ∧ b ≠ .dead ∧ ∀ (σ : Sg) (h : Hp) (w : World) (a : Act), Rel P σ h (core w) → EnvR σ n e a.tmps → MadeAt P σ w (execOp a.eval o) b f
theorem MadeSim.sim {ao : AO} (hm : MadeSim P n o ao) (hg : ∀ cf h e, ao.go cf h e = G.make ao h e) : OpSim P n o ao := by
  intro cf σ h w e a v h' _ r he g
  rw [hg] at g
  obtain ⟨b, f, g2, hb, hs⟩ := hm e _ v h' (show ao.made e (fun b f => h.new b fun a h => .ok (f a) h) = .ok v h' from g)
  obtain ⟨obj, c, i, hr, hi, hx⟩ := (hs σ h w a r he).run
  obtain ⟨y, hy, g3⟩ := Hp.new_ok g2
  cases g3
  obtain ⟨h1, h2⟩ := hx h.nx (r.le_add (Nat.le_refl _) i)
  obtain ⟨r1, r2⟩ := r.push hy hi h2
  exact .inl ⟨_, c, _, hr, r2, r1, h1⟩

theorem made_alloc {t : TypeId} {z : List V} (hz : zero? P t = some z) (ho : o.op = .alloc t) : MadeSim P n o (.alloc t z.length z) := by
  intro e k v h' g
  obtain ⟨c, hc, rfl, h1⟩ := zero_ok hz
  refine ⟨_, _, g, by simp, fun σ h w a r he => ⟨.cells c.cells t, .pointer (some ⟨w.heap.size, 0, none⟩), ⟨w.heap.size, 0, c.cells.size, P.cellsOf t⟩, ?_, rfl, fun x _ => ⟨?_, ?_⟩⟩⟩
  · simp [execOp, ho, Instr.alloc, hc, newVar, newRow]
  · have := VR.p (σ := σ.add x ⟨w.heap.size, 0, c.cells.size, P.cellsOf t⟩) x 0 _ (Sg.add_self _ _ _)
    exact this
  · exact closedBR (by simp) rfl rfl rfl (ofVals_sim _ _) h1

theorem one_ok {x : V} {k : R1} (g : one x k = .ok v h') : k = .ok v h' ∧ ∀ (σ : Sg) (c : Value), VR σ x c → c.oneCell' = true ∧ c.cells = #[c] := by
  cases x <;> first | (cases g; done) | exact ⟨g, fun σ c hx => by cases hx <;> exact ⟨rfl, rfl⟩⟩
/-- The cells of a value. -/
theorem cells_ok {b : Bool} {m : Nat} {x : V} {k : List V → R1} (g : cells b m x k = .ok v h') :
    ∃ l, k l = .ok v h' ∧ l.length = (@Bool.rec (fun _ => Nat) 1 m b) ∧ ∀ (σ : Sg) (c : Value), VR σ x c → VRs σ l c.cells.toList ∧ (∀ y ∈ c.cells.toList, y.oneCell' = true) := by
  cases b with
  | false =>
    obtain ⟨g2, h1⟩ := one_ok (show one x (k [x]) = .ok v h' from g)
    refine ⟨[x], g2, rfl, fun σ c hx => ?_⟩
    obtain ⟨h1, h2⟩ := h1 σ c hx
    exact ⟨by rw [h2]; exact .cons _ _ _ _ hx .nil, by rw [h2]; simpa using h1⟩
  | true =>
    obtain ⟨l, rfl, g⟩ := asA_ok (show asA x (fun l => bR (lenIs m l) (k l) (.no 6)) = .ok v h' from g)
    obtain ⟨hl, g2⟩ := bR_no g
    refine ⟨l, g2, lenIs_eq m l hl, fun σ c hx => ?_⟩
    obtain ⟨cs, rfl, hv, h1⟩ := hx.inv_a
    exact ⟨hv, h1⟩
theorem cells_sim {b : Bool} {m : Nat} {x : V} {c : Value} {k : List V → R1} (hx : VR σ x c) (g : cells b m x k = .ok v h') :
    ∃ l, k l = .ok v h' ∧ VRs σ l c.cells.toList ∧ (∀ y ∈ c.cells.toList, y.oneCell' = true) ∧ l.length = (@Bool.rec (fun _ => Nat) 1 m b) := by
  obtain ⟨l, g, hl, hc⟩ := cells_ok g
  exact ⟨l, g, (hc σ c hx).1, (hc σ c hx).2, hl⟩
theorem anyCells_ok {x : V} {k : List V → R1} (g : anyCells x k = .ok v h') :
    ∃ l, k l = .ok v h' ∧ ∀ (σ : Sg) (c : Value), VR σ x c → VRs σ l c.cells.toList ∧ (∀ y ∈ c.cells.toList, y.oneCell' = true) := by
  by_cases ha : ∃ l, x = .a l
  · obtain ⟨l, rfl⟩ := ha
    refine ⟨l, g, fun σ c hx => ?_⟩
    obtain ⟨cs, rfl, hv, h1⟩ := hx.inv_a
    exact ⟨hv, h1⟩
  · have h2 : k [x] = .ok v h' ∧ ∀ (σ : Sg) (c : Value), VR σ x c → c.oneCell' = true ∧ c.cells = #[c] := by
      cases x <;> first | (cases g; done) | (exact absurd ⟨_, rfl⟩ ha) | exact ⟨g, fun σ c hx => by cases hx <;> exact ⟨rfl, rfl⟩⟩
    obtain ⟨g, h2⟩ := h2
    refine ⟨[x], g, fun σ c hx => ?_⟩
    obtain ⟨h1, h2⟩ := h2 σ c hx
    exact ⟨by rw [h2]; exact .cons _ _ _ _ hx .nil, by rw [h2]; simpa using h1⟩

theorem made_box {t : TypeId} {b : Bool} {m : Nat} {x : Operand} {y : O} (hx : opd P n x = some y) (ho : o.op = .box t x) : MadeSim P n o (.box t m b y) := by
  intro e k v h' g
  have g : cells b m (y.v e) (fun l => k (.cl t .c 0 (@Bool.rec (fun _ => Nat) 1 m b) l) fun a => .p a 0) = .ok v h' := g
  obtain ⟨l, g2, hlen, hl⟩ := cells_ok g
  rw [← hlen] at g2
  refine ⟨_, _, g2, by simp, fun σ h w a r he => ⟨.cells (a.eval x).cells t, .pointer (some ⟨w.heap.size, 0, none⟩), ⟨w.heap.size, 0, (a.eval x).cells.size, P.cellsOf t⟩, ?_, rfl, fun z le => ⟨?_, ?_⟩⟩⟩
  · simp [execOp, ho, Instr.box, newVar, newRow]
  · have := VR.p (σ := σ.add z ⟨w.heap.size, 0, (a.eval x).cells.size, P.cellsOf t⟩) z 0 _ (Sg.add_self _ _ _)
    exact this
  · obtain ⟨h1, h2⟩ := hl _ _ ((opd_sim r he hx).mono le)
    exact closedBR (by simp) rfl rfl rfl h1 h2

theorem made_map {t : TypeId} (ho : o.op = .makeMap t none) : MadeSim P n o .mkmap := by
  intro e k v h' g
  refine ⟨.mp [], fun a => .m a, g, by simp, fun σ h w a r he => ⟨.map #[] 0, .map (some w.heap.size), ⟨w.heap.size, 0, 0, 0⟩, ?_, rfl, fun z le => ⟨?_, ?_⟩⟩⟩
  · simp [execOp, ho, Instr.makeMap]
  · exact VR.m (σ := σ.add z ⟨w.heap.size, 0, 0, 0⟩) z _ (Sg.add_self _ _ _)
  · exact ⟨#[], 0, by simp, .nil, .nil⟩

/-- Loads. -/
theorem loadVar_sim {t : TypeId} {b : Bool} {m off : Nat} {x : Nm} {i : Inf} {k : V → R1} (hg : agg? P t = some b) (hm : size? P t = some m) (r : Rel P σ h (core w)) (hx : σ x = some i)
    (g : h.cl x (fun _ _ _ _ l => Go.Proofs.YtoipldpekiikjaaGreatDoor.Clo.part b off m l k) = .ok v h') : ∃ q c, k q = .ok v h' ∧ VR σ q c ∧ (loadVar t ⟨i.blk, i.d + off, none⟩).run P w = .ok c w := by
  obtain ⟨et, st, fz, nn, l, hb, g⟩ := Hp.cl_ok g
  obtain ⟨cs, fr, br⟩ := r.cl hx hb
  rcases part_ok g with ⟨rfl, q, hq, g⟩ | ⟨rfl, hle, g⟩
  · obtain ⟨c, hc, hr, _⟩ := br.cell off q hq
    refine ⟨q, c, g, hr, ?_⟩
    have : w.cell? ⟨i.blk, i.d + off, none⟩ = some c := by rw [br.cell?]; exact hc
    simp [loadVar, run_isAgg hg, this]
  · obtain ⟨vs, h1, h2, h3, h4⟩ := br.load off m hle
    exact ⟨_, .agg vs.toArray, g, .a _ _ (by simpa using h2) (by simpa using h3), by simp [loadVar, run_isAgg hg, (run_size (w := w) hm).1, h4]⟩

theorem sim_ld {t : TypeId} {b : Bool} {m : Nat} {x : Operand} {y : O} (hg : agg? P t = some b) (hm : size? P t = some m) (hx : opd P n x = some y) (ho : o.op = .load t x) : OpSim P n o (.ld b m y) := by
  intro cf σ h w e a v h' _ r he g
  have vx := opd_sim r he hx
  obtain ⟨q, off, h1, g⟩ := asP_ok (show asP (y.v e) (fun a o => h.cl a fun _ _ _ _ l => Go.Proofs.YtoipldpekiikjaaGreatDoor.Clo.part b o m l fun v => .ok v h) = .ok v h' from g)
  rw [h1] at vx
  obtain ⟨i, hi, ex⟩ := vx.inv_p
  obtain ⟨_, c, g2, hr, hrun⟩ := loadVar_sim hg hm r hi g
  cases g2
  have hex : execOp a.eval o = (do let v ← Instr.loadAt t (a.eval x); pure (.value v)) := by simp [execOp, ho]
  rw [hex, ex]
  exact .val (.here (c := c) (by simp [Instr.loadAt, Instr.sureAddr, hrun]) r hr)

theorem NextOk.unit {s : Sem Unit} {w2 : World} {h2 : Hp} (hr : s.run P w = .ok () w2) (r : Rel P σ h2 (core w2)) (hn : h2.nx = h.nx) : NextOk P σ h h2 w (.t []) (do s; pure .skip) :=
  .inr (.inl ⟨σ, w2, by rw [Sem.run_bind, hr]; rfl, ⟨fun _ _ => rfl, by rw [hn]; exact Nat.le_refl _, rfl⟩, r, rfl⟩)

theorem sim_st {t : TypeId} {b : Bool} {m : Nat} {x y : Operand} {x' y' : O} (hg : agg? P t = some b) (hm : size? P t = some m) (h1m : b = false → m = 1) (hx : opd P n x = some x') (hy : opd P n y = some y')
    (ho : o.op = .store t x y) : OpSim P n o (.st b m x' y') := by
  intro cf σ h w e a v h' _ r he g
  have vx := opd_sim r he hx
  have vy := opd_sim r he hy
  obtain ⟨q, off, h1, g⟩ := asP_ok (show asP (x'.v e) (fun a o => cells b m (y'.v e) fun l => h.put a o l fun h => .ok (.t []) h) = .ok v h' from g)
  obtain ⟨l, g2, hv, hone, hl⟩ := cells_sim vy g
  rw [h1] at vx
  obtain ⟨i, hi, ex⟩ := vx.inv_p
  obtain ⟨h2, w2, g3, hst, r2, hn⟩ := put_sim r hi hv hone g2
  cases g3
  have hex : execOp a.eval o = (do Instr.storeAt t (a.eval x) (a.eval y); pure .skip) := by simp [execOp, ho]
  rw [hex, ex]
  have hlen := hv.length
  simp only [Array.length_toList] at hlen
  have hsz : (a.eval y).cells.size = m := by
    rw [← hlen, hl]
    cases b
    · exact (h1m rfl).symm
    · rfl
  refine .unit (w2 := w2) ?_ r2 hn
  simp [Instr.storeAt, Instr.sureAddr, storeVar, (run_size (w := w) hm).1, hsz, hst]
end
end Go.Proofs.YtoipldpekiikjaaGreatDoor.Clo

namespace Go.Proofs.YtoipldpekiikjaaGreatDoor.Clo
set_option linter.all false
section
variable {P : Program} {n : Tm} {o : Oper} {σ σ' : Sg} {h h' : Hp} {w : World} {v : V}

inductive PL (P : Program) (n : Tm) (place : Nat → Option (Nat × Nat)) : List (Nat × Operand) → List (Nat × Nat × O) → Prop
  | nil : PL P n place [] []
  | cons (i off sz : Nat) (x : Operand) (y : O) (l : List (Nat × Operand)) (l' : List (Nat × Nat × O)) (hp : place i = some (off, sz)) (hx : opd P n x = some y) (hl : PL P n place l l') : PL P n place ((i, x) :: l) ((off, sz, y) :: l')

theorem foldl_set : ∀ (vs : List Value) (off k : Nat) (cs : Array Value), off + k + vs.length ≤ cs.size →
    ((vs.zipIdx k).foldl (fun cs (x : Value × Nat) => cs.setIfInBounds (off + x.2) x.1) cs).size = cs.size ∧
    ∀ q, ((vs.zipIdx k).foldl (fun cs (x : Value × Nat) => cs.setIfInBounds (off + x.2) x.1) cs)[q]? = if off + k ≤ q ∧ q < off + k + vs.length then vs[q - (off + k)]? else cs[q]?
  | [], off, k, cs, _ => ⟨rfl, fun q => by simp; omega⟩
  | v :: vs, off, k, cs, hl => by
    simp only [List.length_cons] at hl
    simp only [List.zipIdx_cons, List.foldl_cons]
    obtain ⟨h1, h2⟩ := foldl_set vs off (k + 1) (cs.setIfInBounds (off + k) v) (by simp; omega)
    refine ⟨by rw [h1]; simp, fun q => ?_⟩
    rw [h2 q]
    simp only [List.length_cons]
    by_cases hq : off + (k + 1) ≤ q ∧ q < off + (k + 1) + vs.length
    · rw [if_pos hq, if_pos (by omega)]
      obtain ⟨j, rfl⟩ : ∃ j, q = off + (k + 1) + j := ⟨q - (off + (k + 1)), by omega⟩
      rw [show off + (k + 1) + j - (off + (k + 1)) = j by omega, show off + (k + 1) + j - (off + k) = j + 1 by omega]; simp
    · rw [if_neg hq]
      by_cases hqo : q = off + k
      · subst hqo
        rw [if_pos (by omega), Array.getElem?_setIfInBounds_self, if_pos (by omega)]; simp
      · rw [if_neg (by omega), Array.getElem?_setIfInBounds_ne (by omega)]

theorem fill_ok {place : Nat → Option (Nat × Nat)} {ps : List (Nat × Operand)} {qs : List (Nat × Nat × O)} (pl : PL P n place ps qs) :
    ∀ {e : QE} {z : List V} {k : List V → R1}, fill qs e z k = .ok v h' → ∃ l, k l = .ok v h' ∧ l.length = z.length ∧
      ∀ (σ : Sg) (h : Hp) (hp : Core) (a : Act) (cells : Array Value), Rel P σ h hp → EnvR σ n e a.tmps → VRs σ z cells.toList → (∀ y ∈ cells.toList, y.oneCell' = true) →
        ∃ cells', Instr.fill place cells (ps.map fun p => (p.1, a.eval p.2)) = some cells' ∧ VRs σ l cells'.toList ∧ (∀ y ∈ cells'.toList, y.oneCell' = true) := by
  induction pl with
  | nil => intro e z k g; exact ⟨z, g, rfl, fun σ h hp a cells _ _ hv h1 => ⟨cells, rfl, hv, h1⟩⟩
  | cons i off sz x y l l' hpl hx _ ih =>
    intro e z k g
    obtain ⟨c, g2, hc⟩ := anyCells_ok (show anyCells (y.v e) (fun c => bR (lenIs sz c) (putC off c z fun z => fill l' e z k) (.no 15)) = .ok v h' from g)
    obtain ⟨hl, g3⟩ := bR_no g2
    have hl := lenIs_eq sz c hl
    obtain ⟨hle, g4⟩ := putC_ok off g3
    obtain ⟨r, g5, hlen, hr⟩ := ih g4
    refine ⟨r, g5, by rw [hlen, put_length hle], fun σ h hp a cells rel he hv h1 => ?_⟩
    obtain ⟨hcv, hc1⟩ := hc σ _ (opd_sim rel he hx)
    have hcl := hcv.length
    have hzl := hv.length
    simp only [Array.length_toList] at hcl hzl
    obtain ⟨f1, f2⟩ := foldl_set (a.eval x).cells.toList off 0 cells (by simp; omega)
    have hfold : (a.eval x).cells.zipIdx.foldl (fun cs (x : Value × Nat) => cs.setIfInBounds (off + x.2) x.1) cells =
        ((a.eval x).cells.toList.zipIdx 0).foldl (fun cs (x : Value × Nat) => cs.setIfInBounds (off + x.2) x.1) cells := by
      rw [← Array.foldl_toList, Array.toList_zipIdx]
    have hget : ∀ q, ((a.eval x).cells.zipIdx.foldl (fun cs (x : Value × Nat) => cs.setIfInBounds (off + x.2) x.1) cells)[q]? =
        if off ≤ q ∧ q < off + c.length then (a.eval x).cells.toList[q - off]? else cells[q]? := by
      intro q; rw [hfold, f2 q]; simp only [Nat.add_zero, Array.length_toList, hcl]
    obtain ⟨cells', e1, e2, e3⟩ := hr σ h hp a ((a.eval x).cells.zipIdx.foldl (fun cs (x : Value × Nat) => cs.setIfInBounds (off + x.2) x.1) cells) rel he
      (VRs.of_get (by rw [put_length hle, hfold]; simpa [hzl] using f1.symm) fun j q cc hu hcc => by
        rw [put_get hle] at hu
        rw [Array.getElem?_toList, hget] at hcc
        split at hu
        · rw [if_neg (by omega), ← Array.getElem?_toList] at hcc; exact hv.get' hu hcc
        · split at hu
          · rw [if_pos (by omega)] at hcc; exact hcv.get' hu hcc
          · rw [if_neg (by omega), ← Array.getElem?_toList] at hcc; exact hv.get' hu hcc)
      (fun q hu => by
        obtain ⟨j, hj⟩ := List.mem_iff_getElem?.1 hu
        rw [Array.getElem?_toList, hget] at hj
        split at hj
        · exact hc1 q (List.mem_of_getElem? hj)
        · rw [← Array.getElem?_toList] at hj; exact h1 q (List.mem_of_getElem? hj))
    refine ⟨cells', ?_, e2, e3⟩
    have hsz : (a.eval x).cells.size = sz := by rw [← hcl, hl]
    have hno : ¬ (off + sz > cells.size) := by omega
    simp only [List.map_cons, Instr.fill, hpl, hsz, ne_eq, not_true_eq_false, decide_false, hno, Bool.or_self, Bool.false_eq_true, if_false]
    exact e1

theorem placesA_PL {s : Nat} : ∀ {ps : List (Nat × Operand)} {qs : List (Nat × Nat × O)}, placesA P n s ps = some qs → PL P n (fun i => some (i * s, s)) ps qs
  | [], qs, hq => by cases hq; exact .nil
  | (i, x) :: l, qs, hq => by
    simp only [placesA, Option.bind_eq_bind, Option.bind_eq_some_iff, Option.some.injEq] at hq
    obtain ⟨y, h1, l', h2, rfl⟩ := hq
    exact .cons _ _ _ _ _ _ _ rfl h1 (placesA_PL h2)
theorem placesS_PL {fs : Array Field} : ∀ {ps : List (Nat × Operand)} {qs : List (Nat × Nat × O)}, placesS P n fs ps = some qs → PL P n (fun i => (fs.map fun f => (f.offset, P.cellsOf f.type))[i]?) ps qs
  | [], qs, hq => by cases hq; exact .nil
  | (i, x) :: l, qs, hq => by
    simp only [placesS, Option.bind_eq_bind, Option.bind_eq_some_iff, Option.some.injEq] at hq
    obtain ⟨f, hf, m, hm, y, h1, l', h2, rfl⟩ := hq
    refine .cons _ _ _ _ _ _ _ ?_ h1 (placesS_PL h2)
    simp [hf, (run_size (w := default) hm).2]

theorem run_mapM_list {α β : Type} (f : α → Sem β) (g : α → β) : ∀ l : List α, (∀ x ∈ l, (f x).run P w = .ok (g x) w) → (l.mapM f).run P w = .ok (l.map g) w
  | [], _ => rfl
  | x :: l, hf => by
    rw [List.mapM_cons]
    simp only [Sem.run_bind, hf x (by simp), Result.andThen_ok, run_mapM_list f g l (fun y hy => hf y (by simp [hy])), Sem.run_pure, List.map_cons]
theorem run_mapM {α β : Type} (f : α → Sem β) (g : α → β) (l : Array α) (hf : ∀ x ∈ l.toList, (f x).run P w = .ok (g x) w) : (l.mapM f).run P w = .ok (l.map g) w := by
  rw [Array.mapM_eq_mapM_toList, Sem.run_map, run_mapM_list f g l.toList hf]
  simp only [Result.andThen_ok]
  congr 1
  apply Array.ext'
  simp

theorem sim_buildS {t : TypeId} {fs : Array Field} {z : List V} {ps : Array (Nat × Operand)} {qs : List (Nat × Nat × O)} (hz : zero? P t = some z) (hu : P.underlying t = some (.struct fs))
    (hall : fs.toList.all (fun f => (size? P f.type).isSome) = true) (hq : placesS P n fs ps.toList = some qs) (ho : o.op = .build t ps) : OpSim P n o (.build z qs) := by
  intro cf σ h w e a v h' _ r he g
  obtain ⟨c, hc, rfl, h1⟩ := zero_ok hz
  obtain ⟨l, g2, hl, hf⟩ := fill_ok (placesS_PL hq) (show fill qs e (ofVals c.cells.toList) (fun l => .ok (.a l) h) = .ok v h' from g)
  cases g2
  obtain ⟨cells', e1, e2, e3⟩ := hf σ h (core w) a c.cells r he (ofVals_sim σ _) h1
  have hex : execOp a.eval o = (do let v ← Instr.build t (ps.map fun (i, x) => (i, a.eval x)); pure (.value v)) := by simp [execOp, ho]
  rw [hex]
  have hmap := run_mapM (P := P) (w := w) (fun f : Field => do pure (f.offset, ← sizeOf f.type)) (fun f => (f.offset, P.cellsOf f.type)) fs (fun f hf => by
    have := List.all_eq_true.1 hall f hf
    obtain ⟨m, hm⟩ := Option.isSome_iff_exists.1 this
    simp [(run_size (w := w) hm).1, (run_size (w := w) hm).2])
  refine .val (.here (c := .agg cells') ?_ r (.a _ _ e2 e3))
  have hps : (ps.map fun (p : Nat × Operand) => (p.1, a.eval p.2)).toList = ps.toList.map fun p => (p.1, a.eval p.2) := by simp
  simp only [Instr.build, Sem.run_bind, hc, Result.andThen_ok, run_underlying hu, hmap, hps, e1, Sem.run_pure]
theorem sim_buildA {t el : TypeId} {len s : Nat} {z : List V} {ps : Array (Nat × Operand)} {qs : List (Nat × Nat × O)} (hz : zero? P t = some z) (hu : P.underlying t = some (.array len el))
    (hs : size? P el = some s) (hq : placesA P n s ps.toList = some qs) (ho : o.op = .build t ps) : OpSim P n o (.build z qs) := by
  intro cf σ h w e a v h' _ r he g
  obtain ⟨c, hc, rfl, h1⟩ := zero_ok hz
  obtain ⟨l, g2, hl, hf⟩ := fill_ok (placesA_PL hq) (show fill qs e (ofVals c.cells.toList) (fun l => .ok (.a l) h) = .ok v h' from g)
  cases g2
  obtain ⟨cells', e1, e2, e3⟩ := hf σ h (core w) a c.cells r he (ofVals_sim σ _) h1
  have hex : execOp a.eval o = (do let v ← Instr.build t (ps.map fun (i, x) => (i, a.eval x)); pure (.value v)) := by simp [execOp, ho]
  rw [hex]
  refine .val (.here (c := .agg cells') ?_ r (.a _ _ e2 e3))
  have hps : (ps.map fun (p : Nat × Operand) => (p.1, a.eval p.2)).toList = ps.toList.map fun p => (p.1, a.eval p.2) := by simp
  simp only [Instr.build, Sem.run_bind, hc, Result.andThen_ok, run_underlying hu, (run_size (w := w) hs).1, hps, e1, Sem.run_pure]

/-- Rows of zeros. -/
theorem rows_length (k : Nat) (z : List V) : (rows k z).length = k * z.length := by
  induction k with
  | zero => simp [rows]
  | succ k ih => simp only [rows, List.replicate_succ, List.flatten_cons, List.length_append] at *; rw [ih, Nat.succ_mul]; omega
theorem rows_get {k : Nat} {z : List V} : ∀ {j : Nat}, j < k * z.length → (rows k z)[j]? = z[j % z.length]? := by
  induction k with
  | zero => intro j hj; omega
  | succ k ih =>
    intro j hj
    have e : rows (k + 1) z = z ++ rows k z := by simp [rows, List.replicate_succ]
    rw [e]
    by_cases hlt : j < z.length
    · rw [List.getElem?_append_left hlt, Nat.mod_eq_of_lt hlt]
    · rw [List.getElem?_append_right (by omega), ih (by rw [Nat.succ_mul] at hj; omega), ← Nat.mod_eq_sub_mod (by omega)]
theorem rep_rows (z : List V) (k : Nat) : rep z k = rows k z := by
  induction k with
  | zero => rfl
  | succ k ih => rw [rep, ih]; simp [rows, List.replicate_succ]
theorem zeros_sim {c : Value} {z : List V} {k m : Nat} (hz : VRs σ z c.cells.toList) (h1 : ∀ x ∈ c.cells.toList, x.oneCell' = true) (hm : z.length = m) (hpos : k * m ≠ 0) :
    VRs σ (rows k z) ((Array.range (k * m)).map (c.cells[· % c.cells.size]!)).toList ∧ (∀ x ∈ ((Array.range (k * m)).map (c.cells[· % c.cells.size]!)).toList, x.oneCell' = true) := by
  have hl := hz.length
  simp only [Array.length_toList] at hl
  have hmp : 0 < m := Nat.pos_of_ne_zero fun h0 => hpos (by rw [h0, Nat.mul_zero])
  have hsz : c.cells.size = m := by omega
  have hget : ∀ j, j < k * m → c.cells[j % m]! = c.cells[j % m]'(by rw [hsz]; exact Nat.mod_lt _ hmp) := fun j _ => getElem!_pos c.cells _ _
  refine ⟨VRs.of_get (by simp [rows_length, hm]) fun j q cc hu hcc => ?_, fun x hx => ?_⟩
  · have hj : j < k * m := by
      rw [← hm, ← rows_length]; exact (List.getElem?_eq_some_iff.1 hu).1
    rw [rows_get (by rw [hm]; exact hj)] at hu
    simp only [Array.toList_map, Array.toList_range, List.getElem?_map, List.getElem?_range hj, Option.map_some, Option.some.injEq, hsz] at hcc
    rw [hget j hj] at hcc
    refine hz.get' hu ?_
    rw [hm, Array.getElem?_toList, Array.getElem?_eq_getElem (by rw [hsz]; exact Nat.mod_lt _ hmp), hcc]
  · simp only [Array.toList_map, Array.toList_range, List.mem_map, List.mem_range, hsz] at hx
    obtain ⟨j, hj, rfl⟩ := hx
    rw [hget j hj]
    exact h1 _ (by rw [Array.mem_toList_iff]; exact Array.getElem_mem _)

theorem made_bsl {t el : TypeId} {len m : Nat} {z : List V} {ps : Array (Nat × Operand)} {qs : List (Nat × Nat × O)} (hu : P.underlying t = some (.slice el)) (hm : size? P el = some m) (hz : zero? P el = some z)
    (hle : len * m ≤ 10000) (hzl : z.length = m) (hq : placesA P n m ps.toList = some qs) (ho : o.op = .buildSlice t len ps) : MadeSim P n o (.bsl el len m (rep z len) qs) := by
  intro e k v h' g
  obtain ⟨c, hc, rfl, h1⟩ := zero_ok hz
  obtain ⟨l, g2, hl, hf⟩ := fill_ok (placesA_PL hq) (show fill qs e (rep (ofVals c.cells.toList) len) (fun l => fo (Nat.mul len m) fun nm => k (.cl el .c 0 nm l) fun a => .sl a 0 len (.succ len)) = .ok v h' from g)
  rw [fo_eq] at g2
  have hlen : l.length = len * m := by rw [hl, rep_rows, rows_length, hzl]
  simp only [nmul, ← hlen] at g2
  refine ⟨_, _, g2, by simp, fun σ h w a r he => ?_⟩
  have hcell : ∃ cs : Array Value, (Array.range (len * m)).map ((if len * m = 0 then #[] else c.cells)[· % (if len * m = 0 then #[] else c.cells).size]!) = cs ∧ VRs σ (rep (ofVals c.cells.toList) len) cs.toList ∧ (∀ x ∈ cs.toList, x.oneCell' = true) := by
    by_cases h0 : len * m = 0
    · refine ⟨#[], by simp [h0], ?_, by simp⟩
      have : rep (ofVals c.cells.toList) len = [] := List.length_eq_zero_iff.1 (by rw [rep_rows, rows_length, hzl, h0])
      rw [this]; exact .nil
    · obtain ⟨e1, e2⟩ := zeros_sim (k := len) (ofVals_sim σ c.cells.toList) h1 hzl h0
      exact ⟨_, by simp [h0], by rw [rep_rows]; exact e1, e2⟩
  obtain ⟨cs, hcs, hv, hone⟩ := hcell
  obtain ⟨cells', e1, e2, e3⟩ := hf σ h (core w) a cs r he hv hone
  have hsz : cells'.size = len * m := by have := e2.length; simp only [Array.length_toList] at this; omega
  refine ⟨.cells cells' el, .slice (some ⟨w.heap.size, 0, none⟩) len len, ⟨w.heap.size, 0, cells'.size, P.cellsOf el⟩, ?_, rfl, fun x le => ⟨?_, closedBR (by simp) rfl rfl rfl (e2.mono le) e3⟩⟩
  · have hps : (ps.map fun (p : Nat × Operand) => (p.1, a.eval p.2)).toList = ps.toList.map fun p => (p.1, a.eval p.2) := by simp
    have h24 : ¬ (len * m > 2 ^ 24) := by omega
    have hex : execOp a.eval o = (do let v ← Instr.buildSlice t len (ps.map fun (i, x) => (i, a.eval x)); pure (.value v)) := by simp [execOp, ho]
    rw [hex]
    by_cases h0 : len * m = 0
    · rw [if_pos h0] at hcs
      simp only [Instr.buildSlice, Sem.run_bind, run_underlying hu, Result.andThen_ok, (run_size (w := w) hm).1, h24, if_false, if_pos h0, Sem.run_pure, hcs, hps, e1, newRow, run_newObj]
    · rw [if_neg h0] at hcs
      simp only [Instr.buildSlice, Sem.run_bind, run_underlying hu, Result.andThen_ok, (run_size (w := w) hm).1, h24, if_false, if_neg h0, hc, Sem.run_pure, hcs, hps, e1, newRow, run_newObj]
  · exact VR.sl (σ := σ.add x ⟨w.heap.size, 0, cells'.size, P.cellsOf el⟩) x 0 len (len + 1) _ len (Sg.add_self _ _ _) (Nat.le_refl _) (fun h => by omega) (fun k hk => by omega)

theorem sim_mksl {t el : TypeId} {m y : Nat} {z : List V} {l c : Operand} {l' c' : O} (hu : P.underlying t = some (.slice el)) (hm : size? P el = some m) (hz : zero? P el = some z) (hzl : z.length = m) (hy : bytes? P el = some y)
    (hl : opd P n l = some l') (hc : opd P n c = some c') (ho : o.op = .makeSlice t l c) : OpSim P n o (.mksl el m y z l' c') := by
  intro cf σ h w e a v h' _ r he g
  obtain ⟨cz, hcz, rfl, h1⟩ := zero_ok hz
  obtain ⟨q, L, hL1, hL2, hL3, hLp, g2⟩ := idx_ok (opd_sim r he hl) (show idx (l'.v e) (fun l => idx (c'.v e) fun c => bR (Nat.ble l c) (bR (Nat.ble c 1000000) (bR (Nat.ble (Nat.mul y c) 1000000)
    (rowsC c (ofVals cz.cells.toList) fun xs => fo (Nat.mul c m) fun n => h.new (.cl el .c 0 n xs) fun a h => .ok (.sl a 0 l (.succ c)) h) (.no 62)) (.no 62)) (.no 62)) = .ok v h' from g)
  obtain ⟨q', C, hC1, hC2, hC3, hCp, g3⟩ := idx_ok (opd_sim r he hc) g2
  obtain ⟨b1, g4⟩ := bR_no g3
  obtain ⟨b2, g5⟩ := bR_no g4
  obtain ⟨b3, g6⟩ := bR_no g5
  have b1 := nble b1
  have b2 := nble b2
  have b3 := nble b3
  rw [rowsC_eq, fo_eq] at g6
  obtain ⟨yn, hyn, g7⟩ := Hp.new_ok g6
  cases g7
  have hex : execOp a.eval o = (do let v ← Instr.makeSlice t (a.eval l) (a.eval c); pure (.value v)) := by simp [execOp, ho]
  rw [hex, hL2, hC2]
  have hlen : (rows C (ofVals cz.cells.toList)).length = C * m := by rw [rows_length, hzl]
  have hcell : ∃ cs : Array Value, (Array.range (C * m)).map ((if C * m = 0 then #[] else cz.cells)[· % (if C * m = 0 then #[] else cz.cells).size]!) = cs ∧ (∀ s : Sg, VRs s (rows C (ofVals cz.cells.toList)) cs.toList) ∧ (∀ x ∈ cs.toList, x.oneCell' = true) := by
    by_cases h0 : C * m = 0
    · refine ⟨#[], by simp [h0], fun s => ?_, by simp⟩
      have : rows C (ofVals cz.cells.toList) = [] := List.length_eq_zero_iff.1 (by rw [hlen, h0])
      rw [this]; exact .nil
    · exact ⟨_, by simp [h0], fun s => (zeros_sim (k := C) (ofVals_sim s cz.cells.toList) h1 hzl h0).1, (zeros_sim (σ := σ) (k := C) (ofVals_sim σ cz.cells.toList) h1 hzl h0).2⟩
  obtain ⟨cs, hcs, hv, hone⟩ := hcell
  obtain ⟨inf, hinf, hyb⟩ : ∃ inf, P.info? el = some inf ∧ inf.bytes = y := by simpa [bytes?, Option.map_eq_some_iff] using hy
  have w1 : IntKind.i64.wrap (L : Int) = L := wrap_small (by show L < 18446744073709551616; omega) (by simp [pos, sgn, half]; omega)
  have w2 : IntKind.i64.wrap (C : Int) = C := wrap_small (by show C < 18446744073709551616; omega) (by simp [pos, sgn, half]; omega)
  have hbr : ∀ x, Le σ (σ.add x ⟨w.heap.size, 0, cs.size, P.cellsOf el⟩) → BR P (σ.add x ⟨w.heap.size, 0, cs.size, P.cellsOf el⟩) (w.heap.push (.cells cs el)) ⟨w.heap.size, 0, cs.size, P.cellsOf el⟩ (.cl el .c 0 (C * m) (rows C (ofVals cz.cells.toList))) := fun x le => by
    rw [← hlen]; exact closedBR (by simp) rfl rfl rfl (hv _) hone
  obtain ⟨r1, r2⟩ := r.push hyn (o := .cells cs el) (i := ⟨w.heap.size, 0, cs.size, P.cellsOf el⟩) rfl (hbr _ (r.le_add (Nat.le_refl _) _))
  refine .val ⟨_, .slice (some ⟨w.heap.size, 0, none⟩) L C, { w with heap := w.heap.push (.cells cs el) }, ?_, r2, r1, ?_⟩
  · have t1 : ¬ ((C : Int) < 0) := by omega
    have t2 : ¬ ((L : Int) < 0) := by omega
    have t3 : ¬ ((L : Int) > (C : Int)) := by omega
    have t4 : ¬ ((inf.bytes : Int) * (C : Int) > 2 ^ 48) := by rw [hyb]; simp only [nmul] at b3; exact_mod_cast (by omega : ¬ (y * C > 2 ^ 48))
    have t5 : (Int.toNat (C : Int)) = C := rfl
    have t6 : (Int.toNat (L : Int)) = L := rfl
    have tl : (((decide ((C : Int) < 0) || decide ((inf.bytes : Int) * (C : Int) > 2 ^ 48)) || decide ((L : Int) < 0)) || decide ((L : Int) > (C : Int))) = false := by
      simp only [t1, t2, t3, t4, decide_false, Bool.or_self]
    by_cases h0 : C * m = 0
    · rw [if_pos h0] at hcs
      simp only [Instr.makeSlice, Sem.run_bind, run_underlying hu, asInt, asIntOf, Sem.run_pure, run_typeInfo w hinf, Result.andThen_ok, w1, w2, tl, Bool.false_eq_true, if_false, run_askRoom, t5, t6, (run_size (w := w) hm).1, if_pos h0, hcs, newRow, run_newObj]
    · rw [if_neg h0] at hcs
      simp only [Instr.makeSlice, Sem.run_bind, run_underlying hu, asInt, asIntOf, Sem.run_pure, run_typeInfo w hinf, Result.andThen_ok, w1, w2, tl, Bool.false_eq_true, if_false, run_askRoom, t5, t6, (run_size (w := w) hm).1, if_neg h0, hcz, hcs, newRow, run_newObj]
  · exact VR.sl (σ := σ.add h.nx ⟨w.heap.size, 0, cs.size, P.cellsOf el⟩) h.nx 0 L (C + 1) _ C (Sg.add_self _ _ _) b1 (fun h => by omega) (fun k hk => by omega)
end
end Go.Proofs.YtoipldpekiikjaaGreatDoor.Clo

namespace Go.Proofs.YtoipldpekiikjaaGreatDoor.Clo
set_option linter.all false
section
variable {P : Program} {n : Tm} {o : Oper} {σ σ' : Sg} {h h' : Hp} {w : World} {v : V}

theorem letters_eq : ∀ (bs : List UInt8) (k : List V → R1), letters bs.length (packB bs) k = k (bs.map fun b => .i .u8 b.toNat)
  | [], k => rfl
  | b :: bs, k => by
    have hb := b.toNat_lt
    show fo (Nat.mod (packB (b :: bs)) 256) (fun x => fo (Nat.div (packB (b :: bs)) 256) fun r => letters bs.length r fun xs => k (.i .u8 x :: xs)) = _
    rw [fo_eq, fo_eq]
    have e1 : Nat.mod (packB (b :: bs)) 256 = b.toNat := by simp only [nmod, packB]; omega
    have e2 : Nat.div (packB (b :: bs)) 256 = packB bs := by simp only [ndiv, packB]; omega
    rw [e1, e2, letters_eq bs]
    rfl
theorem u8_sim (σ : Sg) (b : UInt8) : VR σ (.i .u8 b.toNat) (.int .u8 b.toNat) := by
  have hb := b.toNat_lt
  have := VR.i (σ := σ) .u8 b.toNat (by show b.toNat < 256; omega)
  rw [toI_pos rfl] at this; exact this
theorem bytes_sim (σ : Sg) : ∀ bs : List UInt8, VRs σ (bs.map fun b => .i .u8 b.toNat) (bs.map fun b => .int .u8 (b.toNat : Int))
  | [] => .nil
  | b :: bs => .cons _ _ _ _ (u8_sim σ b) (bytes_sim σ bs)
theorem bytes_one (bs : List UInt8) : ∀ x ∈ bs.map (fun b => Value.int .u8 (b.toNat : Int)), x.oneCell' = true := by
  intro x hx; obtain ⟨b, _, rfl⟩ := List.mem_map.1 hx; rfl

theorem sim_rng {t : TypeId} {x : Operand} {y : O} (hu : P.underlying t = some .string) (hx : opd P n x = some y) (ho : o.op = .range t x) : OpSim P n o (.rng y) := by
  intro cf σ h w e a v h' _ r he g
  have vx := opd_sim r he hx
  obtain ⟨l, m, h1, g⟩ := asS_ok (show asS (y.v e) (fun l n => h.new (.it l n 0) fun a h => .ok (.p a 0) h) = .ok v h' from g)
  obtain ⟨yn, hyn, g2⟩ := Hp.new_ok g
  cases g2
  rw [h1] at vx
  obtain ⟨bs, ex, hl, hn⟩ := vx.inv_s
  have hex : execOp a.eval o = (do let v ← Instr.range t (a.eval x); pure (.value v)) := by simp [execOp, ho]
  rw [hex, ex]
  obtain ⟨r1, r2⟩ := r.push hyn (o := .stringIter bs 0) (b := .it l m 0) (i := ⟨w.heap.size, 0, 0, 0⟩) rfl ⟨bs, by simp, hl, hn, rfl⟩
  refine .val ⟨_, .pointer (some ⟨w.heap.size, 0, none⟩), { w with heap := w.heap.push (.stringIter bs 0) }, ?_, r2, r1, ?_⟩
  · simp [Instr.range, run_underlying hu]
  · exact VR.p (σ := σ.add h.nx ⟨w.heap.size, 0, 0, 0⟩) h.nx 0 _ (Sg.add_self _ _ _)

theorem Hp.it_ok {x : Nm} {k : Nat → Nat → Nat → R1} (g : h.it x k = .ok v h') : ∃ l m p, h.get x = .it l m p ∧ k l m p = .ok v h' := by
  unfold Hp.it at g
  cases hb : h.get x <;> rw [hb] at g <;> first | (cases g; done) | exact ⟨_, _, _, rfl, g⟩
theorem Hp.mp_ok {x : Nm} {k : List (V × V) → R1} (g : h.mp x k = .ok v h') : ∃ l, h.get x = .mp l ∧ k l = .ok v h' := by
  unfold Hp.mp at g
  cases hb : h.get x <;> rw [hb] at g <;> first | (cases g; done) | exact ⟨_, rfl, g⟩
theorem run_getObj {q : Nat} {ob : Obj} (hq : w.heap[q]? = some ob) (hc : ∀ c t f, ob ≠ .cells c t f) : (getObj q).run P w = .ok ob w := by
  cases ob <;> first | (exact absurd rfl (hc _ _ _)) | simp [getObj, Sem.run, hq]
theorem run_setObj {q : Nat} {ob ob' : Obj} (hq : w.heap[q]? = some ob) (hc : ∀ c t f, ob ≠ .cells c t f) : (setObj q ob').run P w = .ok () { w with heap := w.heap.setIfInBounds q ob' } := by
  cases ob <;> first | (exact absurd rfl (hc _ _ _)) | simp [setObj, Sem.run, hq]
theorem heap_set {q : Nat} {ob : Obj} (hq : q < w.heap.size) : (w.heap.setIfInBounds q ob).size = w.heap.size ∧ (w.heap.setIfInBounds q ob)[q]? = some ob ∧ ∀ p, p ≠ q → (w.heap.setIfInBounds q ob)[p]? = w.heap[p]? :=
  ⟨by simp, by simp [hq], fun p hp => Array.getElem?_setIfInBounds_ne (Ne.symm hp)⟩

theorem sim_nxt {x : Operand} {y : O} (hx : opd P n x = some y) (ho : o.op = .next x true) : OpSim P n o (.nxt y) := by
  intro cf σ h w e a v h' _ r he g
  have vx := opd_sim r he hx
  obtain ⟨q, off, h1, g⟩ := asP_ok (show asP (y.v e) (fun a o => nR o (h.it a fun l n pos => bR (Nat.ble l pos) (.ok (.t [.b false]) h)
    (fo (let8 n pos) fun c => bR (Nat.ble 128 c) (.no 90) (bR (Nat.ble pos 1000000) (h.set a (.it l n (.succ pos)) fun h => .ok (.t [.b true, .i .i64 pos, .i .i32 c]) h) (.no 142)))) fun _ => .no 92) = .ok v h' from g)
  rcases nR_ok g with ⟨rfl, g⟩ | ⟨_, _, g⟩
  case inr => cases g
  obtain ⟨l, m, pos, hb, g⟩ := Hp.it_ok g
  rw [h1] at vx
  obtain ⟨i, hi, ex⟩ := vx.inv_p
  have hex : execOp a.eval o = (do let v ← Instr.next (a.eval x) true o.type; pure (.value v)) := by simp [execOp, ho]
  have hbr := r.blk q i hi
  rw [hb] at hbr
  obtain ⟨bs, hat, hl, hn, hd⟩ := hbr
  have hlt : i.blk < w.heap.size := (Array.getElem?_eq_some_iff.1 hat).1
  have hget := run_getObj (P := P) hat (by simp)
  rw [hex, ex, hd]
  rcases bR_ok g with ⟨hp, g⟩ | ⟨hp, g⟩
  · cases g
    have hp := nble hp
    have hge : ¬ (pos < bs.size) := by rw [bs_size, hl]; omega
    refine .val (.here (c := .tuple #[.bool false]) ?_ r (.t _ _ (.cons _ _ _ _ (.b _) .nil)))
    simp only [Nat.add_zero, Instr.next, Sem.run_bind, hget, Result.andThen_ok, hge, if_false, Sem.run_pure]
  · have hp := nble_false hp
    have hge : pos < bs.size := by rw [bs_size, hl]; exact hp
    rw [fo_eq] at g
    rcases bR_ok g with ⟨_, g⟩ | ⟨h128, g⟩
    · cases g
    have h128 := nble_false h128
    obtain ⟨hpos, g⟩ := bR_no g
    have hpos := nble hpos
    rw [Hp.set_eq] at g
    cases g
    have hlt2 : pos < bs.data.toList.length := by rw [hl]; exact hp
    have hbb : bs.data.toList[pos]? = some (bs[pos]'hge) := by rw [List.getElem?_eq_getElem hlt2]; cases bs; rfl
    have h8 : let8 m pos = (bs[pos]'hge).toNat := by rw [← hn]; exact packB_get hbb
    rw [h8] at h128 ⊢
    have hdec := decode_ascii bs pos hge h128
    obtain ⟨s1, s2, s3⟩ := heap_set (w := w) (ob := .stringIter bs (pos + 1)) hlt
    have hset := run_setObj (P := P) (ob' := .stringIter bs (pos + 1)) hat (by simp)
    refine .val ⟨σ, .tuple #[.bool true, goInt pos, .int .i32 (bs[pos]'hge).toNat], { w with heap := w.heap.setIfInBounds i.blk (.stringIter bs (pos + 1)) }, ?_, Ext.same q _, r.change hi (by rw [hb]; simp) (b := .it l m (pos + 1)) s1 s3 ⟨bs, s2, hl, hn, hd⟩, .t _ _ ?_⟩
    · simp only [Nat.add_zero, Instr.next, Sem.run_bind, hget, Result.andThen_ok, hge, if_true, hdec, hset, Sem.run_pure]
    · refine .cons _ _ _ _ (.b _) (.cons _ _ _ _ (.len _ hpos) (.cons _ _ _ _ ?_ .nil))
      have := VR.i (σ := σ) .i32 (bs[pos]'hge).toNat (by show _ < 4294967296; omega)
      rw [toI_pos (by simp [Go.Proofs.YtoipldpekiikjaaGreatDoor.Clo.pos, sgn, half]; omega)] at this
      exact this

theorem findNow_sim {kt : TypeDesc} {q : IntKind} (hk : kt = .int q) {k : IntKind} {m : Nat} (hm : m < mod k) : ∀ {l : List (V × V)} {es : List MapEntry} {f : V → R1} {j : Nat}, VRs σ (l.map (·.1)) (es.map (·.key)) → VRs σ (l.map (·.2)) (es.map (·.val)) →
    mapFind l k m f = .ok v h' → ∃ j' x c, f x = .ok v h' ∧ VR σ x c ∧ Instr.findNow kt (.int k (toI k m)) es j = some (some (j', c))
  | [], _, _, _, _, _, g => by cases g
  | (k', x) :: l, es, f, j, hks, hvs, g => by
    cases es with
    | nil => cases hks
    | cons en es =>
      simp only [List.map_cons] at hks hvs
      cases hks with
      | cons _ _ _ _ hk1 hks =>
        cases hvs with
        | cons _ _ _ _ hv1 hvs =>
          obtain ⟨q', m', h1, g⟩ := asI_ok (show asI k' (fun q' n' => bR (kin k q') (bR (Nat.beq m n') (f x) (mapFind l k m f)) (.no 32)) = .ok v h' from g)
          obtain ⟨hkk, g2⟩ := bR_no g
          rw [kin_eq] at hkk
          have hkk := of_decide_eq_true hkk
          subst hkk
          rw [h1] at hk1
          obtain ⟨hm', ek⟩ := hk1.inv_i
          subst hk
          have hs : Instr.sameNow (.int q) (.int k (toI k m)) en.key = some (toI k m == toI k m') := by rw [ek]; simp [Instr.sameNow]
          rcases bR_ok g2 with ⟨hb, g3⟩ | ⟨hb, g3⟩
          · have hb := nbeq hb
            subst hb
            exact ⟨j, x, en.val, g3, hv1, by simp [Instr.findNow, hs]⟩
          · have hne : m ≠ m' := fun e => by rw [e] at hb; simp at hb
            have hne' : (toI k m == toI k m') = false := by simp; exact fun e => hne (toI_inj hm hm' e)
            obtain ⟨j', x', c, e1, e2, e3⟩ := findNow_sim (kt := .int q) rfl hm (j := j + 1) hks hvs g3
            exact ⟨j', x', c, e1, e2, by simp [Instr.findNow, hs, hne', e3]⟩

theorem checkKey_any {kt : TypeId} {q k : IntKind} {z : Int} {b : Bool} (hk : P.underlying kt = some (.int q)) (d : Nat) : (Instr.checkKey b (d + 1) kt (.int k z)).run P w = .ok () w := by
  simp [Instr.checkKey, run_underlying hk]
theorem checkKey_int {kt : TypeId} {q k : IntKind} {z : Int} {b : Bool} (hk : P.underlying kt = some (.int q)) : (Instr.checkKey b 10000 kt (.int k z)).run P w = .ok () w := checkKey_any hk 9999

theorem sim_lk {t kt et : TypeId} {q : IntKind} {x i : Operand} {x' i' : O} (hu : P.underlying t = some (.map kt et)) (hk : P.underlying kt = some (.int q)) (hx : opd P n x = some x') (hi : opd P n i = some i')
    (ho : o.op = .lookup t x i false) : OpSim P n o (.lk x' i') := by
  intro cf σ h w e a v h' _ r he g
  have vx := opd_sim r he hx
  have vi := opd_sim r he hi
  obtain ⟨b, h1, g⟩ := asM_ok (show asM (x'.v e) (fun a => asI (i'.v e) fun q n => h.mp a fun l => mapFind l q n fun v => .ok v h) = .ok v h' from g)
  obtain ⟨k, m, h2, g⟩ := asI_ok g
  obtain ⟨l, hb, g⟩ := Hp.mp_ok g
  rw [h1] at vx; rw [h2] at vi
  obtain ⟨hm, ei⟩ := vi.inv_i
  obtain ⟨inf, hinf, ex⟩ := vx.inv_m
  have hbr := r.blk b inf hinf
  rw [hb] at hbr
  obtain ⟨es, ck, hat, hks, hvs⟩ := hbr
  obtain ⟨j', x1, c, g2, hr, hf⟩ := findNow_sim (kt := .int q) rfl hm (j := 0) hks hvs g
  cases g2
  have hget := run_getObj (P := P) hat (by simp)
  have hex : execOp a.eval o = (do let v ← Instr.lookup t (a.eval x) (a.eval i) false; pure (.value v)) := by simp [execOp, ho]
  rw [hex, ex, ei]
  refine .val (.here (c := c) ?_ r hr)
  simp [Instr.lookup, run_underlying hu, hget, checkKey_int hk, Instr.findKey, run_underlying hk, hf]

theorem sim_tas0 {xt t : TypeId} {d : TypeDesc} {x : Operand} {y : O} (hu : P.underlying t = some d) (hd : ∀ ms, d ≠ .interface ms) (hx : opd P n x = some y) (ho : o.op = .typeAssert x xt t false) : OpSim P n o (.tas t none y) := by
  intro cf σ h w e a v h' _ r he g
  have vx := opd_sim r he hx
  rcases asZ_ok (show asZ (y.v e) (.no 94) (fun t' v => bR (Nat.beq t t') (.ok v h) (.no 93)) = .ok v h' from g) with ⟨_, g⟩ | ⟨t', x1, h1, g⟩
  · cases g
  obtain ⟨ht, g2⟩ := bR_no g
  have ht := nbeq ht
  subst ht
  cases g2
  rw [h1] at vx
  obtain ⟨c, ex, hr⟩ := vx.inv_z
  have hex : execOp a.eval o = (do let v ← Instr.typeAssert (a.eval x) xt t false; pure (.value v)) := by simp [execOp, ho]
  rw [hex, ex]
  refine .val (.here (c := c) ?_ r hr)
  simp only [Instr.typeAssert, Sem.run_bind, run_underlying hu, Result.andThen_ok]
  cases d <;> first | exact absurd rfl (hd _) | simp
theorem sim_tas1 {xt t : TypeId} {d : TypeDesc} {inf : TypeInfo} {z : Value} {x : Operand} {y : O} (hu : P.underlying t = some d) (hd : ∀ ms, d ≠ .interface ms) (hinf : P.info? t = some inf) (hz : inf.zero = some z)
    (hx : opd P n x = some y) (ho : o.op = .typeAssert x xt t true) : OpSim P n o (.tas t (some (ofVal z)) y) := by
  intro cf σ h w e a v h' _ r he g
  have vx := opd_sim r he hx
  rcases asZ_ok (show asZ (y.v e) (.no 94) (fun t' v => bR (Nat.beq t t') (.ok (.t [v, .b true]) h) (.ok (.t [ofVal z, .b false]) h)) = .ok v h' from g) with ⟨_, g⟩ | ⟨t', x1, h1, g⟩
  · cases g
  rw [h1] at vx
  obtain ⟨c, ex, hr⟩ := vx.inv_z
  have hex : execOp a.eval o = (do let v ← Instr.typeAssert (a.eval x) xt t true; pure (.value v)) := by simp [execOp, ho]
  rw [hex, ex]
  have hzz : (zeroValue t).run P w = .ok z w := by simp [zeroValue, run_typeInfo w hinf, hz]
  rcases bR_ok g with ⟨ht, g2⟩ | ⟨ht, g2⟩ <;> cases g2
  · have ht := nbeq ht
    subst ht
    refine .val (.here (c := .tuple #[c, .bool true]) ?_ r (.t _ _ (.cons _ _ _ _ hr (.cons _ _ _ _ (.b _) .nil))))
    simp only [Instr.typeAssert, Sem.run_bind, run_underlying hu, Result.andThen_ok]
    cases d <;> first | exact absurd rfl (hd _) | simp
  · have hne : ¬ t' = t := fun e => by rw [e] at ht; simp at ht
    refine .val (.here (c := .tuple #[z, .bool false]) ?_ r (.t _ _ (.cons _ _ _ _ (ofVal_sim σ z) (.cons _ _ _ _ (.b _) .nil))))
    simp only [Instr.typeAssert, Sem.run_bind, run_underlying hu, Result.andThen_ok]
    cases d <;> first | exact absurd rfl (hd _) | simp [hne, hzz]
end
end Go.Proofs.YtoipldpekiikjaaGreatDoor.Clo

namespace Go.Proofs.YtoipldpekiikjaaGreatDoor.Clo
set_option linter.all false
section
variable {P : Program} {n : Tm} {o : Oper} {σ σ' : Sg} {h h' : Hp} {w : World} {v : V}

theorem mapPut_sim {q : IntKind} {k : IntKind} {m : Nat} (hm : m < mod k) {x : V} {xc : Value} (hx : VR σ x xc) : ∀ {l : List (V × V)} {es : List MapEntry} {f : List (V × V) → R1} {j0 : Nat}, VRs σ (l.map (·.1)) (es.map (·.key)) → VRs σ (l.map (·.2)) (es.map (·.val)) →
    mapPut l k m x f = .ok v h' → ∃ l', f l' = .ok v h' ∧
      ((∃ j c, Instr.findNow (.int q) (.int k (toI k m)) es j0 = some (some (j0 + j, c)) ∧ (es[j]?).map (·.key) = some (.int k (toI k m)) ∧
        VRs σ (l'.map (·.1)) ((es.modify j fun e => { e with key := .int k (toI k m), val := xc }).map (·.key)) ∧ VRs σ (l'.map (·.2)) ((es.modify j fun e => { e with key := .int k (toI k m), val := xc }).map (·.val))) ∨
       (Instr.findNow (.int q) (.int k (toI k m)) es j0 = some none ∧ l' = l ++ [(.i k m, x)]))
  | [], es, f, j0, hks, hvs, g => by
    cases es with
    | nil => exact ⟨_, g, .inr ⟨rfl, rfl⟩⟩
    | cons => cases hks
  | (k', y) :: l, es, f, j0, hks, hvs, g => by
    cases es with
    | nil => cases hks
    | cons en es =>
      simp only [List.map_cons] at hks hvs
      cases hks with
      | cons _ _ _ _ hk1 hks =>
        cases hvs with
        | cons _ _ _ _ hv1 hvs =>
          obtain ⟨q', m', h1, g⟩ := asI_ok (show asI k' (fun q' n' => bR (kin k q') (bR (Nat.beq m n') (f ((.i k m, x) :: l)) (mapPut l k m x fun r => f ((k', y) :: r))) (.no 34)) = .ok v h' from g)
          obtain ⟨hkk, g2⟩ := bR_no g
          rw [kin_eq] at hkk
          have hkk := of_decide_eq_true hkk
          subst hkk
          rw [h1] at hk1
          obtain ⟨hm', ek⟩ := hk1.inv_i
          have hs : Instr.sameNow (.int q) (.int k (toI k m)) en.key = some (toI k m == toI k m') := by rw [ek]; simp [Instr.sameNow]
          rcases bR_ok g2 with ⟨hb, g3⟩ | ⟨hb, g3⟩
          · have hb := nbeq hb
            subst hb
            exact ⟨_, g3, .inl ⟨0, en.val, by simp [Instr.findNow, hs], by simp [ek], .cons _ _ _ _ (.i _ _ hm) hks, .cons _ _ _ _ hx hvs⟩⟩
          · have hne : m ≠ m' := fun e => by rw [e] at hb; simp at hb
            have hne' : (toI k m == toI k m') = false := by simp; exact fun e => hne (toI_inj hm hm' e)
            obtain ⟨l', e1, e2⟩ := mapPut_sim (q := q) hm hx (j0 := j0 + 1) hks hvs g3
            refine ⟨_, e1, ?_⟩
            rcases e2 with ⟨j, c, f1, f2, f3, f4⟩ | ⟨f1, f2⟩
            · exact .inl ⟨j + 1, c, by simp [Instr.findNow, hs, hne', f1, Nat.add_assoc, Nat.add_comm 1 j], by simpa using f2, .cons _ _ _ _ (h1 ▸ hk1) f3, .cons _ _ _ _ hv1 f4⟩
            · exact .inr ⟨by simp [Instr.findNow, hs, hne', f1], by rw [f2]; rfl⟩

theorem sim_mup {t kt et : TypeId} {q : IntKind} {x k y : Operand} {x' k' y' : O} (hu : P.underlying t = some (.map kt et)) (hk : P.underlying kt = some (.int q)) (hx : opd P n x = some x') (hkk : opd P n k = some k') (hy : opd P n y = some y')
    (ho : o.op = .mapUpdate t x k y) : OpSim P n o (.mup x' k' y') := by
  intro cf σ h w e a v h' _ r he g
  have vx := opd_sim r he hx
  have vk := opd_sim r he hkk
  have vy := opd_sim r he hy
  obtain ⟨b, h1, g⟩ := asM_ok (show asM (x'.v e) (fun a => asI (k'.v e) fun q n => h.mp a fun l => mapPut l q n (y'.v e) fun l => h.set a (.mp l) fun h => .ok (.t []) h) = .ok v h' from g)
  obtain ⟨kk, m, h2, g⟩ := asI_ok g
  obtain ⟨l, hb, g⟩ := Hp.mp_ok g
  rw [h1] at vx; rw [h2] at vk
  obtain ⟨hm, ek⟩ := vk.inv_i
  obtain ⟨inf, hinf, ex⟩ := vx.inv_m
  have hbr := r.blk b inf hinf
  rw [hb] at hbr
  obtain ⟨es, ck, hat, hks, hvs⟩ := hbr
  have hlt : inf.blk < w.heap.size := (Array.getElem?_eq_some_iff.1 hat).1
  obtain ⟨l', g2, hc⟩ := mapPut_sim (q := q) hm vy (j0 := 0) hks hvs g
  rw [Hp.set_eq] at g2
  cases g2
  have hget := run_getObj (P := P) hat (by simp)
  have hex : execOp a.eval o = (do Instr.mapUpdate t (a.eval x) (a.eval k) (a.eval y); pure .skip) := by simp [execOp, ho]
  rw [hex, ex, ek]
  rcases hc with ⟨j, c, f1, f2, f3, f4⟩ | ⟨f1, rfl⟩
  · have hset := run_setObj (P := P) (ob' := .map (es.modify j fun e => { e with key := .int kk (toI kk m), val := a.eval y }) ck) hat (by simp)
    obtain ⟨s1, s2, s3⟩ := heap_set (w := w) (ob := .map (es.modify j fun e => { e with key := .int kk (toI kk m), val := a.eval y }) ck) hlt
    have hkey : ((es[j]?).map (·.key)).getD (.int kk (toI kk m)) = .int kk (toI kk m) := by
      rw [← Array.getElem?_toList]; cases hj : es.toList[j]? with
      | none => rfl
      | some z => rw [hj] at f2; simpa using f2
    have hstay : (Instr.keyThatStays (.int kk (toI kk m)) (.int kk (toI kk m))).run P w = .ok (.int kk (toI kk m)) w := by
      simp [Instr.keyThatStays, Instr.sameBits]
    refine .unit (w2 := { w with heap := w.heap.setIfInBounds inf.blk (.map (es.modify j fun e => { e with key := .int kk (toI kk m), val := a.eval y }) ck) }) ?_ (r.change hinf (by rw [hb]; simp) s1 s3 ⟨_, ck, s2, ?_, ?_⟩) rfl
    · rw [Nat.zero_add] at f1
      simp [Instr.mapUpdate, run_underlying hu, hget, checkKey_int hk, Instr.findKey, run_underlying hk, f1, hkey, hstay, hset]
    · rw [Array.toList_modify]; exact f3
    · rw [Array.toList_modify]; exact f4
  · have hset := run_setObj (P := P) (ob' := .map (es.push { key := .int kk (toI kk m), val := a.eval y, born := ck }) (ck + 1)) hat (by simp)
    obtain ⟨s1, s2, s3⟩ := heap_set (w := w) (ob := .map (es.push { key := .int kk (toI kk m), val := a.eval y, born := ck }) (ck + 1)) hlt
    refine .unit (w2 := { w with heap := w.heap.setIfInBounds inf.blk (.map (es.push { key := .int kk (toI kk m), val := a.eval y, born := ck }) (ck + 1)) }) ?_ (r.change hinf (by rw [hb]; simp) s1 s3 ⟨_, ck + 1, s2, ?_, ?_⟩) rfl
    · simp [Instr.mapUpdate, run_underlying hu, hget, checkKey_int hk, Instr.findKey, run_underlying hk, f1, hset]
    · simp only [List.map_append, Array.toList_push]; exact hks.append (.cons _ _ _ _ (.i _ _ hm) .nil)
    · simp only [List.map_append, Array.toList_push]; exact hvs.append (.cons _ _ _ _ vy .nil)

/-- What the capacity of an append is. -/
theorem cap_ge (need old : Nat) (el : TypeId) (t : Nat) : need ≤ (Question.appendCap need old el).cut t := by simp only [Question.cut]; omega
/-- The world with one answer more of the tape. -/
def drew (w : World) : World := { w with drawn := w.drawn + 1 }
theorem run_cap (need old : Nat) (el : TypeId) : (choose (.appendCap need old el)).run P w = .ok ((Question.appendCap need old el).cut (w.tape w.drawn (.appendCap need old el))) (drew w) := rfl
theorem modify_push (hp : Array Obj) (ob : Obj) (f : Obj → Obj) : (hp.push ob).modify hp.size f = hp.push (f ob) := by
  apply Array.ext_getElem?
  intro j
  rw [Array.getElem?_modify]
  by_cases hj : hp.size = j
  · subst hj; simp
  · rw [if_neg hj, Array.getElem?_push, Array.getElem?_push, if_neg (fun e => hj e.symm), if_neg (fun e => hj e.symm)]

theorem sim_s2b {s d el : TypeId} {x : Operand} {y : O} (hs : P.underlying s = some .string) (hd : P.underlying d = some (.slice el)) (he8 : P.underlying el = some (.int .u8)) (h1s : size? P el = some 1)
    (hx : opd P n x = some y) (ho : o.op = .convert s d x) : OpSim P n o (.s2b el y) := by
  intro cf σ h w e a v h' _ r he g
  have vx := opd_sim r he hx
  obtain ⟨l, m, h1, g⟩ := asS_ok (show asS (y.v e) (fun l n => letters l n fun xs => h.new (.cl el .os 0 l xs) fun a h => .ok (.sl a 0 l 0) h) = .ok v h' from g)
  rw [h1] at vx
  obtain ⟨bs, ex, rfl, rfl⟩ := vx.inv_s
  rw [letters_eq] at g
  obtain ⟨yn, hyn, g2⟩ := Hp.new_ok g
  cases g2
  have hex : execOp a.eval o = (do let v ← convert s d (a.eval x); pure (.value v)) := by simp [execOp, ho]
  rw [hex, ex]
  obtain ⟨cap, hcap⟩ : ∃ cap, (Question.appendCap bs.size 0 el).cut (w.tape w.drawn (.appendCap bs.size 0 el)) = cap := ⟨_, rfl⟩
  have hge : bs.size ≤ cap := by rw [← hcap]; exact cap_ge _ _ _ _
  obtain ⟨cells, hcells⟩ : ∃ cells : Array Value, (bs.data.map fun b => Value.int .u8 b.toNat) ++ Array.replicate (cap - bs.size) (.int .u8 0) = cells := ⟨_, rfl⟩
  have hsz : cells.size = cap := by rw [← hcells]; have : bs.data.size = bs.size := rfl; simp; omega
  have hr : (convert s d (.string bs)).run P w = .ok (.slice (some ⟨w.heap.size, 0, none⟩) bs.size cap) { drew w with heap := w.heap.push (.cells cells el (cap, cap + 1)) } := by
    have hb : (convert s d (.string bs)).run P w = (Conv.stringToBytes el bs).run P w := by simp [convert, run_underlying hs, run_underlying hd, run_underlying he8]
    rw [hb]
    have hsh : ({ drew w with heap := w.heap.push (.cells cells el) } : World).shape? w.heap.size = some (el, cap) := by simp [World.shape?, hsz]
    have hfr : ({ drew w with heap := w.heap.push (.cells cells el) } : World).freeze ⟨w.heap.size, cap, none⟩ 1 = { drew w with heap := w.heap.push (.cells cells el (cap, cap + 1)) } := by
      simp only [World.freeze, Nat.one_ne_zero, if_false, modify_push, beq_self_eq_true, if_true]
    have hnew : (newObj (.cells cells el)).run P (drew w) = .ok w.heap.size { drew w with heap := w.heap.push (.cells cells el) } := rfl
    have hmk : (markStringish ⟨w.heap.size, 0, none⟩).run P { drew w with heap := w.heap.push (.cells cells el) } = .ok () { drew w with heap := w.heap.push (.cells cells el (cap, cap + 1)) } := by
      simp only [markStringish, Sem.run_bind, run_shape, hsh, Result.andThen_ok, run_freeze, hfr]
    simp only [Conv.stringToBytes, Sem.run_bind, run_cap, Result.andThen_ok, hcap, hcells, newRow, hnew, Sem.run_pure, hmk]
  have hlen : bs.data.toList.length = bs.size := rfl
  obtain ⟨r1, r2, r3⟩ := new_cells (w := w) r hyn (l := bs.data.toList.map fun b => .i .u8 b.toNat) (cs := cells) (t := el) (st := .os) (fz := 0) (fr := (cap, cap + 1)) (by simp [hsz]; omega) (by simp)
    (fun j q hu => by
      rw [List.getElem?_map] at hu
      cases hb : bs.data.toList[j]? with
      | none => rw [hb] at hu; cases hu
      | some b =>
        rw [hb] at hu; cases hu
        refine ⟨.int .u8 b.toNat, ?_, u8_sim σ b, rfl⟩
        have hj : j < bs.data.size := by have := (List.getElem?_eq_some_iff.1 hb).1; simpa using this
        rw [← hcells, Array.getElem?_append_left (by simpa using hj), Array.getElem?_map, ← Array.getElem?_toList, hb]; rfl)
    (fun j h1 h2 h3 => by simp only at h2; omega) (by simp) (fun e => by cases e)
  rw [List.length_map] at r1 r2
  refine .val ⟨_, .slice (some ⟨w.heap.size, 0, none⟩) bs.size cap, { drew w with heap := w.heap.push (.cells cells el (cap, cap + 1)) }, ?_, r2, r1, ?_⟩
  · exact hr
  · have hc1 : P.cellsOf el = 1 := (run_size (w := w) h1s).2
    have := VR.sl (σ := σ.add h.nx ⟨w.heap.size, 0, cells.size, P.cellsOf el⟩) h.nx 0 bs.data.toList.length 0 _ cap r3 (by rw [hlen]; exact hge) (fun _ => by simp [hc1, hsz]) (fun k hk => by omega)
    exact this
end
end Go.Proofs.YtoipldpekiikjaaGreatDoor.Clo
