/-
  resend.find does what the table says. No condition.
-/
import Derived.Test.YtblohnpdcjgmcaaGreatDoorCloD
import Derived.Test.YtblohnpdcjgmcaaGreatDoorFind
namespace Go.Proofs.YtblohnpdcjgmcaaGreatDoor.Clo
set_option linter.all false
open Go.Proofs.YtblohnpdcjgmcaaGreatDoor (Ent entC ents e0 findV Has findR Gives)
open Go.Proofs.YtblohnpdcjgmcaaGreatDoor renaming findE → fndE
open Go.Proofs
set_option maxRecDepth 100000

/-- The cells of an entry, as abstract values. -/
def entV (x : Nat × Nat × Nat × Nat × Nat × Nat × Nat) : List V :=
  [.i .u16 x.1, .i .i64 x.2.1, .i .u32 x.2.2.1, .i .u16 x.2.2.2.1, .i .u32 x.2.2.2.2.1, .i .u32 x.2.2.2.2.2.1, .i .u16 x.2.2.2.2.2.2]
def entOf (x : Nat × Nat × Nat × Nat × Nat × Nat × Nat) : Ent :=
  (toI .u16 x.1, toI .i64 x.2.1, toI .u32 x.2.2.1, toI .u16 x.2.2.2.1, toI .u32 x.2.2.2.2.1, toI .u32 x.2.2.2.2.2.1, toI .u16 x.2.2.2.2.2.2)
def lastA (n : Nat) : List (Nat × Nat × Nat × Nat × Nat × Nat × Nat) → V → V
  | [], acc => acc
  | x :: l, acc => lastA n l (if x.1 = n then .t [.a (entV x), .b true] else acc)

theorem lastC_ok {v : V} {h' : Hp} (n : Nat) : ∀ (c : Nat) (l : List V) (acc : V) (k : V → R1), lastC c n l acc k = .ok v h' → l.length = c * 7 →
    ∃ xs : List (Nat × Nat × Nat × Nat × Nat × Nat × Nat), xs.length = c ∧ l = xs.flatMap entV ∧ k (lastA n xs acc) = .ok v h'
  | 0, l, acc, k, e, hl => by
    have : l = [] := List.length_eq_zero_iff.1 (by omega)
    subst this
    exact ⟨[], rfl, rfl, e⟩
  | c + 1, l, acc, k, e, hl => by
    rcases l with _ | ⟨a0, _ | ⟨a1, _ | ⟨a2, _ | ⟨a3, _ | ⟨a4, _ | ⟨a5, _ | ⟨a6, r⟩⟩⟩⟩⟩⟩⟩
    all_goals first | (exfalso; simp only [List.length_cons, List.length_nil] at hl; omega) | skip
    have e : (match a0 :: a1 :: a2 :: a3 :: a4 :: a5 :: a6 :: r with
      | .i .u16 y :: .i .i64 x1 :: .i .u32 x2 :: .i .u16 x3 :: .i .u32 x4 :: .i .u32 x5 :: .i .u16 x6 :: r =>
        bR (Nat.beq y n) (lastC c n r (.t [.a [.i .u16 y, .i .i64 x1, .i .u32 x2, .i .u16 x3, .i .u32 x4, .i .u32 x5, .i .u16 x6], .b true]) k) (lastC c n r acc k)
      | _ => .no 140) = .ok v h' := e
    split at e
    · rename_i y x1 x2 x3 x4 x5 x6 r' he
      cases he
      rcases bR_ok e with ⟨hb, e⟩ | ⟨hb, e⟩
      · obtain ⟨xs, h1, h2, h3⟩ := lastC_ok n c r _ k e (by simp at hl; omega)
        refine ⟨(y, x1, x2, x3, x4, x5, x6) :: xs, by simp [h1], by simp [h2, entV], ?_⟩
        have : y = n := Nat.eq_of_beq_eq_true hb
        simp only [lastA, this, if_true]
        subst this
        exact h3
      · obtain ⟨xs, h1, h2, h3⟩ := lastC_ok n c r _ k e (by simp at hl; omega)
        refine ⟨(y, x1, x2, x3, x4, x5, x6) :: xs, by simp [h1], by simp [h2, entV], ?_⟩
        have : ¬ y = n := fun e => by subst e; rw [show Nat.beq y y = true from Nat.beq_refl y] at hb; cases hb
        simp only [lastA, this, if_false]
        exact h3
    · cases e
/-- The last one, as find says. -/
theorem lastA_find (n : Nat) (hn : n < 65536) : ∀ (xs : List (Nat × Nat × Nat × Nat × Nat × Nat × Nat)) (acc : V), (∀ x ∈ xs, x.1 < 65536) →
    (∃ x ∈ xs, lastA n xs acc = .t [.a (entV x), .b true] ∧ fndE (xs.map entOf) (n : Int) = some (entOf x)) ∨ (lastA n xs acc = acc ∧ fndE (xs.map entOf) (n : Int) = none)
  | [], acc, _ => .inr ⟨rfl, rfl⟩
  | x :: xs, acc, h => by
    have h16 : ∀ m, toI .u16 m = (m : Int) := fun m => by simp [toI, IntKind.signed]
    have hx := lastA_find n hn xs (if x.1 = n then .t [.a (entV x), .b true] else acc) fun y hy => h y (by simp [hy])
    have hf : fndE ((x :: xs).map entOf) (n : Int) = (fndE (xs.map entOf) (n : Int)).or (if x.1 = n then some (entOf x) else none) := by
      unfold fndE
      rw [List.map_cons, List.reverse_cons, List.find?_append]
      congr 1
      simp only [List.find?_cons, List.find?_nil, entOf, h16]
      by_cases hc : x.1 = n
      · simp [hc]
      · have hb : ((x.1 : Int) == (n : Int)) = false := by simp; omega
        rw [hb, if_neg hc]
    rcases hx with ⟨y, hy, e1, e2⟩ | ⟨e1, e2⟩
    · exact .inl ⟨y, by simp [hy], e1, by rw [hf, e2]; rfl⟩
    · by_cases hc : x.1 = n
      · rw [if_pos hc] at e1
        exact .inl ⟨x, by simp, by simp only [lastA, if_pos hc]; exact e1, by rw [hf, e2, if_pos hc]; rfl⟩
      · rw [if_neg hc] at e1
        exact .inr ⟨by simp only [lastA, if_neg hc]; exact e1, by rw [hf, e2, if_neg hc]; rfl⟩

theorem entV_rel {σ : Sg} {x : Nat × Nat × Nat × Nat × Nat × Nat × Nat} {cs : List Value} (h : VRs σ (entV x) cs) : cs = entC (entOf x) ∧ x.1 < 65536 := by
  obtain ⟨x0, x1, x2, x3, x4, x5, x6⟩ := x
  unfold entV at h
  cases h with | cons _ c0 _ _ h0 h =>
  cases h with | cons _ c1 _ _ h1 h =>
  cases h with | cons _ c2 _ _ h2 h =>
  cases h with | cons _ c3 _ _ h3 h =>
  cases h with | cons _ c4 _ _ h4 h =>
  cases h with | cons _ c5 _ _ h5 h =>
  cases h with | cons _ c6 _ _ h6 h =>
  cases h
  obtain ⟨k0, rfl⟩ := h0.inv_i
  obtain ⟨_, rfl⟩ := h1.inv_i
  obtain ⟨_, rfl⟩ := h2.inv_i
  obtain ⟨_, rfl⟩ := h3.inv_i
  obtain ⟨_, rfl⟩ := h4.inv_i
  obtain ⟨_, rfl⟩ := h5.inv_i
  obtain ⟨_, rfl⟩ := h6.inv_i
  exact ⟨rfl, k0⟩
theorem entsV_rel {σ : Sg} : ∀ {xs : List (Nat × Nat × Nat × Nat × Nat × Nat × Nat)} {cs : List Value}, VRs σ (xs.flatMap entV) cs → cs = ents (xs.map entOf) ∧ ∀ x ∈ xs, x.1 < 65536 ∧ VRs σ (entV x) (entC (entOf x)) := by
  intro xs
  induction xs with
  | nil => intro cs h; cases h; exact ⟨rfl, by simp⟩
  | cons x xs ih =>
    intro cs h
    rw [List.flatMap_cons] at h
    have hl := h.length
    rw [List.length_append, show (entV x).length = 7 from rfl] at hl
    have h1 := h.take 7
    have h2 := h.drop 7
    rw [List.take_append_of_le_length (by simp [entV]), List.take_of_length_le (by simp [entV])] at h1
    rw [show (7 : Nat) = (entV x).length from rfl, List.drop_left] at h2
    obtain ⟨e1, k1⟩ := entV_rel h1
    obtain ⟨e2, k2⟩ := ih h2
    refine ⟨?_, fun y hy => by simp only [List.mem_cons] at hy; rcases hy with rfl | hy; exact ⟨k1, by rw [← e1]; exact h1⟩; exact k2 y hy⟩
    rw [List.map_cons]
    show cs = (entOf x :: xs.map entOf).flatMap entC
    rw [List.flatMap_cons, ← e1]
    rw [show (entV x).length = 7 from rfl] at e2
    rw [show ((xs.map entOf).flatMap entC) = cs.drop 7 from e2.symm, List.take_append_drop]

/-- What the slice's reading is. -/
theorem elems7 {P : Program} {σ : Sg} {h h' : Hp} {w : World} {v x : V} {c : Value} {k : Nat → List V → R1} (r : Rel P σ h (core w)) (hx : VR σ x c) (g : elems 7 x h k = .ok v h') :
    ∃ len xs vs, k len xs = .ok v h' ∧ VRs σ xs vs ∧ xs.length = len * 7 ∧ Has w 7 c len vs := by
  rcases asSl_ok g with ⟨rfl, g2⟩ | ⟨rfl, g2⟩ | ⟨b, off, l, cc, rfl, g2⟩
  · rw [hx.inv_s0]
    exact ⟨0, [], [], g2, .nil, rfl, rfl, _, _, rfl, Nat.le_refl _, fun h => by omega⟩
  · obtain ⟨A, cap, rfl⟩ := hx.inv_se
    exact ⟨0, [], [], g2, .nil, rfl, rfl, _, _, rfl, Nat.zero_le _, fun h => by omega⟩
  · obtain ⟨i, cap, hi, rfl, hl, _⟩ := hx.inv_sl
    rcases nR_ok g2 with ⟨rfl, g3⟩ | ⟨l', rfl, g3⟩
    · exact ⟨0, [], [], g3, .nil, rfl, rfl, _, _, rfl, Nat.zero_le _, fun h => by omega⟩
    · obtain ⟨t, st, fz, n, cells, hb, g4⟩ := Hp.cl_ok (k := fun _ _ _ _ c => takeC (Nat.mul (l' + 1) 7) (dropL off c) fun r => k (l' + 1) r) g3
      obtain ⟨hle, g5⟩ := takeC_ok _ g4
      rw [dropL_eq, List.length_drop] at hle
      rw [dropL_eq] at g5
      have hle : (l' + 1) * 7 ≤ cells.length - off := hle
      obtain ⟨cs, fr, br⟩ := r.cl hi hb
      have hlt : i.blk < w.heap.size := (Array.getElem?_eq_some_iff.1 br.at_).1
      -- the cells' values
      have hv : ∀ j, j < (l' + 1) * 7 → ∃ q u, cells[off + j]? = some q ∧ cs[i.d + (off + j)]? = some u ∧ VR σ q u := fun j hj => by
        have h1 : off + j < cells.length := by omega
        obtain ⟨u, h2, h3⟩ := br.cell (off + j) _ (List.getElem?_eq_getElem h1)
        exact ⟨_, u, List.getElem?_eq_getElem h1, h2, h3.1⟩
      have hsz := br.size
      have hE := br.le
      have hn := br.len
      refine ⟨l' + 1, (cells.drop off).take ((l' + 1) * 7), (cs.toList.drop (i.d + off)).take ((l' + 1) * 7), g5, ?_, ?_, ?_, _, cap, rfl, hl, fun _ => ⟨i.blk, i.d + off, rfl, hlt, fun j u hu => ?_⟩⟩
      · apply VRs.of_get
        · simp only [List.length_take, List.length_drop, Array.length_toList]; omega
        · intro j q u hq hu
          rw [List.getElem?_take] at hq hu
          split at hq
          · rename_i hj
            rw [if_pos hj, List.getElem?_drop, Array.getElem?_toList] at hu
            rw [List.getElem?_drop] at hq
            obtain ⟨q', u', h1, h2, h3⟩ := hv j hj
            rw [h1] at hq; cases hq
            rw [Nat.add_assoc, h2] at hu; cases hu
            exact h3
          · cases hq
      · simp only [List.length_take, List.length_drop]; omega
      · simp only [List.length_take, List.length_drop, Array.length_toList]; omega
      · rw [List.getElem?_take] at hu
        split at hu
        · rw [List.getElem?_drop, Array.getElem?_toList] at hu
          rw [br.cell?]; exact hu
        · cases hu

/-- Nothing that a name means is touched. -/
theorem Rel.below {P : Program} {σ : Sg} {h : Hp} {w w' : World} (r : Rel P σ h (core w)) (h1 : w'.os = w.os) (h2 : w'.output = w.output) (h3 : w.heap.size ≤ w'.heap.size)
    (h4 : ∀ k, k < w.heap.size → w'.heap[k]? = w.heap[k]?) : Rel P σ h (core w') :=
  ⟨fun x i hx => (r.blk x i hx).mono (Le.refl σ) (h4 _ (r.lt x i hx)), r.inj, r.new, fun x i hx => Nat.lt_of_lt_of_le (r.lt x i hx) h3, r.glob, r.free,
   fun b o hb => by have := r.fix b o hb; show w'.heap[b]? = _; rw [h4 b (Array.getElem?_eq_some_iff.1 this).1]; exact this, r.own, h1.trans r.os, h2.trans r.out⟩

theorem find_ok (us : List V) (h : Hp) (v : V) (h' : Hp) (g : Go.Proofs.YtblohnpdcjgmcaaGreatDoor.Clo.findE 7 [.i .u16 0, .i .i64 0, .i .u32 0, .i .u16 0, .i .u32 0, .i .u32 0, .i .u16 0] us h = .ok v h') : CallAt Tryz.prog 265 us h v h' := by
  intro σ w args r hv
  obtain ⟨args⟩ := args
  unfold Go.Proofs.YtblohnpdcjgmcaaGreatDoor.Clo.findE at g
  split at g
  · rename_i v0 n
    have g : elems 7 v0 h (fun c l => bR (Nat.ble c 1000000) (lastC c n l (.t [.a [.i .u16 0, .i .i64 0, .i .u32 0, .i .u16 0, .i .u32 0, .i .u32 0, .i .u16 0], .b false]) fun v => .ok v h) (.no 139)) = .ok v h' := g
    cases hv with | cons _ c0 _ _ h0 hv =>
    cases hv with | cons _ c1 _ _ h1 hv =>
    cases hv
    obtain ⟨hn, rfl⟩ := h1.inv_i
    have hn : n < 65536 := hn
    rw [show toI .u16 n = (n : Int) by simp [toI, IntKind.signed]]
    obtain ⟨len, xs, vs, g2, hvs, hxl, hhas⟩ := elems7 r h0 g
    obtain ⟨hlen, g3⟩ := bR_no g2
    have hlen : len ≤ 1000000 := nble hlen
    obtain ⟨es, he1, he2, g4⟩ := lastC_ok n len xs _ _ g3 hxl
    subst he2
    obtain ⟨rfl, hlt⟩ := entsV_rel hvs
    have hc := findR (s := (n : Int)) hhas (by simp [he1]) (by omega)
    cases g4
    refine .inr (.inr ⟨265, #[c0, .int .u16 n], enter_run (fn := Tryz.f265) (c := Tryz.f265.body.getD .skip) (by kernel_rfl) (by kernel_rfl) (by kernel_rfl) _ w, hc.mono fun e w' hg => ?_⟩)
    obtain ⟨rfl, hb⟩ := hg
    refine ⟨σ, .refl _ _, ?_, ?_⟩
    · exact r.below hb.os hb.output hb.size fun k hk => hb.block k hk
    · unfold findV
      rcases lastA_find n hn es (.t [.a [.i .u16 0, .i .i64 0, .i .u32 0, .i .u16 0, .i .u32 0, .i .u32 0, .i .u16 0], .b false]) (fun x hx => (hlt x hx).1) with ⟨x, hx, e1, e2⟩ | ⟨e1, e2⟩
      · rw [e1, e2]
        have hcs := (hlt x hx).2
        exact .t _ _ (.cons _ _ _ _ (.a _ _ (by simpa using hcs) (by intro c hc; simp [entC] at hc; rcases hc with rfl | rfl | rfl | rfl | rfl | rfl | rfl <;> rfl)) (.cons _ _ _ _ (.b true) .nil))
      · rw [e1, e2]
        refine .t _ _ (.cons _ _ _ _ (.a _ _ ?_ (by intro c hc; simp [entC, e0] at hc; rcases hc with rfl | rfl | rfl | rfl | rfl | rfl | rfl <;> rfl)) (.cons _ _ _ _ (.b false) .nil))
        exact .cons _ _ _ _ (.i .u16 0 (by decide)) (.cons _ _ _ _ (.i .i64 0 (by decide)) (.cons _ _ _ _ (.i .u32 0 (by decide)) (.cons _ _ _ _ (.i .u16 0 (by decide)) (.cons _ _ _ _ (.i .u32 0 (by decide)) (.cons _ _ _ _ (.i .u32 0 (by decide)) (.cons _ _ _ _ (.i .u16 0 (by decide)) .nil))))))
  · cases g
end Go.Proofs.YtblohnpdcjgmcaaGreatDoor.Clo
