/-
  What holds in the rounds of the law HistoryPlays. No condition.
-/
import Derived.Test.YtjlclpdjblicjaaGoesI
namespace Go.Proofs.Ytjlclpdjblicjaa
open Go.RowKit Go.Sort Go.BigFrame
set_option linter.unusedVariables false
set_option maxRecDepth 10000
theorem cells_hact : Try.prog.cellsOf 56 = 8 := by kernel_rfl
theorem list_hact {l : List Value} (h : l.length = 8) : ∃ x0 x1 x2 x3 x4 x5 x6 x7, l = [x0, x1, x2, x3, x4, x5, x6, x7] := by
  match l, h with
  | [x0, x1, x2, x3, x4, x5, x6, x7], _ => exact ⟨x0, x1, x2, x3, x4, x5, x6, x7, rfl⟩
theorem fit_hact {w : World} {n : Nat} {cs : List Value} (h : FitW Try.prog w (n + 4) 56 cs) : ∃ (fKind : Int) (eSeq : Int) (ehSlot : Int) (ehGen : Int) (epSeq : Int) (epTime : Int) (epSsrc : Int) (epFrame : Int), cs = [.int .i64 fKind, .int .u16 eSeq, .int .i64 ehSlot, .int .u32 ehGen, .int .u16 epSeq, .int .u32 epTime, .int .u32 epSsrc, .int .u16 epFrame] ∧ -9223372036854775808 ≤ fKind ∧ fKind ≤ 9223372036854775807 ∧ 0 ≤ eSeq ∧ eSeq ≤ 65535 ∧ -9223372036854775808 ≤ ehSlot ∧ ehSlot ≤ 9223372036854775807 ∧ 0 ≤ ehGen ∧ ehGen ≤ 4294967295 ∧ 0 ≤ epSeq ∧ epSeq ≤ 65535 ∧ 0 ≤ epTime ∧ epTime ≤ 4294967295 ∧ 0 ≤ epSsrc ∧ epSsrc ≤ 4294967295 ∧ 0 ≤ epFrame ∧ epFrame ≤ 65535 := by
  obtain ⟨hlen, h⟩ := fit_struct Try.underlying56 h
  rw [cells_hact] at hlen
  obtain ⟨x0, x1, x2, x3, x4, x5, x6, x7, rfl⟩ := list_hact hlen
  clear hlen
  obtain ⟨z0, e0, c0, d0⟩ := fit_i64 Try.underlying3 (h 0 _ rfl)
  simp [(show Try.prog.cellsOf 3 = 1 by kernel_rfl)] at e0
  obtain ⟨z1_0, z1_1, z1_2, z1_3, z1_4, z1_5, z1_6, e1, c1_0, c1_1, c1_2, c1_3, c1_4, c1_5, c1_6, c1_7, c1_8, c1_9, c1_10, c1_11, c1_12, c1_13⟩ := fit_entry (h 1 _ rfl)
  simp [(show Try.prog.cellsOf 54 = 7 by kernel_rfl)] at e1
  subst e0
  obtain ⟨rfl, rfl, rfl, rfl, rfl, rfl, rfl⟩ := e1
  exact ⟨z0, z1_0, z1_1, z1_2, z1_3, z1_4, z1_5, z1_6, rfl, c0, d0, c1_0, c1_1, c1_2, c1_3, c1_4, c1_5, c1_6, c1_7, c1_8, c1_9, c1_10, c1_11, c1_12, c1_13⟩
/-- A row of acts: of each its kind and its entry. -/
theorem fit_rowHact {w : World} {n t : Nat} {cs : List Value} (ht : t = 46) (h : FitW Try.prog w (n + 5) t cs) : ∃ (a : Option Addr) (len cap : Nat), cs = [.slice a len cap] ∧ len ≤ maxLen ∧
    ∀ i, i < len → ∃ b off k e, a = some ⟨b, off, none⟩ ∧ b < w.heap.size ∧ -9223372036854775808 ≤ k ∧ k ≤ 9223372036854775807 ∧ w.cell? ⟨b, off + i * 8, none⟩ = some (.int .i64 k) ∧ ∀ j, j < 7 → w.cell? ⟨b, off + i * 8 + (j + 1), none⟩ = (entC e)[j]? := by
  subst ht
  obtain ⟨a, len, cap, h1, h2, h3, h4, h5⟩ := fit_slice Try.underlying46 (show Try.prog.cellsOf 56 = 8 by kernel_rfl) (by omega) h
  refine ⟨a, len, cap, h1, by omega, fun i hi => ?_⟩
  obtain ⟨b, off, es, e1, e2, e3, e4, e5⟩ := h5 i hi
  obtain ⟨k, x0, x1, x2, x3, x4, x5, x6, rfl, k0, k1, _⟩ := fit_hact e5
  refine ⟨b, off, k, (x0, x1, x2, x3, x4, x5, x6), e1, e2, k0, k1, ?_, fun j hj => ?_⟩
  · simpa using e4 0 (by omega)
  · have := e4 (j + 1) (by omega)
    rw [this]
    match j, hj with
    | 0, _ => rfl
    | 1, _ => rfl
    | 2, _ => rfl
    | 3, _ => rfl
    | 4, _ => rfl
    | 5, _ => rfl
    | 6, _ => rfl
/-- A history and the list of all that was pushed. -/
structure PlayH (W w : World) (hb m : Nat) (v va : Value) (A : List Ent) : Prop where
  J : HistJ W w hb m v (lastE A m)
  L : Line w W.heap.size 7 va A.length (ents A)
  h : va.ownBlock ≠ some hb
  s : ∀ q, va.ownBlock = some q → v.ownBlock ≠ some q
theorem PlayH.keep {W w w' : World} {hb m : Nat} {v va : Value} {A : List Ent} (h : PlayH W w hb m v va A) (b : Below w.heap.size w w') : PlayH W w' hb m v va A :=
  ⟨h.J.keep b, h.L.keep b, h.h, h.s⟩
/-- Behind the append to the list of all. -/
structure PlayK (W w : World) (hb m : Nat) (v va vb : Value) (A : List Ent) (e : Ent) : Prop where
  J : HistJ W w hb m v (lastE A m)
  L : Line w W.heap.size 7 va A.length (ents A)
  K : Line w W.heap.size 7 vb (A.length + 1) (ents (A ++ [e]))
  h : va.ownBlock ≠ some hb
  s : ∀ q, va.ownBlock = some q → v.ownBlock ≠ some q
  h' : vb.ownBlock ≠ some hb
  s' : ∀ q, vb.ownBlock = some q → v.ownBlock ≠ some q
theorem PlayK.keep {W w w' : World} {hb m : Nat} {v va vb : Value} {A : List Ent} {e : Ent} (h : PlayK W w hb m v va vb A e) (b : Below w.heap.size w w') : PlayK W w' hb m v va vb A e :=
  ⟨h.J.keep b, h.L.keep b, h.K.keep b, h.h, h.s, h.h', h.s'⟩
theorem PlayH.app {W w w' : World} {hb m H : Nat} {v va vb : Value} {A : List Ent} {e : Ent} (h : PlayH W w hb m v va A) (hK : Line w' W.heap.size 7 vb (A.length + 1) (ents A ++ entC e)) (hL : Line w' W.heap.size 7 va A.length (ents A)) (hg : w.grownBy w' va.ownBlock) (hat : vb.ownBlock = va.ownBlock ∨ vb.ownBlock = some H) (hH : w.heap.size ≤ H) : PlayK W w' hb m v va vb A e := by
  refine ⟨h.J.grown hg h.h (fun q hq e => h.s q e hq) (fun q hq => (h.L.lt hq).1), hL, by rw [ents_snoc]; exact hK, h.h, h.s, ?_, fun q hq => ?_⟩
  · rcases hat with e' | e'
    · rw [e']; exact h.h
    · rw [e']; intro e; simp only [Option.some.injEq] at e; have := h.J.lt; omega
  · rcases hat with e' | e'
    · exact h.s q (by rw [← e']; exact hq)
    · intro e2; rw [e'] at hq; simp only [Option.some.injEq] at hq; have := (h.J.H.line.lt e2).2; omega
/-- Behind Push. -/
structure PlayP (W w : World) (hb m : Nat) (v va vb : Value) (A : List Ent) (e : Ent) : Prop where
  J : HistJ W w hb m v (lastE (A ++ [e]) m)
  L : Line w W.heap.size 7 va A.length (ents A)
  K : Line w W.heap.size 7 vb (A.length + 1) (ents (A ++ [e]))
  h' : vb.ownBlock ≠ some hb
  s' : ∀ q, vb.ownBlock = some q → v.ownBlock ≠ some q
theorem PlayP.keep {W w w' : World} {hb m : Nat} {v va vb : Value} {A : List Ent} {e : Ent} (h : PlayP W w hb m v va vb A e) (b : Below w.heap.size w w') : PlayP W w' hb m v va vb A e :=
  ⟨h.J.keep b, h.L.keep b, h.K.keep b, h.h', h.s'⟩
theorem PlayK.pushed {W w w' : World} {hb m : Nat} {v v' va vb : Value} {A : List Ent} {e : Ent} (h : PlayK W w hb m v va vb A e) (J' : HistJ W w' hb m v' (lastE (A ++ [e]) m)) (F : FrameS (PushS hb v) w w') (hat : v'.ownBlock = v.ownBlock ∨ ∃ q, w.heap.size ≤ q ∧ v'.ownBlock = some q) : PlayP W w' hb m v' va vb A e := by
  refine ⟨J', F.line h.L (fun q hq e => by rcases e with e | e; exact h.h (by rw [hq, e]); exact h.s q hq e), F.line h.K (fun q hq e => by rcases e with e | e; exact h.h' (by rw [hq, e]); exact h.s' q hq e), h.h', fun q hq e => ?_⟩
  rcases hat with e' | ⟨q', hq', e'⟩
  · exact h.s' q hq (by rw [← e']; exact e)
  · rw [e] at e'; simp only [Option.some.injEq] at e'
    have := (h.K.lt hq).2; omega
theorem PlayP.play {W w : World} {hb m : Nat} {v va vb : Value} {A : List Ent} {e : Ent} (h : PlayP W w hb m v va vb A e) : PlayH W w hb m v vb (A ++ [e]) :=
  ⟨h.J, by rw [List.length_append, List.length_singleton]; exact h.K, h.h', h.s'⟩
theorem findV_form (l : List Ent) (s : Int) : ∃ f0 f1 f2 f3 f4 f5 f6 fb, findV l s = .tuple #[.agg #[.int .u16 f0, .int .i64 f1, .int .u32 f2, .int .u16 f3, .int .u32 f4, .int .u32 f5, .int .u16 f6], .bool fb] :=
  ⟨_, _, _, _, _, _, _, _, rfl⟩
theorem ents_drop (A : List Ent) : ∀ k, (ents A).drop (k * 7) = ents (A.drop k) := by
  induction A with
  | nil => intro k; simp [ents]
  | cons x r ih =>
    intro k
    cases k with
    | zero => simp
    | succ k =>
      have e : ents (x :: r) = entC x ++ ents r := by simp [ents]
      rw [e, List.drop_succ_cons, ← ih k, List.drop_append, entC_len, show (k + 1) * 7 - 7 = k * 7 by omega, List.drop_of_length_le (by rw [entC_len]; omega), List.nil_append]
theorem lastLine {w : World} {B m q : Nat} {v : Value} {A : List Ent} (h : Line w B 7 v A.length (ents A)) (hq : (lastE A m).length = q) : Line w B 7 (cutFrom v (A.length - m) 7) q (ents (lastE A m)) := by
  have := h.from (A.length - m) (by omega)
  rw [ents_drop] at this
  rw [← hq, lastE_len]
  exact this
theorem allQ {W w X : World} {hb m q : Nat} {v : Value} {l : List Ent} (J : HistJ W w hb m v l) (hq : l.length = q) (k : Below w.heap.size w X) :
    Calls Try.prog 35 #[.pointer (some ⟨hb, 0, none⟩)] X fun e w' => ∃ v', e = .returned v' ∧ Line w' X.heap.size 7 v' q (ents l) ∧ Below X.heap.size X w' := by
  subst hq; exact allJ J k
theorem clearQ {W w X : World} {hb m q : Nat} {v : Value} {l : List Ent} (J : HistJ W w hb m v l) (hq : l.length = q) (k : Below w.heap.size w X) :
    Calls Try.prog 34 #[.pointer (some ⟨hb, 0, none⟩)] X fun e w' => ∃ v', e = .returned v' ∧ Line w' X.heap.size 7 v' q (ents l) ∧ HistJ W w' hb m (.slice none 0 0) [] ∧ FrameS (fun k => k = hb) X w' := by
  subst hq; exact clearJ J k
end Go.Proofs.Ytjlclpdjblicjaa
