/-
  What the reading of an argument tells of its cells: numbers fit their kinds, a struct has its fields, a slice's elements lie in old cells. No condition.
-/
import Derived.WalkKit
import Derived.ProofKit
import Derived.OpenShut
import Derived.ShutString
import Derived.ChangeOld
import Derived.Below
namespace Go.Proofs.YtoipldpekiikjaaGreatDoor
open Go.ChangeShapes Go.WideShapes Go.ChangeAt Go.RowKit

def FitW (P : Program) (w : World) : Nat → TypeId → List Value → Prop
  | 0, _, _ => True
  | n + 1, t, cs => match P.underlying t with
    | some .bool => ∃ b, cs = [.bool b]
    | some (.int k) => ∃ x, cs = [.int k x] ∧ (Lit.int k x).wf = true
    | some .string => ∃ s : ByteArray, cs = [.string s] ∧ s.size ≤ maxLen
    | some (.struct fs) => cs.length = P.cellsOf t ∧ ∀ (i : Nat) (f : Field), fs[i]? = some f → FitW P w n f.type ((cs.drop f.offset).take (P.cellsOf f.type))
    | some (.slice e) => ∃ a len cap, cs = [.slice a len cap] ∧ len ≤ cap ∧ cap ≤ maxLen ∧ (a = none → cap = 0) ∧
        (0 < P.cellsOf e → ∀ i, i < len → ∃ b off es, a = some ⟨b, off, none⟩ ∧ b < w.heap.size ∧ es.length = P.cellsOf e ∧ (∀ j, j < P.cellsOf e → w.cell? ⟨b, off + i * P.cellsOf e + j, none⟩ = es[j]?) ∧ FitW P w n e es)
    | _ => True

section
variable {H : Type} {enc : TypeId × Value → H} {P : Program} {w : World} {base : Nat} {spare : Nat → Bool} {held : Bool}

theorem fit_of_trod  : ∀ (n fuel : Nat) (t : TypeId) (cs : List Value) (x : DataW H × List MemPlace), DataW.trod enc P w base spare held fuel t cs = some x → FitW P w n t cs
  | 0, _, _, _, _, _ => trivial
  | n + 1, fuel, t, cs, x, h => by
    unfold FitW
    split
    · rename_i ht
      obtain ⟨b, hb, _⟩ := DataW.trod_bool ht h
      exact ⟨b, hb⟩
    · rename_i k ht
      obtain ⟨m, hm, _, hw⟩ := DataW.trod_int ht h
      exact ⟨m, hm, hw⟩
    · rename_i ht
      obtain ⟨s, hs, _, hl⟩ := DataW.trod_string ht h
      exact ⟨s, hs, hl⟩
    · rename_i fs ht
      obtain ⟨xs, m, _, _, hlen, hxl, hf⟩ := DataW.trod_struct ht h
      refine ⟨hlen, fun i f hi => ?_⟩
      have h1 := hf i f hi
      have hlt : i < fs.size := (Array.getElem?_eq_some_iff.1 hi).1
      have hx : xs[i]? = some (xs[i]'(by omega)) := List.getElem?_eq_getElem (by omega)
      exact fit_of_trod n m _ _ _ (h1.trans hx)
    · rename_i e ht
      rcases DataW.trod_slice ht h with ⟨rfl, _⟩ | ⟨a, len, cap, elems, rest, m, _, rfl, _, hb, hl, hc, hel, hi, _⟩
      · exact ⟨none, 0, 0, rfl, Nat.le_refl _, Nat.zero_le _, fun _ => rfl, fun _ i hi => absurd hi (Nat.not_lt_zero _)⟩
      · refine ⟨some a, len, cap, rfl, hl, hc, (fun h => by cases h), fun hp i hil => ?_⟩
        have h1 := hi i hil
        have hx : elems[i]? = some (elems[i]'(by omega)) := List.getElem?_eq_getElem (by omega)
        rw [hx, Option.bind_eq_some_iff] at h1
        obtain ⟨es, hes, htr⟩ := h1
        obtain ⟨_, hesl, hat⟩ := World.cells?_some hes
        obtain ⟨b, off, spot⟩ := a
        have h0 := hat 0 hp
        have hv0 : es[0]? = some (es[0]'(by omega)) := List.getElem?_eq_getElem (by omega)
        rw [hv0] at h0
        have hblk : b < w.heap.size := by
          have := block_lt_of_cell h0
          unfold Addr.add at this
          split at this <;> (try split at this) <;> simpa using this
        by_cases hz : i * P.cellsOf e = 0
        · have hspot : spot = none := by
            have := World.cell?_spot h0
            simpa [Addr.add, hz] using this
          subst hspot
          refine ⟨b, off, es, rfl, hblk, hesl, fun j hj => ?_, fit_of_trod n m _ _ _ htr⟩
          rw [← hat j hj]
          simp only [Addr.add, hz]
          by_cases hj0 : j = 0 <;> simp [hj0]
        · have hspot : spot = none := by
            have h00 := hi 0 (by omega)
            have hx0 : elems[0]? = some (elems[0]'(by omega)) := List.getElem?_eq_getElem (by omega)
            rw [hx0, Option.bind_eq_some_iff] at h00
            obtain ⟨es0, hes0, _⟩ := h00
            obtain ⟨_, hesl0, hat0⟩ := World.cells?_some hes0
            have h000 := hat0 0 hp
            have hv00 : es0[0]? = some (es0[0]'(by omega)) := List.getElem?_eq_getElem (by omega)
            rw [hv00] at h000
            have := World.cell?_spot h000
            simpa [Addr.add] using this
          subst hspot
          refine ⟨b, off, es, rfl, hblk, hesl, fun j hj => ?_, fit_of_trod n m _ _ _ htr⟩
          rw [← hat j hj]
          simp only [Addr.add, hz]
          by_cases hj0 : j = 0 <;> simp [hj0]
    · trivial

theorem fit_bool {P : Program} {w : World} {n : Nat} {t : TypeId} {cs : List Value} (ht : P.underlying t = some .bool) (h : FitW P w (n + 1) t cs) : ∃ b, cs = [.bool b] := by
  unfold FitW at h; rw [ht] at h; exact h
theorem fit_int {P : Program} {w : World} {n : Nat} {t : TypeId} {cs : List Value} {k : IntKind} (ht : P.underlying t = some (.int k)) (h : FitW P w (n + 1) t cs) : ∃ x, cs = [.int k x] ∧ (Lit.int k x).wf = true := by
  unfold FitW at h; rw [ht] at h; exact h
theorem fit_u8 {P : Program} {w : World} {n : Nat} {t : TypeId} {cs : List Value} (ht : P.underlying t = some (.int .u8)) (h : FitW P w (n + 1) t cs) : ∃ x : Int, cs = [.int .u8 x] ∧ 0 ≤ x ∧ x ≤ 255 := by
  obtain ⟨x, hx, hw⟩ := fit_int ht h
  exact ⟨x, hx, by simpa [Lit.wf, IntKind.min, IntKind.max, IntKind.signed, IntKind.bits] using hw⟩
theorem fit_u16 {P : Program} {w : World} {n : Nat} {t : TypeId} {cs : List Value} (ht : P.underlying t = some (.int .u16)) (h : FitW P w (n + 1) t cs) : ∃ x : Int, cs = [.int .u16 x] ∧ 0 ≤ x ∧ x ≤ 65535 := by
  obtain ⟨x, hx, hw⟩ := fit_int ht h
  exact ⟨x, hx, by simpa [Lit.wf, IntKind.min, IntKind.max, IntKind.signed, IntKind.bits] using hw⟩
theorem fit_u32 {P : Program} {w : World} {n : Nat} {t : TypeId} {cs : List Value} (ht : P.underlying t = some (.int .u32)) (h : FitW P w (n + 1) t cs) : ∃ x : Int, cs = [.int .u32 x] ∧ 0 ≤ x ∧ x ≤ 4294967295 := by
  obtain ⟨x, hx, hw⟩ := fit_int ht h
  exact ⟨x, hx, by simpa [Lit.wf, IntKind.min, IntKind.max, IntKind.signed, IntKind.bits] using hw⟩
theorem fit_i64 {P : Program} {w : World} {n : Nat} {t : TypeId} {cs : List Value} (ht : P.underlying t = some (.int .i64)) (h : FitW P w (n + 1) t cs) : ∃ x : Int, cs = [.int .i64 x] ∧ -9223372036854775808 ≤ x ∧ x ≤ 9223372036854775807 := by
  obtain ⟨x, hx, hw⟩ := fit_int ht h
  exact ⟨x, hx, by simpa [Lit.wf, IntKind.min, IntKind.max, IntKind.signed, IntKind.bits] using hw⟩
theorem fit_struct {P : Program} {w : World} {n : Nat} {t : TypeId} {cs : List Value} {fs : Array Field} (ht : P.underlying t = some (.struct fs)) (h : FitW P w (n + 1) t cs) :
    cs.length = P.cellsOf t ∧ ∀ (i : Nat) (f : Field), fs[i]? = some f → FitW P w n f.type ((cs.drop f.offset).take (P.cellsOf f.type)) := by
  unfold FitW at h; rw [ht] at h; exact h
theorem fit_slice {P : Program} {w : World} {n : Nat} {t e : TypeId} {cs : List Value} {m : Nat} (ht : P.underlying t = some (.slice e)) (hm : P.cellsOf e = m) (h0 : 0 < m) (h : FitW P w (n + 1) t cs) :
    ∃ a len cap, cs = [.slice a len cap] ∧ len ≤ cap ∧ cap ≤ maxLen ∧ (a = none → cap = 0) ∧
      ∀ i, i < len → ∃ b off es, a = some ⟨b, off, none⟩ ∧ b < w.heap.size ∧ es.length = m ∧ (∀ j, j < m → w.cell? ⟨b, off + i * m + j, none⟩ = es[j]?) ∧ FitW P w n e es := by
  unfold FitW at h; rw [ht] at h
  subst hm
  obtain ⟨a, len, cap, h1, h2, h3, h4, h5⟩ := h
  exact ⟨a, len, cap, h1, h2, h3, h4, h5 h0⟩

theorem fit_u64 {P : Program} {w : World} {n : Nat} {t : TypeId} {cs : List Value} (ht : P.underlying t = some (.int .u64)) (h : FitW P w (n + 1) t cs) : ∃ x : Int, cs = [.int .u64 x] ∧ 0 ≤ x ∧ x ≤ 18446744073709551615 := by
  obtain ⟨x, hx, hw⟩ := fit_int ht h
  exact ⟨x, hx, by simpa [Lit.wf, IntKind.min, IntKind.max, IntKind.signed, IntKind.bits] using hw⟩
theorem fit_string {P : Program} {w : World} {n : Nat} {t : TypeId} {cs : List Value} (ht : P.underlying t = some .string) (h : FitW P w (n + 1) t cs) : ∃ s : ByteArray, cs = [.string s] ∧ s.size ≤ maxLen := by
  unfold FitW at h; rw [ht] at h; exact h
theorem fit_slice0 {P : Program} {w : World} {n : Nat} {t e : TypeId} {cs : List Value} (ht : P.underlying t = some (.slice e)) (h : FitW P w (n + 1) t cs) :
    ∃ a len cap, cs = [.slice a len cap] ∧ len ≤ cap ∧ cap ≤ maxLen ∧ (a = none → cap = 0) := by
  unfold FitW at h; rw [ht] at h
  obtain ⟨a, len, cap, h1, h2, h3, h4, _⟩ := h
  exact ⟨a, len, cap, h1, h2, h3, h4⟩

theorem list1 {l : List Value} (h : l.length = 1) : ∃ a, l = [a] := by
  match l, h with
  | [a], _ => exact ⟨a, rfl⟩
theorem list2 {l : List Value} (h : l.length = 2) : ∃ a b, l = [a, b] := by
  match l, h with
  | [a, b], _ => exact ⟨a, b, rfl⟩
theorem list3 {l : List Value} (h : l.length = 3) : ∃ a b c, l = [a, b, c] := by
  match l, h with
  | [a, b, c], _ => exact ⟨a, b, c, rfl⟩
theorem list4 {l : List Value} (h : l.length = 4) : ∃ a b c d, l = [a, b, c, d] := by
  match l, h with
  | [a, b, c, d], _ => exact ⟨a, b, c, d, rfl⟩
theorem list7 {l : List Value} (h : l.length = 7) : ∃ a b c d e f g, l = [a, b, c, d, e, f, g] := by
  match l, h with
  | [a, b, c, d, e, f, g], _ => exact ⟨a, b, c, d, e, f, g, rfl⟩

/-- What is known of an argument. -/
def Arg (P : Program) (w : World) (t : TypeId) (v : Value) : Prop :=
  match P.underlying t with
  | some (.struct _) | some (.array _ _) => ∃ cs : Array Value, v = .agg cs ∧ FitW P w 9 t cs.toList
  | _ => FitW P w 9 t [v]

theorem arg_struct {P : Program} {w : World} {t : TypeId} {v : Value} {fs : Array Field} (ht : P.underlying t = some (.struct fs)) (h : Arg P w t v) : ∃ cs : Array Value, v = .agg cs ∧ FitW P w 9 t cs.toList := by
  unfold Arg at h; rw [ht] at h; exact h
theorem arg_int {P : Program} {w : World} {t : TypeId} {v : Value} {k : IntKind} (ht : P.underlying t = some (.int k)) (h : Arg P w t v) : FitW P w 9 t [v] := by
  unfold Arg at h; rw [ht] at h; exact h
theorem arg_bool {P : Program} {w : World} {t : TypeId} {v : Value} (ht : P.underlying t = some .bool) (h : Arg P w t v) : ∃ b, v = .bool b := by
  unfold Arg at h; rw [ht] at h; obtain ⟨b, hb⟩ := fit_bool ht h; simp at hb; exact ⟨b, hb⟩
theorem arg_u16 {P : Program} {w : World} {t : TypeId} {v : Value} (ht : P.underlying t = some (.int .u16)) (h : Arg P w t v) : ∃ x : Int, v = .int .u16 x ∧ 0 ≤ x ∧ x ≤ 65535 := by
  obtain ⟨x, hx, hb⟩ := fit_u16 ht (arg_int ht h); simp at hx; exact ⟨x, hx, hb⟩
theorem arg_u32 {P : Program} {w : World} {t : TypeId} {v : Value} (ht : P.underlying t = some (.int .u32)) (h : Arg P w t v) : ∃ x : Int, v = .int .u32 x ∧ 0 ≤ x ∧ x ≤ 4294967295 := by
  obtain ⟨x, hx, hb⟩ := fit_u32 ht (arg_int ht h); simp at hx; exact ⟨x, hx, hb⟩
theorem arg_i64 {P : Program} {w : World} {t : TypeId} {v : Value} (ht : P.underlying t = some (.int .i64)) (h : Arg P w t v) : ∃ x : Int, v = .int .i64 x ∧ -9223372036854775808 ≤ x ∧ x ≤ 9223372036854775807 := by
  obtain ⟨x, hx, hb⟩ := fit_i64 ht (arg_int ht h); simp at hx; exact ⟨x, hx, hb⟩
theorem arg_slice {P : Program} {w : World} {t e : TypeId} {v : Value} (ht : P.underlying t = some (.slice e)) (h : Arg P w t v) : FitW P w 9 t [v] := by
  unfold Arg at h; rw [ht] at h; exact h

theorem arg_of {r : Reach} {b0 : Nat} {t : TypeId} {v : Value} {d : DataW H} {p : List MemPlace} 
    (hv : Value.okWide P w r b0 t v) (h : DataW.Trod enc P w base spare held t v d p) : Arg P w t v := by
  obtain ⟨fuel, hf⟩ := h
  have hfit := fit_of_trod 9 _ _ _ _ hf
  unfold Arg
  split
  · rename_i ht
    obtain ⟨cs, rfl, _⟩ := okWide_struct ht hv
    exact ⟨cs, rfl, hfit⟩
  · rename_i ht
    simp only [Value.okWide, ht] at hv
    obtain ⟨cs, rfl, _⟩ := hv
    exact ⟨cs, rfl, hfit⟩
  · rename_i h1 h2
    have hnot : ∀ cs, v ≠ .agg cs := by
      intro cs hcs
      subst hcs
      unfold Value.okWide at hv
      split at hv
      · rename_i h3; exact h1 _ h3
      · rename_i h3; exact h2 _ _ h3
      · unfold Cell.okWide at hv
        split at hv <;> simp_all [Cell.ok]
    have hc : v.cells.toList = [v] := by cases v <;> first | rfl | (exact absurd rfl (hnot _))
    rw [hc] at hfit
    exact hfit
end
end Go.Proofs.YtoipldpekiikjaaGreatDoor
