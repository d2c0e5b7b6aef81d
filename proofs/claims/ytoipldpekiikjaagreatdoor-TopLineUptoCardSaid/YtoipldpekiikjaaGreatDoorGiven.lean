/-
  What the reading of an argument of the law gives: its numbers fit, its bytes lie in old cells, and there are at most 1048576 of them where the bulk is bounded. No condition beyond that.
-/
import Derived.Test.YtoipldpekiikjaaGreatDoorFit
import Derived.Test.YtoipldpekiikjaaGreatDoorHex
import Derived.Test.YtoipldpekiikjaaGreatDoorRows
import Derived.ChangeArms
namespace Go.Proofs.YtoipldpekiikjaaGreatDoor
open Go Go.ChangeShapes Go.WideShapes Go.ChangeAt Go.RowKit
set_option maxRecDepth 100000
set_option linter.all false
theorem bytes_of {w : World} {n : Nat} {v : Value} (h : FitW Tryz.prog w (n + 2) 22 [v]) : ∃ bs, Bytes w v bs := by
  obtain ⟨a, len, cap, e, h1, h2, h3, h4⟩ := fit_slice Tryz.underlying22 (show Tryz.prog.cellsOf 5 = 1 by kernel_rfl) (by omega) h
  simp only [List.cons.injEq, and_true] at e
  subst e
  have hx : ∀ i, ∃ x : UInt8, i < len → ∃ b off, a = some ⟨b, off, none⟩ ∧ b < w.heap.size ∧ w.cell? ⟨b, off + i, none⟩ = some (.int .u8 (x.toNat : Int)) := by
    intro i
    by_cases hi : i < len
    · obtain ⟨b, off, es, ha, hb, hl, hc, hf⟩ := h4 i hi
      obtain ⟨y, hy, y0, y1⟩ := fit_u8 Tryz.underlying5 hf
      subst hy
      refine ⟨UInt8.ofNat y.toNat, fun _ => ⟨b, off, ha, hb, ?_⟩⟩
      have := hc 0 (by omega)
      simp only [Nat.mul_one, Nat.add_zero, List.getElem?_cons_zero] at this
      rw [this]
      have e1 : (UInt8.ofNat y.toNat).toNat = y.toNat := by
        rw [UInt8.toNat_ofNat']
        omega
      rw [e1]
      congr 2
      omega
    · exact ⟨0, fun h => absurd h hi⟩
  obtain ⟨f, hf⟩ := Classical.axiomOfChoice hx
  refine ⟨(List.range len).map f, a, cap, by simp, by simpa using h1, h2, fun hp => ?_⟩
  obtain ⟨b, off, ha, hb, _⟩ := hf 0 (by simpa using hp)
  refine ⟨b, off, ha, hb, fun j x hj => ?_⟩
  have hjl : j < len := by
    have := (List.getElem?_eq_some_iff.1 hj).1
    simpa using this
  obtain ⟨b', off', ha', _, hc⟩ := hf j hjl
  rw [ha] at ha'
  cases ha'
  rw [hc]
  rw [List.getElem?_map, List.getElem?_range hjl] at hj
  cases hj
  rfl
theorem list_sent {l : List Value} (h : l.length = 4) : ∃ x0 x1 x2 x3, l = [x0, x1, x2, x3] := by
  match l, h with
  | [x0, x1, x2, x3], _ => exact ⟨x0, x1, x2, x3, rfl⟩
theorem arg_sent {w : World} {v : Value} (h : Arg Tryz.prog w 24 v) : ∃ (k p s : Int) (u : Value) (bs : List UInt8), v = .agg #[.int .i64 k, .int .i64 p, .int .i64 s, u] ∧ Bytes w u bs ∧
    -9223372036854775808 ≤ k ∧ k ≤ 9223372036854775807 ∧ -9223372036854775808 ≤ p ∧ p ≤ 9223372036854775807 ∧ -9223372036854775808 ≤ s ∧ s ≤ 9223372036854775807 := by
  obtain ⟨⟨l⟩, rfl, h'⟩ := arg_struct Tryz.underlying24 h
  obtain ⟨hlen, h⟩ := fit_struct Tryz.underlying24 h'
  rw [show Tryz.prog.cellsOf 24 = 4 by kernel_rfl] at hlen
  obtain ⟨x0, x1, x2, x3, e⟩ := list_sent hlen
  simp only at e
  subst e
  clear hlen h'
  have c3 : Tryz.prog.cellsOf 3 = 1 := by kernel_rfl
  obtain ⟨z0, e0, c0, d0⟩ := fit_i64 Tryz.underlying3 (h 0 _ rfl)
  simp [c3] at e0
  obtain ⟨z1, e1, c1, d1⟩ := fit_i64 Tryz.underlying3 (h 1 _ rfl)
  simp [c3] at e1
  obtain ⟨z2, e2, c2, d2⟩ := fit_i64 Tryz.underlying3 (h 2 _ rfl)
  simp [c3] at e2
  have h3 := h 3 _ rfl
  simp [(show Tryz.prog.cellsOf 22 = 1 by kernel_rfl)] at h3
  obtain ⟨bs, hb⟩ := bytes_of h3
  subst e0 e1 e2
  exact ⟨_, _, _, _, bs, rfl, hb, c0, d0, c1, d1, c2, d2⟩
theorem bulk_one {H : Type} (d : DataW H) : 1 ≤ Rows.uptoBulk d := by
  cases d with
  | lit l => cases l <;> simp [Rows.uptoBulk]
  | nil => simp [Rows.uptoBulk]
  | ptr d => simp [Rows.uptoBulk]
  | slice elems spare => simp [Rows.uptoBulk]
  | agg parts => simp [Rows.uptoBulk]
  | iface t d => simp [Rows.uptoBulk]
  | map entries => simp [Rows.uptoBulk]
  | held h => simp [Rows.uptoBulk]
theorem bulk_mem {H : Type} {d : DataW H} {l : List (DataW H)} (h : d ∈ l) : Rows.uptoBulk d ≤ Rows.uptoBulkAll l := by
  induction l with
  | nil => cases h
  | cons x r ih =>
    simp only [Rows.uptoBulkAll]
    cases List.mem_cons.1 h with
    | inl e => subst e; omega
    | inr e => have := ih e; omega
theorem bulk_len {H : Type} (l : List (DataW H)) : l.length ≤ Rows.uptoBulkAll l := by
  induction l with
  | nil => simp [Rows.uptoBulkAll]
  | cons x r ih => have := bulk_one x; simp only [Rows.uptoBulkAll, List.length_cons]; omega
theorem bulk_all {H : Type} {l : List (DataW H)} (hk : Rows.uptoSmall H l = true) (d : DataW H) (h : d ∈ l) : Rows.uptoBulk d ≤ 1048576 :=
  Nat.le_trans (bulk_mem h) (of_decide_eq_true hk)
theorem small_cells {H : Type} {enc : TypeId × Value → H} {P : Program} {w : World} {base : Nat} {spare : Nat → Bool} {held : Bool} {t e : TypeId} {ao : Option Addr} {len cap : Nat} {m : Nat} {x : DataW H × List MemPlace}
    (ht : P.underlying t = some (.slice e)) (hm : DataW.trod enc P w base spare held m t [.slice ao len cap] = some x) (hb : Rows.uptoBulk x.1 ≤ 1048576) : len ≤ 1048576 := by
  rcases DataW.trod_slice ht hm with ⟨h1, _⟩ | ⟨a, len', cap', elems, rest, m', _, h1, h2, _, _, _, hl, _⟩
  · simp at h1; omega
  · simp at h1
    obtain ⟨_, rfl, _⟩ := h1
    subst h2
    have := bulk_len (elems.map (·.1))
    simp only [Rows.uptoBulk, List.length_map] at hb this
    omega
theorem small_sent {H : Type} {enc : TypeId × Value → H} {w : World} {base : Nat} {spare : Nat → Bool} {held : Bool} {a b c : Value} {ao : Option Addr} {len cap : Nat} {d : DataW H} {p : List MemPlace}
    (h : DataW.Trod enc Tryz.prog w base spare held 24 (.agg #[a, b, c, .slice ao len cap]) d p) (hb : Rows.uptoBulk d ≤ 1048576) : len ≤ 1048576 := by
  obtain ⟨m, hm⟩ := h
  obtain ⟨xs, n, _, e, _, hl, hf⟩ := DataW.trod_struct Tryz.underlying24 hm
  match xs, hl with
  | [x0, x1, x2, x3], _ =>
    have g3 := hf 3 _ rfl
    simp [show Tryz.prog.cellsOf 22 = 1 by kernel_rfl, Value.cells] at g3
    simp only [Prod.mk.injEq] at e
    obtain ⟨rfl, _⟩ := e
    simp only [Rows.uptoBulk, List.map_cons, List.map_nil, Rows.uptoBulkAll] at hb
    exact small_cells Tryz.underlying22 g3 (by omega)
end Go.Proofs.YtoipldpekiikjaaGreatDoor
