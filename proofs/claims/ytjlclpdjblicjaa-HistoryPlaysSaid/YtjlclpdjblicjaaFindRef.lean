/-
  The reference's Find, by its contract. No condition but that the entries are not too many.
-/
import Derived.Test.YtjlclpdjblicjaaSameEnts
namespace Go.Proofs.Ytjlclpdjblicjaa
open Go.RowKit Go.Sort Go.BigFrame
set_option linter.unusedVariables false
attribute [local go_sem ↓] Go.wp_at_zero Go.wp_at_succ
/-- The last entry with the number s. -/
def findE (l : List Ent) (s : Int) : Option Ent := l.reverse.find? (fun x => x.1 == s)
theorem findE_at {l : List Ent} {s : Int} (j : Nat) (hj : j < l.length) (h : (l.getD j e0).1 = s) (hn : ∀ i, j < i → i < l.length → (l.getD i e0).1 ≠ s) : findE l s = some (l.getD j e0) := by
  have hx : l.getD j e0 = l[j] := by rw [List.getD_eq_getElem?_getD, List.getElem?_eq_getElem hj]; rfl
  have e : l = l.take j ++ (l[j] :: l.drop (j + 1)) := by rw [← List.drop_eq_getElem_cons hj, List.take_append_drop]
  unfold findE
  rw [hx] at h ⊢
  have e2 : l.reverse = (l.drop (j + 1)).reverse ++ (l[j] :: (l.take j).reverse) := by
    have := congrArg List.reverse e
    rw [List.reverse_append, List.reverse_cons, List.append_assoc] at this
    exact this
  rw [e2, List.find?_append]
  have e3 : (l.drop (j + 1)).reverse.find? (fun x => x.1 == s) = none := by
    rw [List.find?_eq_none]
    intro x hx hxs
    rw [List.mem_reverse] at hx
    obtain ⟨i, hi, rfl⟩ := List.getElem_of_mem hx
    rw [List.length_drop] at hi
    have := hn (j + 1 + i) (by omega) (by omega)
    rw [List.getD_eq_getElem?_getD, List.getElem?_eq_getElem (by omega)] at this
    rw [List.getElem_drop] at hxs
    exact this (by simpa using hxs)
  rw [e3]
  simp [h]
theorem findE_none {l : List Ent} {s : Int} (hn : ∀ i, i < l.length → (l.getD i e0).1 ≠ s) : findE l s = none := by
  unfold findE
  rw [List.find?_eq_none]
  intro x hx hxs
  rw [List.mem_reverse] at hx
  obtain ⟨i, hi, rfl⟩ := List.getElem_of_mem hx
  have := hn i hi
  rw [List.getD_eq_getElem?_getD, List.getElem?_eq_getElem hi] at this
  exact this (by simpa using hxs)
/-- What Find hands back. -/
def findV (l : List Ent) (s : Int) : Value := .tuple #[.agg (entC ((findE l s).getD e0)).toArray, .bool (findE l s).isSome]
theorem ret_ct {P : Program} {w : World} {fn : Func} {R : Ending → World → Prop} {a : Act} (i k : Nat) (t1 : TypeId) (hr : fn.results = #[.cell i t1, .tmp k]) (hd : a.defers = [])
    {n1 : Nat} [g1 : AggIs P t1 n1] (b1 : Nat) (v : Value) (h1 : a.tmps.getD i undef = .pointer (some ⟨b1, 0, none⟩)) (h3 : a.tmps.getD k undef = v)
    {cs1 : Array Value} {u1 : TypeId} (k1 : BlkIs w b1 cs1 u1) (l1 : cs1.size = n1)
    (h : R (.returned (.tuple #[.agg cs1, v])) w) : bodyPost P fn R .ret a w := by
  refine bodyPost_ret (v := .tuple #[.agg cs1, v]) ?_ hd h
  simp only [Array.getD_eq_getD_getElem?] at h1 h3
  simp [results, hr, h1, h3, asAddr, loadVar_blk (P := P) (w := w) t1 b1 l1]
instance agg54 : AggIs Try.prog 54 7 := ⟨⟨_, Try.underlying54, rfl⟩, by kernel_rfl⟩
set_option maxRecDepth 100000 in
set_option maxHeartbeats 4000000 in
theorem refFindR {v : Value} {n : Nat} {l : List Ent} {s : Int} {w : World} (h : Has w 7 v n (ents l)) (hl : l.length = n) (hn : n ≤ 100000000) :
    Calls Try.prog 32 #[v, .int .u16 s] w (Gives (findV l s) w) := by
  have HH := Lib.hid h
  have HL := Lib.hid hl
  obtain ⟨ao, cap, rfl, hcap, hcap'⟩ := h.shape
  unfold maxLen at hcap'
  clear h hl
  go_enter Try.func32, Try.ntmps32
  go_wp2
  go_loopw [6] (fun s6 wr => ∃ k : Nat, k ≤ n ∧ s6 = .int .i64 ((k : Int) - 1) ∧ (∀ i, k ≤ i → i < n → (l.getD i e0).1 ≠ s) ∧ BlkIs wr w.heap.size #[.int .u16 0, .int .i64 0, .int .u32 0, .int .u16 0, .int .u32 0, .int .u32 0, .int .u16 0] 54 ∧ Below w.heap.size w wr) (fun s6 _ => (intOf s6 + 1).toNat)
  case atStart => exact ⟨n, by omega, by go_num, by intro i h1 h2; omega, by infer_instance, (by repeat (first | with_reducible exact Below.refl _ _ | (with_reducible refine Below.alloc ?_ ?_ _; rotate_left; focus ((try simp) <;> omega)) | (with_reducible refine Below.setCell ?_ ?_ _; rotate_left; focus ((try simp) <;> omega)) | (with_reducible refine below_grow ?_ ?_; rotate_left; focus ((try simp) <;> omega)) | (with_reducible refine below_putB ?_ ?_; rotate_left; focus ((try simp) <;> omega)) | with_reducible refine Below.drew ?_ | with_reducible refine below_drewN ?_ | with_reducible assumption | (with_reducible refine below_step (by assumption) ?_ ?_; rotate_left; focus ((try simp) <;> omega))))⟩
  case round =>
    obtain ⟨k, hk, rfl, hno, hblk, hbel⟩ := hrel
    have NO := Lib.hid hno
    clear hno
    cases k with
    | zero =>
      have hf := findE_none (l := l) (s := s) (fun i hi => NO.out i (Nat.zero_le _) (by rw [← HL.out]; exact hi))
      have HF := Lib.hid hf
      clear hf
      rw [show ((0 : Nat) : Int) - 1 = -1 by decide]
      go_wp2_with fail
      refine ret_ct 4 5 54 (by rfl) (by rfl) _ _ (by rfl) (by rfl) (by infer_instance) (by rfl) ?_
      refine gives_of ?_ (by repeat (first | with_reducible exact Below.refl _ _ | (with_reducible refine Below.alloc ?_ ?_ _; rotate_left; focus ((try simp) <;> omega)) | (with_reducible refine Below.setCell ?_ ?_ _; rotate_left; focus ((try simp) <;> omega)) | (with_reducible refine below_grow ?_ ?_; rotate_left; focus ((try simp) <;> omega)) | (with_reducible refine below_putB ?_ ?_; rotate_left; focus ((try simp) <;> omega)) | with_reducible refine Below.drew ?_ | with_reducible refine below_drewN ?_ | with_reducible assumption | (with_reducible refine below_step (by assumption) ?_ ?_; rotate_left; focus ((try simp) <;> omega))))
      unfold findV
      rw [HF.out]
      rfl
    | succ j =>
      rw [show ((j + 1 : Nat) : Int) - 1 = (j : Int) by omega]
      have hlt : j < n := by omega
      obtain ⟨g, off, c, ev, hg, _, hc⟩ := ent_cells HH.out HL.out j hlt
      simp only [Value.slice.injEq, true_and] at ev
      obtain ⟨rfl, rfl⟩ := ev
      have hcc := fun i hi => (hbel.cell (p := ⟨g, off + j * 7 + i, none⟩) (by simpa using hg)).trans (hc i hi)
      clear hc
      obtain ⟨x, hx⟩ : ∃ x, x = l.getD j e0 := ⟨_, rfl⟩
      rw [← hx] at hcc
      have HX := Lib.hid hx
      clear hx
      obtain ⟨x0, x1, x2, x3, x4, x5, x6⟩ := x
      have d0 := hcc 0 (by omega)
      have d1 := hcc 1 (by omega)
      have d2 := hcc 2 (by omega)
      have d3 := hcc 3 (by omega)
      have d4 := hcc 4 (by omega)
      have d5 := hcc 5 (by omega)
      have d6 := hcc 6 (by omega)
      clear hcc
      simp only [entC, List.getElem?_cons_zero, List.getElem?_cons_succ, Nat.add_zero] at d0 d1 d2 d3 d4 d5 d6
      have og : Old g wr := ⟨by have := hbel.size; omega⟩
      have i3 : (j : Int) < (n : Int) := by omega
      have i4 : (0 : Int) ≤ (j : Int) := by omega
      by_cases hxs : x0 = s
      · subst hxs
        have hf := findE_at (l := l) (s := x0) j (by rw [HL.out]; exact hlt) (by rw [← HX.out]) (fun i h1 h2 => NO.out i h1 (by rw [← HL.out]; exact h2))
        rw [← HX.out] at hf
        have HF := Lib.hid hf
        clear hf
        go_wp2_with fail
        refine ret_ct 4 5 54 (by rfl) (by rfl) _ _ (by rfl) (by rfl) (by infer_instance) (by rfl) ?_
        refine gives_of ?_ (by repeat (first | with_reducible exact Below.refl _ _ | (with_reducible refine Below.alloc ?_ ?_ _; rotate_left; focus ((try simp) <;> omega)) | (with_reducible refine Below.setCell ?_ ?_ _; rotate_left; focus ((try simp) <;> omega)) | (with_reducible refine below_grow ?_ ?_; rotate_left; focus ((try simp) <;> omega)) | (with_reducible refine below_putB ?_ ?_; rotate_left; focus ((try simp) <;> omega)) | with_reducible refine Below.drew ?_ | with_reducible refine below_drewN ?_ | with_reducible assumption | (with_reducible refine below_step (by assumption) ?_ ?_; rotate_left; focus ((try simp) <;> omega))))
        unfold findV
        rw [HF.out]
        rfl
      · go_wp2_with fail
        go_roundw
        case rel =>
          refine ⟨j, by omega, by go_num, ?_, hblk, hbel⟩
          intro i h1 h2
          rcases Nat.eq_or_lt_of_le h1 with rfl | h
          · rw [← HX.out]; exact hxs
          · exact NO.out i h h2
        case measure => first | (simp [intOf]; done) | (simp [intOf]; omega)
end Go.Proofs.Ytjlclpdjblicjaa
