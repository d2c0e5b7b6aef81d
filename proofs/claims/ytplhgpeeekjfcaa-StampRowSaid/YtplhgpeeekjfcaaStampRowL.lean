/-
  Laws for StampRow's walk: a slice made, a struct read and stored whole in a region that draws its order; the calls that come in. No condition.
-/
import Derived.Test.YtplhgpeeekjfcaaStampRowI
import Derived.Laws.OwnMore
namespace Go.Proofs.Ytplhgpeeekjfcaa
open Go.RowKit Go.Sort Go.BigFrame
set_option linter.unusedVariables false
section
variable {P : Program} {w : World} {ops : Array Oper} {o : Oper} {a : Act} {K : Act → World → Prop} {Q : Exit → Act → World → Prop} {E : Prop}
theorem step_make_full (hgd : o.guard = none) (t : TypeId) (x y : Operand) (ho : o.op = .makeSlice t x y) (e : TypeId) (i : TypeInfo) (z : Value) (size : Nat) (ht : P.underlying t = some (.slice e)) (hi : P.info? e = some i) (hz : i.zero = some z) (hsize : i.size = size)
    (kl kc : IntKind) (n : Nat) (hx : a.eval x = .int kl n) (hy : a.eval y = .int kc n) (hbytes : i.bytes * n ≤ 281474976710656) (h63 : n ≤ maxLen)
    (h : ∀ w' b, w.grownBy w' none → K (a.put o.dst (.slice (some ⟨b, 0, none⟩) n n)) w') :
    if Region.wanted o (yielded ops a.tmps) = true then Oper.wp P o a w K Q else E := by
  have hw : Region.wanted o (yielded ops a.tmps) = true := by simp [Region.wanted, hgd]
  rw [if_pos hw]
  obtain ⟨w', hr, _, hg⟩ := run_make_full (P := P) w w.heap.size t e i z size ht hi hz hsize kl kc n hbytes h63 (Nat.le_refl _)
  unfold Oper.wp execOp
  simp only [ho, hx, hy, Sem.run_bind, Sem.run_pure, Result.andThen_ok, hr]
  exact h w' _ hg
theorem step_store_whole (hgd : o.guard = none) (ty : TypeId) (x y : Operand) (ho : o.op = .store ty x y) {n : Nat} [g : AggIs P ty n]
    (b : Nat) (vs : Array Value) (hx : a.eval x = .pointer (some ⟨b, 0, none⟩)) (hy : a.eval y = .agg vs) {cs : Array Value} {t : TypeId} (hb : BlkIs w b cs t) (hl : vs.size = n) (hn : cs.size = n) (h1 : vs.toList.all (·.oneCell') = true)
    (h : K (a.put o.dst undef) (putB w b vs t)) : if Region.wanted o (yielded ops a.tmps) = true then Oper.wp P o a w K Q else E := by
  have hw : Region.wanted o (yielded ops a.tmps) = true := by simp [Region.wanted, hgd]
  rw [if_pos hw]
  refine wp_store_mid ty x y ho b 0 vs hx hy (there_blk 0 _ (by omega)) (by rw [g.size, hl]) (by rw [← Array.all_toList]; exact h1) ?_
  rw [setCells_blk vs.toList 0 w b cs t, spl_whole vs cs (by omega)]
  exact h
theorem yieldsIf_load_whole {S : World → Prop} (hgd : o.guard = none) (ty : TypeId) (x : Operand) (ho : o.op = .load ty x) {n : Nat} [g : AggIs P ty n]
    (b : Nat) (hx : a.eval x = .pointer (some ⟨b, 0, none⟩)) {cs : Array Value} {t : TypeId} (hS : ∀ w, S w → BlkIs w b cs t) (hl : cs.size = n) : YieldsIf P ops S o (.agg cs) a := by
  obtain ⟨d, hu, hd⟩ := g.agg
  have hw : Region.wanted o (yielded ops a.tmps) = true := by simp [Region.wanted, hgd]
  have := yieldsIf_load_mid (P := P) (ops := ops) (S := S) hw ty x ho b 0 hx cs.toList d (fun w hw => by
    have hb := hS w hw
    exact rangeAt_blk 0 n cs.toList (by rw [List.drop_zero, List.take_of_length_le (by simp; omega)])) hu hd (by rw [g.size]; simp [hl])
  simpa using this
end
instance agg91 : AggIs Try.prog 91 7 := ⟨⟨_, Try.underlying91, rfl⟩, by kernel_rfl⟩
/-- A slice of calls. -/
theorem fit_sacts {w : World} {n t : Nat} {cs : List Value} (ht : t = 89) (h : FitW Try.prog w (n + 3) t cs) : ∃ (a : Option Addr) (len cap : Nat), cs = [.slice a len cap] ∧ len ≤ maxLen ∧
    ∀ i, i < len → ∃ b off kd la on sq tm st by_, a = some ⟨b, off, none⟩ ∧ b < w.heap.size ∧ 0 ≤ sq ∧ sq ≤ 65535 ∧ 0 ≤ tm ∧ tm ≤ 4294967295 ∧ w.cell? ⟨b, off + i * 7, none⟩ = some (.int .i64 kd) ∧ w.cell? ⟨b, off + i * 7 + 1, none⟩ = some (.int .i64 la) ∧ w.cell? ⟨b, off + i * 7 + 2, none⟩ = some (.bool on) ∧
      w.cell? ⟨b, off + i * 7 + 3, none⟩ = some (.int .u16 sq) ∧ w.cell? ⟨b, off + i * 7 + 4, none⟩ = some (.int .u32 tm) ∧ w.cell? ⟨b, off + i * 7 + 5, none⟩ = some (.bool st) ∧ w.cell? ⟨b, off + i * 7 + 6, none⟩ = some (.int .i64 by_) := by
  subst ht
  obtain ⟨a, len, cap, h1, h2, h3, h4, h5⟩ := fit_slice Try.underlying89 cells_sact (by omega) h
  refine ⟨a, len, cap, h1, by omega, fun i hi => ?_⟩
  obtain ⟨b, off, es, e1, e2, e3, e4, e5⟩ := h5 i hi
  obtain ⟨kd, la, on, sq, tm, st, by_, rfl, _, _, _, _, s0, s1, t0, t1, _⟩ := fit_sact e5
  exact ⟨b, off, kd, la, on, sq, tm, st, by_, e1, e2, s0, s1, t0, t1, by simpa using e4 0 (by omega), by simpa using e4 1 (by omega), by simpa using e4 2 (by omega), by simpa using e4 3 (by omega), by simpa using e4 4 (by omega), by simpa using e4 5 (by omega), by simpa using e4 6 (by omega)⟩
end Go.Proofs.Ytplhgpeeekjfcaa
