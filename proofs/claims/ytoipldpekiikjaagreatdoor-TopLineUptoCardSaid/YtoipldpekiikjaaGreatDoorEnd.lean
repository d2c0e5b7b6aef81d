/-
  From the walk to the row's form. The listed variables hold what the row lists; the bulk is at most 1048576.
-/
import Derived.Test.YtoipldpekiikjaaGreatDoorLaid
namespace Go.Proofs.YtoipldpekiikjaaGreatDoor
set_option linter.all false
open Go Go.ChangeShapes Go.WideShapes Go.ChangeAt Go.RowKit
set_option maxRecDepth 100000

theorem gSyn : Tryz.prog.globalNamed "strconv.ErrSyntax" = some 6 := by kernel_rfl
theorem gRan : Tryz.prog.globalNamed "strconv.ErrRange" = some 7 := by kernel_rfl
theorem tSyn : (Tryz.prog.globals[6]?).map (·.type) = some 61 := by kernel_rfl
theorem tRan : (Tryz.prog.globals[7]?).map (·.type) = some 61 := by kernel_rfl
theorem star : "*" ++ "errors.errorString" = "*errors.errorString" := by decide
theorem rowPtr (u : TypeId) (h : Tryz.prog.typeName? 3 u = some "*errors.errorString") : u = 467 :=
  typeName_ptr_named (nm := "errors.errorString") (by rw [star]; kernel_rfl) (by kernel_rfl) (by decide) u (by rw [star]; exact h)
/-- A variable that holds an error, and whose block is as the program's shape says. -/
theorem sent_obj {W : World} {n : String} {g : Nat} {a : Addr} {s : ByteArray} (hsh : W.ShapedOpen Tryz.prog) (hg : Tryz.prog.globalNamed n = some g) (hlt : g < Tryz.prog.globals.size)
    (hrow : (((begin Tryz.prog (fun _ _ => 0) default).world.heap[g]?).bind Obj.row?) = some (#[.nilIface], 61))
    (hv : W.var? Tryz.prog n = some #[.iface 467 (.pointer (some a))]) (hc : W.cell? a = some (.string s)) :
    a.block < W.heap.size ∧ W.heap[g]? = some (Go.Proofs.YtoipldpekiikjaaGreatDoor.Clo.sentObj a.block a.off) := by
  obtain ⟨b, o, sp⟩ := a
  have hsp : sp = none ∧ b < W.heap.size := by
    unfold World.cell? at hc
    split at hc
    · rename_i c t fr hb
      have hb : W.heap[b]? = some (.cells c t fr) := hb
      cases sp with
      | none => exact ⟨rfl, (Array.getElem?_eq_some_iff.1 hb).1⟩
      | some x => simp at hc
    · cases hc
  obtain ⟨rfl, hlt2⟩ := hsp
  refine ⟨hlt2, ?_⟩
  obtain ⟨cs, h1, _, _⟩ := hsh.1 g _ _ hlt hrow
  unfold World.var? at hv
  rw [hg] at hv
  simp only [Option.bind_some, h1, Option.some.injEq] at hv
  rw [h1, hv]
  rfl
theorem begun_of {W : World} (hL : laidMetH Tryz.prog Rows.topLineUptoRow.laid W) (hsh : W.ShapedOpen Tryz.prog) : (∃ bA oA bB oB, Go.Proofs.YtoipldpekiikjaaGreatDoor.Clo.Begun W bA oA bB oB) ∧ Tab W := by
  rw [MakeChecks.laidMetH_plain _ _ _ (by kernel_rfl)] at hL
  have h3 := hL.tail.tail
  have h5 := h3.tail.tail
  refine ⟨?_, Lib.tabIs_of_head gTab gTabType Tryz.underlying244 Tryz.underlying68 cells68 cells244 h3⟩
  obtain ⟨aR, sR, vR, cR, _, _⟩ := laid_sentinel h5 gRan tRan Tryz.underlying61 rowPtr Tryz.underlying467 Tryz.underlying469 rfl rfl Tryz.underlying9 (by kernel_rfl) (by kernel_rfl)
  obtain ⟨aS, sS, vS, cS, _, _⟩ := laid_sentinel h5.tail gSyn tSyn Tryz.underlying61 rowPtr Tryz.underlying467 Tryz.underlying469 rfl rfl Tryz.underlying9 (by kernel_rfl) (by kernel_rfl)
  obtain ⟨l1, o1⟩ := sent_obj hsh gSyn (of_decide_eq_true (by kernel_rfl)) (by kernel_rfl) vS cS
  obtain ⟨l2, o2⟩ := sent_obj hsh gRan (of_decide_eq_true (by kernel_rfl)) (by kernel_rfl) vR cR
  refine ⟨_, _, _, _, ?_, l1, l2, o1, o2⟩
  obtain ⟨⟨z, t⟩, hz⟩ := Option.isSome_iff_exists.1 (show (((begin Tryz.prog (fun _ _ => 0) default).world.heap[7]?).bind Obj.row?).isSome = true by kernel_rfl)
  obtain ⟨cs, h1, _, _⟩ := hsh.1 7 z t (of_decide_eq_true (by kernel_rfl)) hz
  exact (Array.getElem?_eq_some_iff.1 h1).1

/-- The call, in every world that holds what the row lists. -/
theorem contract (H : Type) (enc : TypeId × Value → H) (W : World) (base : Nat) (args : Array Value) (ds gs : List (DataW H)) (before : List MemPlace)
    (hval : ∀ (j : Nat) t v, Tryz.f3.params[j]? = some t → args[j]? = some v → Value.okWide Tryz.prog W .any base t v)
    (hW : DataW.Whole enc Tryz.prog Tryz.f3.params.toList Rows.topLineSpec.vars false W args.toList ds gs before) (hk : Rows.uptoSmall H (ds ++ gs) = true)
    (hL : laidMetH Tryz.prog Rows.topLineUptoRow.laid W) (hsh : W.ShapedOpen Tryz.prog) :
    Calls Tryz.prog 3 args W fun e W' => ∃ v, e = .returned v ∧ Rows.topLineSpec.post enc Tryz.prog Tryz.f3 false true false false W args v W' := by
  obtain ⟨⟨bA, oA, bB, oB, HB⟩, hT⟩ := begun_of hL hsh
  have hW' := hW
  obtain ⟨p, q, hA0, hV, rfl, hfz, hnd⟩ := hW
  have hA : DataW.TrodAll enc Tryz.prog W 0 (fun _ => true) true Tryz.f3.params.toList args.toList ds p := hA0
  rw [Tryz.params3] at hA hval
  obtain ⟨v0, vs0, d0, ds0, p0, q0, hargs, rfl, rfl, h0, r0⟩ := trodAll_cons hA
  obtain ⟨rfl, rfl, rfl⟩ := trodAll_nil r0
  obtain rfl : args = #[v0] := by cases args; simp_all
  obtain ⟨rfl, rfl⟩ := trodVars_none hV
  have hbulk := bulk_all hk
  have a0 : Arg Tryz.prog W 24 v0 := arg_of (hval 0 24 v0 rfl rfl) h0
  have lt0 : ∀ x ∈ p0, x.block < W.heap.size := by obtain ⟨m, hm⟩ := h0; exact DataW.trod_lt m _ _ _ hm
  obtain ⟨k, pe, so, u, bs, rfl, hB, k0, k1, p0', p1, s0, s1⟩ := arg_sent a0
  have hB' := hB
  obtain ⟨ao, cap, rfl, _⟩ := hB'
  have hlen : bs.length ≤ 1048576 := small_sent h0 (hbulk d0 (by simp))
  clear hA0
  refine (line_calls HB hB (by omega) hT k0 k1 p0' p1 s0 s1).mono fun e W' hg => ?_
  obtain ⟨rfl, bel⟩ := hg
  exact ⟨_, rfl, _, _, _, [], _, [], hW', trodAll_mk1 (shut_bool Tryz.underlying4 _), trodAll_cons_mk (Below.trod laidOut (by kernel_rfl) (of_decide_eq_true (by kernel_rfl)) h0 bel lt0) trodAll_mk0, rfl, bel.frame _, fun h => by cases h⟩

/-- The row's step. -/
theorem lifted (os : Os) (started : os.Started) (H : Type) (enc : TypeId × Value → H) (F : Stop.Interp) :
    ReturnsInHanded {} Tryz.checked os 3 .any ((Rows.OpenSpec.upto Rows.topLineSpec).preRow enc Tryz.prog Tryz.f3 Rows.topLineUptoRow.domain false Rows.topLineUptoRow.laid) (((Rows.OpenSpec.upto Rows.topLineSpec).at F).post enc Tryz.prog Tryz.f3 false true false false) := by
  obtain ⟨places, hx⟩ := reads os enc
  refine returnsInHanded_of_row (C := Tryz.checked) (s := Rows.OpenSpec.upto Rows.topLineSpec) own started (by kernel_rfl) Tryz.func3
    (witness_row_atRef (enc := enc) (C := Tryz.checked) false (laidWorld os) arg0 rfl (variables os) (by kernel_rfl) (by kernel_rfl)
      (OpenSpec.preRow_of_cond 8 hx (by kernel_rfl) (fun k hk => by cases hk; kernel_rfl) (by kernel_rfl) (laid_met os))) ?_
  intro W base args ds gs before hval hW _ hcond _ hL hsh _
  exact contract H enc W base args ds gs before hval hW (hcond _ rfl) hL hsh

end Go.Proofs.YtoipldpekiikjaaGreatDoor
