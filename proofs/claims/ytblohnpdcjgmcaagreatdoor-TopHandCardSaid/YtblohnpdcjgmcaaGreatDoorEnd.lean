/-
  From the walk to the row's form. The listed variables hold what the row lists.
-/
import Derived.Test.YtblohnpdcjgmcaaGreatDoorLaid
namespace Go.Proofs.YtblohnpdcjgmcaaGreatDoor
set_option linter.all false
open Go Go.ChangeShapes Go.WideShapes Go.ChangeAt Go.RowKit
set_option maxRecDepth 100000

theorem gSyn : Tryz.prog.globalNamed "strconv.ErrSyntax" = some 4 := by kernel_rfl
theorem gRan : Tryz.prog.globalNamed "strconv.ErrRange" = some 5 := by kernel_rfl
theorem tSyn : (Tryz.prog.globals[4]?).map (·.type) = some 62 := by kernel_rfl
theorem tRan : (Tryz.prog.globals[5]?).map (·.type) = some 62 := by kernel_rfl
theorem star : "*" ++ "errors.errorString" = "*errors.errorString" := by decide
theorem rowPtr (u : TypeId) (h : Tryz.prog.typeName? 3 u = some "*errors.errorString") : u = 463 :=
  typeName_ptr_named (nm := "errors.errorString") (by rw [star]; kernel_rfl) (by kernel_rfl) (by decide) u (by rw [star]; exact h)
/-- A variable that holds an error, and whose block is as the program's shape says. -/
theorem sent_obj {W : World} {n : String} {g : Nat} {a : Addr} {s : ByteArray} (hsh : W.ShapedOpen Tryz.prog) (hg : Tryz.prog.globalNamed n = some g) (hlt : g < Tryz.prog.globals.size)
    (hrow : (((begin Tryz.prog (fun _ _ => 0) default).world.heap[g]?).bind Obj.row?) = some (#[.nilIface], 62))
    (hv : W.var? Tryz.prog n = some #[.iface 463 (.pointer (some a))]) (hc : W.cell? a = some (.string s)) :
    a.block < W.heap.size ∧ W.heap[g]? = some (Go.Proofs.YtblohnpdcjgmcaaGreatDoor.Clo.sentObj a.block a.off) := by
  obtain ⟨b, o, sp⟩ := a
  have hsp : sp = none ∧ b < W.heap.size := by
    unfold World.cell? at hc
    split at hc
    · rename_i c t fr hb
      have hb : W.heap[b]? = some (.cells c t fr) := hb
      cases sp with
      | none => exact ⟨rfl, (Array.getElem?_eq_some_iff.1 hb).1⟩
      | some x => simp at hc
    · cases hc
  obtain ⟨rfl, hlt2⟩ := hsp
  refine ⟨hlt2, ?_⟩
  obtain ⟨cs, h1, _, _⟩ := hsh.1 g _ _ hlt hrow
  unfold World.var? at hv
  rw [hg] at hv
  simp only [Option.bind_some, h1, Option.some.injEq] at hv
  rw [h1, hv]
  rfl
theorem begun_of {W : World} (hL : laidMetH Tryz.prog Rows.topHandRow.laid W) (hsh : W.ShapedOpen Tryz.prog) : ∃ bA oA bB oB, Go.Proofs.YtblohnpdcjgmcaaGreatDoor.Clo.Begun W bA oA bB oB := by
  rw [MakeChecks.laidMetH_plain _ _ _ (by kernel_rfl)] at hL
  have h5 := hL.tail.tail.tail.tail
  obtain ⟨aR, sR, vR, cR, _, _⟩ := laid_sentinel h5 gRan tRan Tryz.underlying62 rowPtr Tryz.underlying463 Tryz.underlying465 rfl rfl Tryz.underlying9 (by kernel_rfl) (by kernel_rfl)
  obtain ⟨aS, sS, vS, cS, _, _⟩ := laid_sentinel h5.tail gSyn tSyn Tryz.underlying62 rowPtr Tryz.underlying463 Tryz.underlying465 rfl rfl Tryz.underlying9 (by kernel_rfl) (by kernel_rfl)
  obtain ⟨l1, o1⟩ := sent_obj hsh gSyn (of_decide_eq_true (by kernel_rfl)) (by kernel_rfl) vS cS
  obtain ⟨l2, o2⟩ := sent_obj hsh gRan (of_decide_eq_true (by kernel_rfl)) (by kernel_rfl) vR cR
  refine ⟨_, _, _, _, ?_, l1, l2, o1, o2⟩
  obtain ⟨⟨z, t⟩, hz⟩ := Option.isSome_iff_exists.1 (show (((begin Tryz.prog (fun _ _ => 0) default).world.heap[7]?).bind Obj.row?).isSome = true by kernel_rfl)
  obtain ⟨cs, h1, _, _⟩ := hsh.1 7 z t (of_decide_eq_true (by kernel_rfl)) hz
  exact (Array.getElem?_eq_some_iff.1 h1).1

theorem kept_of {W W' : World} (hs : Go.Proofs.YtblohnpdcjgmcaaGreatDoor.Clo.Stood W W') (may : MemPlace → Prop) : W.keptBut W' may := ⟨hs.os, hs.out, fun i hi => by
  rw [hs.block i hi]; exact (World.keptBut_refl W may).2.2 i hi⟩
/-- A call without arguments behind which all stands. -/
theorem post_none {H : Type} {enc : TypeId × Value → H} {W W' : World} {ds gs : List (DataW H)} {before : List MemPlace}
    (hW : DataW.Whole enc Tryz.prog Tryz.f3.params.toList Rows.topHandSpec.vars false W (#[] : Array Value).toList ds gs before) (hs : Go.Proofs.YtblohnpdcjgmcaaGreatDoor.Clo.Stood W W') :
    Rows.topHandSpec.post enc Tryz.prog Tryz.f3 false true false false W #[] (.bool true) W' := by
  have hW' := hW
  obtain ⟨p, q, hA0, hV, rfl, hfz, hnd⟩ := hW
  have hA : DataW.TrodAll enc Tryz.prog W 0 (fun _ => true) true Tryz.f3.params.toList [] ds p := hA0
  rw [Tryz.params3] at hA
  obtain ⟨_, rfl, rfl⟩ := trodAll_nil hA
  obtain ⟨rfl, rfl⟩ := trodVars_none hV
  have hres : ∀ (b : Nat) (sp : Nat → Bool) (hd : Bool), DataW.TrodAll enc Tryz.prog W' b sp hd Tryz.f3.resultTypes.toList ((Value.bool true).resultList Tryz.f3.resultTypes.size) (Rows.topHandSpec.fn H ([] ++ [])).results [] :=
    fun _ _ _ => trodAll_mk1 (shut_bool Tryz.underlying4 _)
  have hargs : ∀ sp : Nat → Bool, DataW.TrodAll enc Tryz.prog W' 0 sp true Tryz.f3.params.toList (#[] : Array Value).toList (Rows.topHandSpec.fn H ([] ++ [])).args [] := fun _ => trodAll_mk0
  have hvars : ∀ sp : Nat → Bool, DataW.TrodVars enc Tryz.prog W' sp Rows.topHandSpec.vars (Rows.topHandSpec.fn H ([] ++ [])).vars [] := fun _ => rfl
  refine ⟨[], [], _, [], [], [], hW', hres _ _ _, hargs _, hvars _, kept_of hs _, fun _ => ⟨ok_one (by kernel_rfl) rfl (okWide_bool_mk Tryz.underlying4 _), _, _, [], ⟨[], [], trodAll_append (hargs _) (hres _ _ _), hvars _, rfl, fun b off hp => (by cases hp), fun _ => List.nodup_nil⟩, fun p hp => (by cases hp)⟩⟩

/-- The call, in every world that holds what the row lists. -/
theorem contract (H : Type) (enc : TypeId × Value → H) (W : World) (args : Array Value) (ds gs : List (DataW H)) (before : List MemPlace)
    (hW : DataW.Whole enc Tryz.prog Tryz.f3.params.toList Rows.topHandSpec.vars false W args.toList ds gs before) (hL : laidMetH Tryz.prog Rows.topHandRow.laid W) (hsh : W.ShapedOpen Tryz.prog) :
    Calls Tryz.prog 3 args W fun e W' => ∃ v, e = .returned v ∧ Rows.topHandSpec.post enc Tryz.prog Tryz.f3 false true false false W args v W' := by
  obtain ⟨bA, oA, bB, oB, HB⟩ := begun_of hL hsh
  obtain rfl : args = #[] := by
    have hW2 := hW
    obtain ⟨p, q, hA0, _⟩ := hW2
    have hA : DataW.TrodAll enc Tryz.prog W 0 (fun _ => true) true Tryz.f3.params.toList args.toList ds p := hA0
    rw [Tryz.params3] at hA
    obtain ⟨h, _, _⟩ := trodAll_nil hA
    cases args; simp_all
  refine (Go.Proofs.YtblohnpdcjgmcaaGreatDoor.Clo.hand_calls HB).mono fun e W' ⟨he, hs⟩ => ?_
  subst he
  exact ⟨_, rfl, post_none hW hs⟩

/-- The row's step. -/
theorem lifted (os : Os) (started : os.Started) (H : Type) (enc : TypeId × Value → H) (F : Stop.Interp) :
    ReturnsInHanded {} Tryz.checked os 3 .any ((OpenSpec.ofChange Rows.topHandSpec).preRow enc Tryz.prog Tryz.f3 Rows.topHandRow.domain false Rows.topHandRow.laid) (((OpenSpec.ofChange Rows.topHandSpec).at F).post enc Tryz.prog Tryz.f3 false true false false) := by
  obtain ⟨places, hx⟩ := reads os enc
  refine returnsInHanded_of_row (C := Tryz.checked) (s := OpenSpec.ofChange Rows.topHandSpec) own started (by kernel_rfl) Tryz.func3
    (witness_row_atRef (enc := enc) (C := Tryz.checked) false (laidWorld os) #[] rfl (variables os) (by kernel_rfl) (by kernel_rfl)
      (OpenSpec.preRow_of_cond 8 hx (by kernel_rfl) (fun k hk => by cases hk) (by kernel_rfl) (laid_met os))) ?_
  intro W base args ds gs before hval hW _ _ _ hL hsh _
  exact contract H enc W args ds gs before hW hL hsh

end Go.Proofs.YtblohnpdcjgmcaaGreatDoor
