/-
  The table serves: what it says of each function the program's function does. No condition.
-/
import Derived.Test.YtoipldpekiikjaaGreatDoorTabH
namespace Go.Proofs.YtoipldpekiikjaaGreatDoor.Clo
set_option linter.all false
open Go.Proofs
set_option maxRecDepth 100000

theorem xt74 (us : List V) (h : Hp) (v : V) (h' : Hp) (g : extrn 0 5 us h = .ok v h') : CallAt Tryz.prog 74 us h v h' := ext_call (fn := Tryz.f74) (e := Extern.AbiNoEscape.same) (by kernel_rfl) (by kernel_rfl) (by kernel_rfl) (by kernel_rfl) (by kernel_rfl) (ext0 g)
theorem xt75 (us : List V) (h : Hp) (v : V) (h' : Hp) (g : extrn 3 5 us h = .ok v h') : CallAt Tryz.prog 75 us h v h' := ext_call (fn := Tryz.f75) (e := Extern.BytealgMakeNoZero.makeNoZero Tryz.f75.params Tryz.f75.resultTypes) (by kernel_rfl) (by kernel_rfl) (by kernel_rfl) (by kernel_rfl) (by kernel_rfl) (ext3 (rt := Tryz.f75.resultTypes.getD 0 0) (by kernel_rfl) (by kernel_rfl) (by kernel_rfl) g)
theorem xt181 (us : List V) (h : Hp) (v : V) (h' : Hp) (g : extrn 1 5 us h = .ok v h') : CallAt Tryz.prog 181 us h v h' := ext_call (fn := Tryz.f181) (e := Extern.BytealgCount.count) (by kernel_rfl) (by kernel_rfl) (by kernel_rfl) (by kernel_rfl) (by kernel_rfl) (ext1 g)
theorem xt249 (us : List V) (h : Hp) (v : V) (h' : Hp) (g : extrn 2 5 us h = .ok v h') : CallAt Tryz.prog 249 us h v h' := ext_call (fn := Tryz.f249) (e := Extern.BytealgIndexByte.indexByte) (by kernel_rfl) (by kernel_rfl) (by kernel_rfl) (by kernel_rfl) (by kernel_rfl) (ext2 g)
theorem nx_fn {c : AC} {r : List RV} {k : Nat} (e : FE.fn c r = .ext k) : False := by cases e
theorem nf_fn {c : AC} {r : List RV} {m : Nat} {z : List V} (e : FE.fn c r = .find m z) : False := by cases e
theorem nx_no {k : Nat} (e : FE.no = .ext k) : False := by cases e
theorem nf_no {m : Nat} {z : List V} (e : FE.no = .find m z) : False := by cases e
theorem nf_ext {k m : Nat} {z : List V} (e : FE.ext k = .find m z) : False := by cases e
theorem nx_find {k m : Nat} {z : List V} (e : FE.find m z = .ext k) : False := by cases e
theorem find_eq {m n : Nat} {z y : List V} (e : FE.find m z = .find n y) : m = n ∧ z = y := by cases e; exact ⟨rfl, rfl⟩
theorem ext_eq {k n : Nat} (e : FE.ext k = .ext n) : k = n := by cases e; rfl
def EntOk (f : Fx) : Prop := (entryOf tab f ≠ .no → ∃ fn, Tryz.prog.funcs[f.n]? = some fn ∧ compFn Tryz.prog fn = entryOf tab f) ∧ (∀ k, entryOf tab f = .ext k → ∀ us h v h', extrn k 5 us h = .ok v h' → CallAt Tryz.prog f.n us h v h') ∧ ∀ m z, entryOf tab f = .find m z → ∀ us h v h', findE m z us h = .ok v h' → CallAt Tryz.prog f.n us h v h'
theorem page_0_0 (c : D) : EntOk ⟨.d0, .d0, c⟩ := by
  cases c
  · exact ⟨fun h => absurd rfl h, fun k e => (nx_no e).elim, fun m z e => (nf_no e).elim⟩
  · exact ⟨fun h => absurd rfl h, fun k e => (nx_no e).elim, fun m z e => (nf_no e).elim⟩
  · exact ⟨fun h => absurd rfl h, fun k e => (nx_no e).elim, fun m z e => (nf_no e).elim⟩
  · exact ⟨fun h => absurd rfl h, fun k e => (nx_no e).elim, fun m z e => (nf_no e).elim⟩
  · exact ⟨fun _ => ⟨Tryz.f4, by kernel_rfl, h4⟩, fun k e => (nx_fn e).elim, fun m z e => (nf_fn e).elim⟩
  · exact ⟨fun _ => ⟨Tryz.f5, by kernel_rfl, h5⟩, fun k e => (nx_fn e).elim, fun m z e => (nf_fn e).elim⟩
  · exact ⟨fun h => absurd rfl h, fun k e => (nx_no e).elim, fun m z e => (nf_no e).elim⟩
  · exact ⟨fun _ => ⟨Tryz.f7, by kernel_rfl, h7⟩, fun k e => (nx_fn e).elim, fun m z e => (nf_fn e).elim⟩
  · exact ⟨fun _ => ⟨Tryz.f8, by kernel_rfl, h8⟩, fun k e => (nx_fn e).elim, fun m z e => (nf_fn e).elim⟩
  · exact ⟨fun _ => ⟨Tryz.f9, by kernel_rfl, h9⟩, fun k e => (nx_fn e).elim, fun m z e => (nf_fn e).elim⟩
  · exact ⟨fun _ => ⟨Tryz.f10, by kernel_rfl, h10⟩, fun k e => (nx_fn e).elim, fun m z e => (nf_fn e).elim⟩
  · exact ⟨fun _ => ⟨Tryz.f11, by kernel_rfl, h11⟩, fun k e => (nx_fn e).elim, fun m z e => (nf_fn e).elim⟩
  · exact ⟨fun _ => ⟨Tryz.f12, by kernel_rfl, h12⟩, fun k e => (nx_fn e).elim, fun m z e => (nf_fn e).elim⟩
  · exact ⟨fun _ => ⟨Tryz.f13, by kernel_rfl, h13⟩, fun k e => (nx_fn e).elim, fun m z e => (nf_fn e).elim⟩
  · exact ⟨fun h => absurd rfl h, fun k e => (nx_no e).elim, fun m z e => (nf_no e).elim⟩
  · exact ⟨fun h => absurd rfl h, fun k e => (nx_no e).elim, fun m z e => (nf_no e).elim⟩
theorem page_0_1 (c : D) : EntOk ⟨.d0, .d1, c⟩ := by
  cases c
  · exact ⟨fun _ => ⟨Tryz.f16, by kernel_rfl, h16⟩, fun k e => (nx_fn e).elim, fun m z e => (nf_fn e).elim⟩
  · exact ⟨fun _ => ⟨Tryz.f17, by kernel_rfl, h17⟩, fun k e => (nx_fn e).elim, fun m z e => (nf_fn e).elim⟩
  · exact ⟨fun _ => ⟨Tryz.f18, by kernel_rfl, h18⟩, fun k e => (nx_fn e).elim, fun m z e => (nf_fn e).elim⟩
  · exact ⟨fun _ => ⟨Tryz.f19, by kernel_rfl, h19⟩, fun k e => (nx_fn e).elim, fun m z e => (nf_fn e).elim⟩
  · exact ⟨fun _ => ⟨Tryz.f20, by kernel_rfl, h20⟩, fun k e => (nx_fn e).elim, fun m z e => (nf_fn e).elim⟩
  · exact ⟨fun _ => ⟨Tryz.f21, by kernel_rfl, h21⟩, fun k e => (nx_fn e).elim, fun m z e => (nf_fn e).elim⟩
  · exact ⟨fun _ => ⟨Tryz.f22, by kernel_rfl, h22⟩, fun k e => (nx_fn e).elim, fun m z e => (nf_fn e).elim⟩
  · exact ⟨fun _ => ⟨Tryz.f23, by kernel_rfl, h23⟩, fun k e => (nx_fn e).elim, fun m z e => (nf_fn e).elim⟩
  · exact ⟨fun _ => ⟨Tryz.f24, by kernel_rfl, h24⟩, fun k e => (nx_fn e).elim, fun m z e => (nf_fn e).elim⟩
  · exact ⟨fun _ => ⟨Tryz.f25, by kernel_rfl, h25⟩, fun k e => (nx_fn e).elim, fun m z e => (nf_fn e).elim⟩
  · exact ⟨fun _ => ⟨Tryz.f26, by kernel_rfl, h26⟩, fun k e => (nx_fn e).elim, fun m z e => (nf_fn e).elim⟩
  · exact ⟨fun _ => ⟨Tryz.f27, by kernel_rfl, h27⟩, fun k e => (nx_fn e).elim, fun m z e => (nf_fn e).elim⟩
  · exact ⟨fun _ => ⟨Tryz.f28, by kernel_rfl, h28⟩, fun k e => (nx_fn e).elim, fun m z e => (nf_fn e).elim⟩
  · exact ⟨fun _ => ⟨Tryz.f29, by kernel_rfl, h29⟩, fun k e => (nx_fn e).elim, fun m z e => (nf_fn e).elim⟩
  · exact ⟨fun h => absurd rfl h, fun k e => (nx_no e).elim, fun m z e => (nf_no e).elim⟩
  · exact ⟨fun _ => ⟨Tryz.f31, by kernel_rfl, h31⟩, fun k e => (nx_fn e).elim, fun m z e => (nf_fn e).elim⟩
theorem page_0_2 (c : D) : EntOk ⟨.d0, .d2, c⟩ := by
  cases c
  · exact ⟨fun _ => ⟨Tryz.f32, by kernel_rfl, h32⟩, fun k e => (nx_fn e).elim, fun m z e => (nf_fn e).elim⟩
  · exact ⟨fun h => absurd rfl h, fun k e => (nx_no e).elim, fun m z e => (nf_no e).elim⟩
  · exact ⟨fun _ => ⟨Tryz.f34, by kernel_rfl, h34⟩, fun k e => (nx_fn e).elim, fun m z e => (nf_fn e).elim⟩
  · exact ⟨fun _ => ⟨Tryz.f35, by kernel_rfl, h35⟩, fun k e => (nx_fn e).elim, fun m z e => (nf_fn e).elim⟩
  · exact ⟨fun _ => ⟨Tryz.f36, by kernel_rfl, h36⟩, fun k e => (nx_fn e).elim, fun m z e => (nf_fn e).elim⟩
  · exact ⟨fun _ => ⟨Tryz.f37, by kernel_rfl, h37⟩, fun k e => (nx_fn e).elim, fun m z e => (nf_fn e).elim⟩
  · exact ⟨fun _ => ⟨Tryz.f38, by kernel_rfl, h38⟩, fun k e => (nx_fn e).elim, fun m z e => (nf_fn e).elim⟩
  · exact ⟨fun _ => ⟨Tryz.f39, by kernel_rfl, h39⟩, fun k e => (nx_fn e).elim, fun m z e => (nf_fn e).elim⟩
  · exact ⟨fun _ => ⟨Tryz.f40, by kernel_rfl, h40⟩, fun k e => (nx_fn e).elim, fun m z e => (nf_fn e).elim⟩
  · exact ⟨fun _ => ⟨Tryz.f41, by kernel_rfl, h41⟩, fun k e => (nx_fn e).elim, fun m z e => (nf_fn e).elim⟩
  · exact ⟨fun _ => ⟨Tryz.f42, by kernel_rfl, h42⟩, fun k e => (nx_fn e).elim, fun m z e => (nf_fn e).elim⟩
  · exact ⟨fun _ => ⟨Tryz.f43, by kernel_rfl, h43⟩, fun k e => (nx_fn e).elim, fun m z e => (nf_fn e).elim⟩
  · exact ⟨fun _ => ⟨Tryz.f44, by kernel_rfl, h44⟩, fun k e => (nx_fn e).elim, fun m z e => (nf_fn e).elim⟩
  · exact ⟨fun _ => ⟨Tryz.f45, by kernel_rfl, h45⟩, fun k e => (nx_fn e).elim, fun m z e => (nf_fn e).elim⟩
  · exact ⟨fun _ => ⟨Tryz.f46, by kernel_rfl, h46⟩, fun k e => (nx_fn e).elim, fun m z e => (nf_fn e).elim⟩
  · exact ⟨fun _ => ⟨Tryz.f47, by kernel_rfl, h47⟩, fun k e => (nx_fn e).elim, fun m z e => (nf_fn e).elim⟩
theorem page_0_3 (c : D) : EntOk ⟨.d0, .d3, c⟩ := by
  cases c
  · exact ⟨fun _ => ⟨Tryz.f48, by kernel_rfl, h48⟩, fun k e => (nx_fn e).elim, fun m z e => (nf_fn e).elim⟩
  · exact ⟨fun _ => ⟨Tryz.f49, by kernel_rfl, h49⟩, fun k e => (nx_fn e).elim, fun m z e => (nf_fn e).elim⟩
  · exact ⟨fun _ => ⟨Tryz.f50, by kernel_rfl, h50⟩, fun k e => (nx_fn e).elim, fun m z e => (nf_fn e).elim⟩
  · exact ⟨fun _ => ⟨Tryz.f51, by kernel_rfl, h51⟩, fun k e => (nx_fn e).elim, fun m z e => (nf_fn e).elim⟩
  · exact ⟨fun _ => ⟨Tryz.f52, by kernel_rfl, h52⟩, fun k e => (nx_fn e).elim, fun m z e => (nf_fn e).elim⟩
  · exact ⟨fun _ => ⟨Tryz.f53, by kernel_rfl, h53⟩, fun k e => (nx_fn e).elim, fun m z e => (nf_fn e).elim⟩
  · exact ⟨fun _ => ⟨Tryz.f54, by kernel_rfl, h54⟩, fun k e => (nx_fn e).elim, fun m z e => (nf_fn e).elim⟩
  · exact ⟨fun _ => ⟨Tryz.f55, by kernel_rfl, h55⟩, fun k e => (nx_fn e).elim, fun m z e => (nf_fn e).elim⟩
  · exact ⟨fun _ => ⟨Tryz.f56, by kernel_rfl, h56⟩, fun k e => (nx_fn e).elim, fun m z e => (nf_fn e).elim⟩
  · exact ⟨fun _ => ⟨Tryz.f57, by kernel_rfl, h57⟩, fun k e => (nx_fn e).elim, fun m z e => (nf_fn e).elim⟩
  · exact ⟨fun _ => ⟨Tryz.f58, by kernel_rfl, h58⟩, fun k e => (nx_fn e).elim, fun m z e => (nf_fn e).elim⟩
  · exact ⟨fun _ => ⟨Tryz.f59, by kernel_rfl, h59⟩, fun k e => (nx_fn e).elim, fun m z e => (nf_fn e).elim⟩
  · exact ⟨fun _ => ⟨Tryz.f60, by kernel_rfl, h60⟩, fun k e => (nx_fn e).elim, fun m z e => (nf_fn e).elim⟩
  · exact ⟨fun _ => ⟨Tryz.f61, by kernel_rfl, h61⟩, fun k e => (nx_fn e).elim, fun m z e => (nf_fn e).elim⟩
  · exact ⟨fun _ => ⟨Tryz.f62, by kernel_rfl, h62⟩, fun k e => (nx_fn e).elim, fun m z e => (nf_fn e).elim⟩
  · exact ⟨fun _ => ⟨Tryz.f63, by kernel_rfl, h63⟩, fun k e => (nx_fn e).elim, fun m z e => (nf_fn e).elim⟩
theorem page_0_4 (c : D) : EntOk ⟨.d0, .d4, c⟩ := by
  cases c
  · exact ⟨fun _ => ⟨Tryz.f64, by kernel_rfl, h64⟩, fun k e => (nx_fn e).elim, fun m z e => (nf_fn e).elim⟩
  · exact ⟨fun _ => ⟨Tryz.f65, by kernel_rfl, h65⟩, fun k e => (nx_fn e).elim, fun m z e => (nf_fn e).elim⟩
  · exact ⟨fun _ => ⟨Tryz.f66, by kernel_rfl, h66⟩, fun k e => (nx_fn e).elim, fun m z e => (nf_fn e).elim⟩
  · exact ⟨fun _ => ⟨Tryz.f67, by kernel_rfl, h67⟩, fun k e => (nx_fn e).elim, fun m z e => (nf_fn e).elim⟩
  · exact ⟨fun _ => ⟨Tryz.f68, by kernel_rfl, h68⟩, fun k e => (nx_fn e).elim, fun m z e => (nf_fn e).elim⟩
  · exact ⟨fun _ => ⟨Tryz.f69, by kernel_rfl, h69⟩, fun k e => (nx_fn e).elim, fun m z e => (nf_fn e).elim⟩
  · exact ⟨fun _ => ⟨Tryz.f70, by kernel_rfl, h70⟩, fun k e => (nx_fn e).elim, fun m z e => (nf_fn e).elim⟩
  · exact ⟨fun h => absurd rfl h, fun k e => (nx_no e).elim, fun m z e => (nf_no e).elim⟩
  · exact ⟨fun h => absurd rfl h, fun k e => (nx_no e).elim, fun m z e => (nf_no e).elim⟩
  · exact ⟨fun h => absurd rfl h, fun k e => (nx_no e).elim, fun m z e => (nf_no e).elim⟩
  · exact ⟨fun _ => ⟨Tryz.f74, by kernel_rfl, h74⟩, fun k e => by rw [← ext_eq (show FE.ext 0 = .ext k from e)]; exact xt74, fun m z e => (nf_ext e).elim⟩
  · exact ⟨fun _ => ⟨Tryz.f75, by kernel_rfl, h75⟩, fun k e => by rw [← ext_eq (show FE.ext 3 = .ext k from e)]; exact xt75, fun m z e => (nf_ext e).elim⟩
  · exact ⟨fun _ => ⟨Tryz.f76, by kernel_rfl, h76⟩, fun k e => (nx_fn e).elim, fun m z e => (nf_fn e).elim⟩
  · exact ⟨fun _ => ⟨Tryz.f77, by kernel_rfl, h77⟩, fun k e => (nx_fn e).elim, fun m z e => (nf_fn e).elim⟩
  · exact ⟨fun _ => ⟨Tryz.f78, by kernel_rfl, h78⟩, fun k e => (nx_fn e).elim, fun m z e => (nf_fn e).elim⟩
  · exact ⟨fun _ => ⟨Tryz.f79, by kernel_rfl, h79⟩, fun k e => (nx_fn e).elim, fun m z e => (nf_fn e).elim⟩
theorem page_0_5 (c : D) : EntOk ⟨.d0, .d5, c⟩ := by
  cases c
  · exact ⟨fun _ => ⟨Tryz.f80, by kernel_rfl, h80⟩, fun k e => (nx_fn e).elim, fun m z e => (nf_fn e).elim⟩
  · exact ⟨fun _ => ⟨Tryz.f81, by kernel_rfl, h81⟩, fun k e => (nx_fn e).elim, fun m z e => (nf_fn e).elim⟩
  · exact ⟨fun _ => ⟨Tryz.f82, by kernel_rfl, h82⟩, fun k e => (nx_fn e).elim, fun m z e => (nf_fn e).elim⟩
  · exact ⟨fun _ => ⟨Tryz.f83, by kernel_rfl, h83⟩, fun k e => (nx_fn e).elim, fun m z e => (nf_fn e).elim⟩
  · exact ⟨fun _ => ⟨Tryz.f84, by kernel_rfl, h84⟩, fun k e => (nx_fn e).elim, fun m z e => (nf_fn e).elim⟩
  · exact ⟨fun _ => ⟨Tryz.f85, by kernel_rfl, h85⟩, fun k e => (nx_fn e).elim, fun m z e => (nf_fn e).elim⟩
  · exact ⟨fun _ => ⟨Tryz.f86, by kernel_rfl, h86⟩, fun k e => (nx_fn e).elim, fun m z e => (nf_fn e).elim⟩
  · exact ⟨fun _ => ⟨Tryz.f87, by kernel_rfl, h87⟩, fun k e => (nx_fn e).elim, fun m z e => (nf_fn e).elim⟩
  · exact ⟨fun _ => ⟨Tryz.f88, by kernel_rfl, h88⟩, fun k e => (nx_fn e).elim, fun m z e => (nf_fn e).elim⟩
  · exact ⟨fun h => absurd rfl h, fun k e => (nx_no e).elim, fun m z e => (nf_no e).elim⟩
  · exact ⟨fun _ => ⟨Tryz.f90, by kernel_rfl, h90⟩, fun k e => (nx_fn e).elim, fun m z e => (nf_fn e).elim⟩
  · exact ⟨fun _ => ⟨Tryz.f91, by kernel_rfl, h91⟩, fun k e => (nx_fn e).elim, fun m z e => (nf_fn e).elim⟩
  · exact ⟨fun _ => ⟨Tryz.f92, by kernel_rfl, h92⟩, fun k e => (nx_fn e).elim, fun m z e => (nf_fn e).elim⟩
  · exact ⟨fun h => absurd rfl h, fun k e => (nx_no e).elim, fun m z e => (nf_no e).elim⟩
  · exact ⟨fun _ => ⟨Tryz.f94, by kernel_rfl, h94⟩, fun k e => (nx_fn e).elim, fun m z e => (nf_fn e).elim⟩
  · exact ⟨fun _ => ⟨Tryz.f95, by kernel_rfl, h95⟩, fun k e => (nx_fn e).elim, fun m z e => (nf_fn e).elim⟩
theorem page_0_6 (c : D) : EntOk ⟨.d0, .d6, c⟩ := by
  cases c
  · exact ⟨fun _ => ⟨Tryz.f96, by kernel_rfl, h96⟩, fun k e => (nx_fn e).elim, fun m z e => (nf_fn e).elim⟩
  · exact ⟨fun h => absurd rfl h, fun k e => (nx_no e).elim, fun m z e => (nf_no e).elim⟩
  · exact ⟨fun _ => ⟨Tryz.f98, by kernel_rfl, h98⟩, fun k e => (nx_fn e).elim, fun m z e => (nf_fn e).elim⟩
  · exact ⟨fun _ => ⟨Tryz.f99, by kernel_rfl, h99⟩, fun k e => (nx_fn e).elim, fun m z e => (nf_fn e).elim⟩
  · exact ⟨fun _ => ⟨Tryz.f100, by kernel_rfl, h100⟩, fun k e => (nx_fn e).elim, fun m z e => (nf_fn e).elim⟩
  · exact ⟨fun _ => ⟨Tryz.f101, by kernel_rfl, h101⟩, fun k e => (nx_fn e).elim, fun m z e => (nf_fn e).elim⟩
  · exact ⟨fun _ => ⟨Tryz.f102, by kernel_rfl, h102⟩, fun k e => (nx_fn e).elim, fun m z e => (nf_fn e).elim⟩
  · exact ⟨fun _ => ⟨Tryz.f103, by kernel_rfl, h103⟩, fun k e => (nx_fn e).elim, fun m z e => (nf_fn e).elim⟩
  · exact ⟨fun _ => ⟨Tryz.f104, by kernel_rfl, h104⟩, fun k e => (nx_fn e).elim, fun m z e => (nf_fn e).elim⟩
  · exact ⟨fun _ => ⟨Tryz.f105, by kernel_rfl, h105⟩, fun k e => (nx_fn e).elim, fun m z e => (nf_fn e).elim⟩
  · exact ⟨fun _ => ⟨Tryz.f106, by kernel_rfl, h106⟩, fun k e => (nx_fn e).elim, fun m z e => (nf_fn e).elim⟩
  · exact ⟨fun _ => ⟨Tryz.f107, by kernel_rfl, h107⟩, fun k e => (nx_fn e).elim, fun m z e => (nf_fn e).elim⟩
  · exact ⟨fun _ => ⟨Tryz.f108, by kernel_rfl, h108⟩, fun k e => (nx_fn e).elim, fun m z e => (nf_fn e).elim⟩
  · exact ⟨fun _ => ⟨Tryz.f109, by kernel_rfl, h109⟩, fun k e => (nx_fn e).elim, fun m z e => (nf_fn e).elim⟩
  · exact ⟨fun h => absurd rfl h, fun k e => (nx_no e).elim, fun m z e => (nf_no e).elim⟩
  · exact ⟨fun h => absurd rfl h, fun k e => (nx_no e).elim, fun m z e => (nf_no e).elim⟩
theorem page_0_7 (c : D) : EntOk ⟨.d0, .d7, c⟩ := by
  cases c
  · exact ⟨fun h => absurd rfl h, fun k e => (nx_no e).elim, fun m z e => (nf_no e).elim⟩
  · exact ⟨fun h => absurd rfl h, fun k e => (nx_no e).elim, fun m z e => (nf_no e).elim⟩
  · exact ⟨fun h => absurd rfl h, fun k e => (nx_no e).elim, fun m z e => (nf_no e).elim⟩
  · exact ⟨fun h => absurd rfl h, fun k e => (nx_no e).elim, fun m z e => (nf_no e).elim⟩
  · exact ⟨fun _ => ⟨Tryz.f116, by kernel_rfl, h116⟩, fun k e => (nx_fn e).elim, fun m z e => (nf_fn e).elim⟩
  · exact ⟨fun _ => ⟨Tryz.f117, by kernel_rfl, h117⟩, fun k e => (nx_fn e).elim, fun m z e => (nf_fn e).elim⟩
  · exact ⟨fun _ => ⟨Tryz.f118, by kernel_rfl, h118⟩, fun k e => (nx_fn e).elim, fun m z e => (nf_fn e).elim⟩
  · exact ⟨fun _ => ⟨Tryz.f119, by kernel_rfl, h119⟩, fun k e => (nx_fn e).elim, fun m z e => (nf_fn e).elim⟩
  · exact ⟨fun _ => ⟨Tryz.f120, by kernel_rfl, h120⟩, fun k e => (nx_fn e).elim, fun m z e => (nf_fn e).elim⟩
  · exact ⟨fun _ => ⟨Tryz.f121, by kernel_rfl, h121⟩, fun k e => (nx_fn e).elim, fun m z e => (nf_fn e).elim⟩
  · exact ⟨fun _ => ⟨Tryz.f122, by kernel_rfl, h122⟩, fun k e => (nx_fn e).elim, fun m z e => (nf_fn e).elim⟩
  · exact ⟨fun _ => ⟨Tryz.f123, by kernel_rfl, h123⟩, fun k e => (nx_fn e).elim, fun m z e => (nf_fn e).elim⟩
  · exact ⟨fun _ => ⟨Tryz.f124, by kernel_rfl, h124⟩, fun k e => (nx_fn e).elim, fun m z e => (nf_fn e).elim⟩
  · exact ⟨fun h => absurd rfl h, fun k e => (nx_no e).elim, fun m z e => (nf_no e).elim⟩
  · exact ⟨fun _ => ⟨Tryz.f126, by kernel_rfl, h126⟩, fun k e => (nx_fn e).elim, fun m z e => (nf_fn e).elim⟩
  · exact ⟨fun _ => ⟨Tryz.f127, by kernel_rfl, h127⟩, fun k e => (nx_fn e).elim, fun m z e => (nf_fn e).elim⟩
theorem page_0_8 (c : D) : EntOk ⟨.d0, .d8, c⟩ := by
  cases c
  · exact ⟨fun _ => ⟨Tryz.f128, by kernel_rfl, h128⟩, fun k e => (nx_fn e).elim, fun m z e => (nf_fn e).elim⟩
  · exact ⟨fun _ => ⟨Tryz.f129, by kernel_rfl, h129⟩, fun k e => (nx_fn e).elim, fun m z e => (nf_fn e).elim⟩
  · exact ⟨fun _ => ⟨Tryz.f130, by kernel_rfl, h130⟩, fun k e => (nx_fn e).elim, fun m z e => (nf_fn e).elim⟩
  · exact ⟨fun _ => ⟨Tryz.f131, by kernel_rfl, h131⟩, fun k e => (nx_fn e).elim, fun m z e => (nf_fn e).elim⟩
  · exact ⟨fun _ => ⟨Tryz.f132, by kernel_rfl, h132⟩, fun k e => (nx_fn e).elim, fun m z e => (nf_fn e).elim⟩
  · exact ⟨fun _ => ⟨Tryz.f133, by kernel_rfl, h133⟩, fun k e => (nx_fn e).elim, fun m z e => (nf_fn e).elim⟩
  · exact ⟨fun _ => ⟨Tryz.f134, by kernel_rfl, h134⟩, fun k e => (nx_fn e).elim, fun m z e => (nf_fn e).elim⟩
  · exact ⟨fun h => absurd rfl h, fun k e => (nx_no e).elim, fun m z e => (nf_no e).elim⟩
  · exact ⟨fun h => absurd rfl h, fun k e => (nx_no e).elim, fun m z e => (nf_no e).elim⟩
  · exact ⟨fun h => absurd rfl h, fun k e => (nx_no e).elim, fun m z e => (nf_no e).elim⟩
  · exact ⟨fun _ => ⟨Tryz.f138, by kernel_rfl, h138⟩, fun k e => (nx_fn e).elim, fun m z e => (nf_fn e).elim⟩
  · exact ⟨fun _ => ⟨Tryz.f139, by kernel_rfl, h139⟩, fun k e => (nx_fn e).elim, fun m z e => (nf_fn e).elim⟩
  · exact ⟨fun h => absurd rfl h, fun k e => (nx_no e).elim, fun m z e => (nf_no e).elim⟩
  · exact ⟨fun _ => ⟨Tryz.f141, by kernel_rfl, h141⟩, fun k e => (nx_fn e).elim, fun m z e => (nf_fn e).elim⟩
  · exact ⟨fun _ => ⟨Tryz.f142, by kernel_rfl, h142⟩, fun k e => (nx_fn e).elim, fun m z e => (nf_fn e).elim⟩
  · exact ⟨fun _ => ⟨Tryz.f143, by kernel_rfl, h143⟩, fun k e => (nx_fn e).elim, fun m z e => (nf_fn e).elim⟩
theorem page_0_9 (c : D) : EntOk ⟨.d0, .d9, c⟩ := by
  cases c
  · exact ⟨fun h => absurd rfl h, fun k e => (nx_no e).elim, fun m z e => (nf_no e).elim⟩
  · exact ⟨fun h => absurd rfl h, fun k e => (nx_no e).elim, fun m z e => (nf_no e).elim⟩
  · exact ⟨fun _ => ⟨Tryz.f146, by kernel_rfl, h146⟩, fun k e => (nx_fn e).elim, fun m z e => (nf_fn e).elim⟩
  · exact ⟨fun h => absurd rfl h, fun k e => (nx_no e).elim, fun m z e => (nf_no e).elim⟩
  · exact ⟨fun h => absurd rfl h, fun k e => (nx_no e).elim, fun m z e => (nf_no e).elim⟩
  · exact ⟨fun h => absurd rfl h, fun k e => (nx_no e).elim, fun m z e => (nf_no e).elim⟩
  · exact ⟨fun _ => ⟨Tryz.f150, by kernel_rfl, h150⟩, fun k e => (nx_fn e).elim, fun m z e => (nf_fn e).elim⟩
  · exact ⟨fun _ => ⟨Tryz.f151, by kernel_rfl, h151⟩, fun k e => (nx_fn e).elim, fun m z e => (nf_fn e).elim⟩
  · exact ⟨fun _ => ⟨Tryz.f152, by kernel_rfl, h152⟩, fun k e => (nx_fn e).elim, fun m z e => (nf_fn e).elim⟩
  · exact ⟨fun h => absurd rfl h, fun k e => (nx_no e).elim, fun m z e => (nf_no e).elim⟩
  · exact ⟨fun h => absurd rfl h, fun k e => (nx_no e).elim, fun m z e => (nf_no e).elim⟩
  · exact ⟨fun h => absurd rfl h, fun k e => (nx_no e).elim, fun m z e => (nf_no e).elim⟩
  · exact ⟨fun _ => ⟨Tryz.f156, by kernel_rfl, h156⟩, fun k e => (nx_fn e).elim, fun m z e => (nf_fn e).elim⟩
  · exact ⟨fun _ => ⟨Tryz.f157, by kernel_rfl, h157⟩, fun k e => (nx_fn e).elim, fun m z e => (nf_fn e).elim⟩
  · exact ⟨fun _ => ⟨Tryz.f158, by kernel_rfl, h158⟩, fun k e => (nx_fn e).elim, fun m z e => (nf_fn e).elim⟩
  · exact ⟨fun _ => ⟨Tryz.f159, by kernel_rfl, h159⟩, fun k e => (nx_fn e).elim, fun m z e => (nf_fn e).elim⟩
theorem page_0_10 (c : D) : EntOk ⟨.d0, .d10, c⟩ := by
  cases c
  · exact ⟨fun _ => ⟨Tryz.f160, by kernel_rfl, h160⟩, fun k e => (nx_fn e).elim, fun m z e => (nf_fn e).elim⟩
  · exact ⟨fun _ => ⟨Tryz.f161, by kernel_rfl, h161⟩, fun k e => (nx_fn e).elim, fun m z e => (nf_fn e).elim⟩
  · exact ⟨fun _ => ⟨Tryz.f162, by kernel_rfl, h162⟩, fun k e => (nx_fn e).elim, fun m z e => (nf_fn e).elim⟩
  · exact ⟨fun _ => ⟨Tryz.f163, by kernel_rfl, h163⟩, fun k e => (nx_fn e).elim, fun m z e => (nf_fn e).elim⟩
  · exact ⟨fun _ => ⟨Tryz.f164, by kernel_rfl, h164⟩, fun k e => (nx_fn e).elim, fun m z e => (nf_fn e).elim⟩
  · exact ⟨fun _ => ⟨Tryz.f165, by kernel_rfl, h165⟩, fun k e => (nx_fn e).elim, fun m z e => (nf_fn e).elim⟩
  · exact ⟨fun _ => ⟨Tryz.f166, by kernel_rfl, h166⟩, fun k e => (nx_fn e).elim, fun m z e => (nf_fn e).elim⟩
  · exact ⟨fun _ => ⟨Tryz.f167, by kernel_rfl, h167⟩, fun k e => (nx_fn e).elim, fun m z e => (nf_fn e).elim⟩
  · exact ⟨fun _ => ⟨Tryz.f168, by kernel_rfl, h168⟩, fun k e => (nx_fn e).elim, fun m z e => (nf_fn e).elim⟩
  · exact ⟨fun _ => ⟨Tryz.f169, by kernel_rfl, h169⟩, fun k e => (nx_fn e).elim, fun m z e => (nf_fn e).elim⟩
  · exact ⟨fun _ => ⟨Tryz.f170, by kernel_rfl, h170⟩, fun k e => (nx_fn e).elim, fun m z e => (nf_fn e).elim⟩
  · exact ⟨fun _ => ⟨Tryz.f171, by kernel_rfl, h171⟩, fun k e => (nx_fn e).elim, fun m z e => (nf_fn e).elim⟩
  · exact ⟨fun _ => ⟨Tryz.f172, by kernel_rfl, h172⟩, fun k e => (nx_fn e).elim, fun m z e => (nf_fn e).elim⟩
  · exact ⟨fun _ => ⟨Tryz.f173, by kernel_rfl, h173⟩, fun k e => (nx_fn e).elim, fun m z e => (nf_fn e).elim⟩
  · exact ⟨fun _ => ⟨Tryz.f174, by kernel_rfl, h174⟩, fun k e => (nx_fn e).elim, fun m z e => (nf_fn e).elim⟩
  · exact ⟨fun h => absurd rfl h, fun k e => (nx_no e).elim, fun m z e => (nf_no e).elim⟩
theorem page_0_11 (c : D) : EntOk ⟨.d0, .d11, c⟩ := by
  cases c
  · exact ⟨fun h => absurd rfl h, fun k e => (nx_no e).elim, fun m z e => (nf_no e).elim⟩
  · exact ⟨fun h => absurd rfl h, fun k e => (nx_no e).elim, fun m z e => (nf_no e).elim⟩
  · exact ⟨fun h => absurd rfl h, fun k e => (nx_no e).elim, fun m z e => (nf_no e).elim⟩
  · exact ⟨fun h => absurd rfl h, fun k e => (nx_no e).elim, fun m z e => (nf_no e).elim⟩
  · exact ⟨fun h => absurd rfl h, fun k e => (nx_no e).elim, fun m z e => (nf_no e).elim⟩
  · exact ⟨fun _ => ⟨Tryz.f181, by kernel_rfl, h181⟩, fun k e => by rw [← ext_eq (show FE.ext 1 = .ext k from e)]; exact xt181, fun m z e => (nf_ext e).elim⟩
  · exact ⟨fun _ => ⟨Tryz.f182, by kernel_rfl, h182⟩, fun k e => (nx_fn e).elim, fun m z e => (nf_fn e).elim⟩
  · exact ⟨fun _ => ⟨Tryz.f183, by kernel_rfl, h183⟩, fun k e => (nx_fn e).elim, fun m z e => (nf_fn e).elim⟩
  · exact ⟨fun _ => ⟨Tryz.f184, by kernel_rfl, h184⟩, fun k e => (nx_fn e).elim, fun m z e => (nf_fn e).elim⟩
  · exact ⟨fun _ => ⟨Tryz.f185, by kernel_rfl, h185⟩, fun k e => (nx_fn e).elim, fun m z e => (nf_fn e).elim⟩
  · exact ⟨fun _ => ⟨Tryz.f186, by kernel_rfl, h186⟩, fun k e => (nx_fn e).elim, fun m z e => (nf_fn e).elim⟩
  · exact ⟨fun _ => ⟨Tryz.f187, by kernel_rfl, h187⟩, fun k e => (nx_fn e).elim, fun m z e => (nf_fn e).elim⟩
  · exact ⟨fun _ => ⟨Tryz.f188, by kernel_rfl, h188⟩, fun k e => (nx_fn e).elim, fun m z e => (nf_fn e).elim⟩
  · exact ⟨fun _ => ⟨Tryz.f189, by kernel_rfl, h189⟩, fun k e => (nx_fn e).elim, fun m z e => (nf_fn e).elim⟩
  · exact ⟨fun _ => ⟨Tryz.f190, by kernel_rfl, h190⟩, fun k e => (nx_fn e).elim, fun m z e => (nf_fn e).elim⟩
  · exact ⟨fun h => absurd rfl h, fun k e => (nx_no e).elim, fun m z e => (nf_no e).elim⟩
theorem page_0_12 (c : D) : EntOk ⟨.d0, .d12, c⟩ := by
  cases c
  · exact ⟨fun _ => ⟨Tryz.f192, by kernel_rfl, h192⟩, fun k e => (nx_fn e).elim, fun m z e => (nf_fn e).elim⟩
  · exact ⟨fun _ => ⟨Tryz.f193, by kernel_rfl, h193⟩, fun k e => (nx_fn e).elim, fun m z e => (nf_fn e).elim⟩
  · exact ⟨fun _ => ⟨Tryz.f194, by kernel_rfl, h194⟩, fun k e => (nx_fn e).elim, fun m z e => (nf_fn e).elim⟩
  · exact ⟨fun _ => ⟨Tryz.f195, by kernel_rfl, h195⟩, fun k e => (nx_fn e).elim, fun m z e => (nf_fn e).elim⟩
  · exact ⟨fun _ => ⟨Tryz.f196, by kernel_rfl, h196⟩, fun k e => (nx_fn e).elim, fun m z e => (nf_fn e).elim⟩
  · exact ⟨fun _ => ⟨Tryz.f197, by kernel_rfl, h197⟩, fun k e => (nx_fn e).elim, fun m z e => (nf_fn e).elim⟩
  · exact ⟨fun _ => ⟨Tryz.f198, by kernel_rfl, h198⟩, fun k e => (nx_fn e).elim, fun m z e => (nf_fn e).elim⟩
  · exact ⟨fun _ => ⟨Tryz.f199, by kernel_rfl, h199⟩, fun k e => (nx_fn e).elim, fun m z e => (nf_fn e).elim⟩
  · exact ⟨fun _ => ⟨Tryz.f200, by kernel_rfl, h200⟩, fun k e => (nx_fn e).elim, fun m z e => (nf_fn e).elim⟩
  · exact ⟨fun _ => ⟨Tryz.f201, by kernel_rfl, h201⟩, fun k e => (nx_fn e).elim, fun m z e => (nf_fn e).elim⟩
  · exact ⟨fun h => absurd rfl h, fun k e => (nx_no e).elim, fun m z e => (nf_no e).elim⟩
  · exact ⟨fun h => absurd rfl h, fun k e => (nx_no e).elim, fun m z e => (nf_no e).elim⟩
  · exact ⟨fun h => absurd rfl h, fun k e => (nx_no e).elim, fun m z e => (nf_no e).elim⟩
  · exact ⟨fun _ => ⟨Tryz.f205, by kernel_rfl, h205⟩, fun k e => (nx_fn e).elim, fun m z e => (nf_fn e).elim⟩
  · exact ⟨fun h => absurd rfl h, fun k e => (nx_no e).elim, fun m z e => (nf_no e).elim⟩
  · exact ⟨fun h => absurd rfl h, fun k e => (nx_no e).elim, fun m z e => (nf_no e).elim⟩
theorem page_0_13 (c : D) : EntOk ⟨.d0, .d13, c⟩ := by
  cases c
  · exact ⟨fun h => absurd rfl h, fun k e => (nx_no e).elim, fun m z e => (nf_no e).elim⟩
  · exact ⟨fun _ => ⟨Tryz.f209, by kernel_rfl, h209⟩, fun k e => (nx_fn e).elim, fun m z e => (nf_fn e).elim⟩
  · exact ⟨fun _ => ⟨Tryz.f210, by kernel_rfl, h210⟩, fun k e => (nx_fn e).elim, fun m z e => (nf_fn e).elim⟩
  · exact ⟨fun _ => ⟨Tryz.f211, by kernel_rfl, h211⟩, fun k e => (nx_fn e).elim, fun m z e => (nf_fn e).elim⟩
  · exact ⟨fun h => absurd rfl h, fun k e => (nx_no e).elim, fun m z e => (nf_no e).elim⟩
  · exact ⟨fun _ => ⟨Tryz.f213, by kernel_rfl, h213⟩, fun k e => (nx_fn e).elim, fun m z e => (nf_fn e).elim⟩
  · exact ⟨fun _ => ⟨Tryz.f214, by kernel_rfl, h214⟩, fun k e => (nx_fn e).elim, fun m z e => (nf_fn e).elim⟩
  · exact ⟨fun _ => ⟨Tryz.f215, by kernel_rfl, h215⟩, fun k e => (nx_fn e).elim, fun m z e => (nf_fn e).elim⟩
  · exact ⟨fun _ => ⟨Tryz.f216, by kernel_rfl, h216⟩, fun k e => (nx_fn e).elim, fun m z e => (nf_fn e).elim⟩
  · exact ⟨fun _ => ⟨Tryz.f217, by kernel_rfl, h217⟩, fun k e => (nx_fn e).elim, fun m z e => (nf_fn e).elim⟩
  · exact ⟨fun h => absurd rfl h, fun k e => (nx_no e).elim, fun m z e => (nf_no e).elim⟩
  · exact ⟨fun h => absurd rfl h, fun k e => (nx_no e).elim, fun m z e => (nf_no e).elim⟩
  · exact ⟨fun _ => ⟨Tryz.f220, by kernel_rfl, h220⟩, fun k e => (nx_fn e).elim, fun m z e => (nf_fn e).elim⟩
  · exact ⟨fun _ => ⟨Tryz.f221, by kernel_rfl, h221⟩, fun k e => (nx_fn e).elim, fun m z e => (nf_fn e).elim⟩
  · exact ⟨fun h => absurd rfl h, fun k e => (nx_no e).elim, fun m z e => (nf_no e).elim⟩
  · exact ⟨fun _ => ⟨Tryz.f223, by kernel_rfl, h223⟩, fun k e => (nx_fn e).elim, fun m z e => (nf_fn e).elim⟩
theorem page_0_14 (c : D) : EntOk ⟨.d0, .d14, c⟩ := by
  cases c
  · exact ⟨fun _ => ⟨Tryz.f224, by kernel_rfl, h224⟩, fun k e => (nx_fn e).elim, fun m z e => (nf_fn e).elim⟩
  · exact ⟨fun _ => ⟨Tryz.f225, by kernel_rfl, h225⟩, fun k e => (nx_fn e).elim, fun m z e => (nf_fn e).elim⟩
  · exact ⟨fun _ => ⟨Tryz.f226, by kernel_rfl, h226⟩, fun k e => (nx_fn e).elim, fun m z e => (nf_fn e).elim⟩
  · exact ⟨fun _ => ⟨Tryz.f227, by kernel_rfl, h227⟩, fun k e => (nx_fn e).elim, fun m z e => (nf_fn e).elim⟩
  · exact ⟨fun _ => ⟨Tryz.f228, by kernel_rfl, h228⟩, fun k e => (nx_fn e).elim, fun m z e => (nf_fn e).elim⟩
  · exact ⟨fun _ => ⟨Tryz.f229, by kernel_rfl, h229⟩, fun k e => (nx_fn e).elim, fun m z e => (nf_fn e).elim⟩
  · exact ⟨fun _ => ⟨Tryz.f230, by kernel_rfl, h230⟩, fun k e => (nx_fn e).elim, fun m z e => (nf_fn e).elim⟩
  · exact ⟨fun _ => ⟨Tryz.f231, by kernel_rfl, h231⟩, fun k e => (nx_fn e).elim, fun m z e => (nf_fn e).elim⟩
  · exact ⟨fun _ => ⟨Tryz.f232, by kernel_rfl, h232⟩, fun k e => (nx_fn e).elim, fun m z e => (nf_fn e).elim⟩
  · exact ⟨fun _ => ⟨Tryz.f233, by kernel_rfl, h233⟩, fun k e => (nx_fn e).elim, fun m z e => (nf_fn e).elim⟩
  · exact ⟨fun _ => ⟨Tryz.f234, by kernel_rfl, h234⟩, fun k e => (nx_fn e).elim, fun m z e => (nf_fn e).elim⟩
  · exact ⟨fun _ => ⟨Tryz.f235, by kernel_rfl, h235⟩, fun k e => (nx_fn e).elim, fun m z e => (nf_fn e).elim⟩
  · exact ⟨fun _ => ⟨Tryz.f236, by kernel_rfl, h236⟩, fun k e => (nx_fn e).elim, fun m z e => (nf_fn e).elim⟩
  · exact ⟨fun _ => ⟨Tryz.f237, by kernel_rfl, h237⟩, fun k e => (nx_fn e).elim, fun m z e => (nf_fn e).elim⟩
  · exact ⟨fun _ => ⟨Tryz.f238, by kernel_rfl, h238⟩, fun k e => (nx_fn e).elim, fun m z e => (nf_fn e).elim⟩
  · exact ⟨fun _ => ⟨Tryz.f239, by kernel_rfl, h239⟩, fun k e => (nx_fn e).elim, fun m z e => (nf_fn e).elim⟩
theorem page_0_15 (c : D) : EntOk ⟨.d0, .d15, c⟩ := by
  cases c
  · exact ⟨fun h => absurd rfl h, fun k e => (nx_no e).elim, fun m z e => (nf_no e).elim⟩
  · exact ⟨fun h => absurd rfl h, fun k e => (nx_no e).elim, fun m z e => (nf_no e).elim⟩
  · exact ⟨fun h => absurd rfl h, fun k e => (nx_no e).elim, fun m z e => (nf_no e).elim⟩
  · exact ⟨fun h => absurd rfl h, fun k e => (nx_no e).elim, fun m z e => (nf_no e).elim⟩
  · exact ⟨fun _ => ⟨Tryz.f244, by kernel_rfl, h244⟩, fun k e => (nx_fn e).elim, fun m z e => (nf_fn e).elim⟩
  · exact ⟨fun h => absurd rfl h, fun k e => (nx_no e).elim, fun m z e => (nf_no e).elim⟩
  · exact ⟨fun h => absurd rfl h, fun k e => (nx_no e).elim, fun m z e => (nf_no e).elim⟩
  · exact ⟨fun h => absurd rfl h, fun k e => (nx_no e).elim, fun m z e => (nf_no e).elim⟩
  · exact ⟨fun h => absurd rfl h, fun k e => (nx_no e).elim, fun m z e => (nf_no e).elim⟩
  · exact ⟨fun _ => ⟨Tryz.f249, by kernel_rfl, h249⟩, fun k e => by rw [← ext_eq (show FE.ext 2 = .ext k from e)]; exact xt249, fun m z e => (nf_ext e).elim⟩
  · exact ⟨fun _ => ⟨Tryz.f250, by kernel_rfl, h250⟩, fun k e => (nx_fn e).elim, fun m z e => (nf_fn e).elim⟩
  · exact ⟨fun _ => ⟨Tryz.f251, by kernel_rfl, h251⟩, fun k e => (nx_fn e).elim, fun m z e => (nf_fn e).elim⟩
  · exact ⟨fun _ => ⟨Tryz.f252, by kernel_rfl, h252⟩, fun k e => (nx_fn e).elim, fun m z e => (nf_fn e).elim⟩
  · exact ⟨fun h => absurd rfl h, fun k e => (nx_no e).elim, fun m z e => (nf_no e).elim⟩
  · exact ⟨fun h => absurd rfl h, fun k e => (nx_no e).elim, fun m z e => (nf_no e).elim⟩
  · exact ⟨fun h => absurd rfl h, fun k e => (nx_no e).elim, fun m z e => (nf_no e).elim⟩
theorem page_1_0 (c : D) : EntOk ⟨.d1, .d0, c⟩ := by
  cases c
  · exact ⟨fun h => absurd rfl h, fun k e => (nx_no e).elim, fun m z e => (nf_no e).elim⟩
  · exact ⟨fun h => absurd rfl h, fun k e => (nx_no e).elim, fun m z e => (nf_no e).elim⟩
  · exact ⟨fun h => absurd rfl h, fun k e => (nx_no e).elim, fun m z e => (nf_no e).elim⟩
  · exact ⟨fun _ => ⟨Tryz.f259, by kernel_rfl, h259⟩, fun k e => (nx_fn e).elim, fun m z e => (nf_fn e).elim⟩
  · exact ⟨fun _ => ⟨Tryz.f260, by kernel_rfl, h260⟩, fun k e => (nx_fn e).elim, fun m z e => (nf_fn e).elim⟩
  · exact ⟨fun _ => ⟨Tryz.f261, by kernel_rfl, h261⟩, fun k e => (nx_fn e).elim, fun m z e => (nf_fn e).elim⟩
  · exact ⟨fun _ => ⟨Tryz.f262, by kernel_rfl, h262⟩, fun k e => (nx_fn e).elim, fun m z e => (nf_fn e).elim⟩
  · exact ⟨fun h => absurd rfl h, fun k e => (nx_no e).elim, fun m z e => (nf_no e).elim⟩
  · exact ⟨fun _ => ⟨Tryz.f264, by kernel_rfl, h264⟩, fun k e => (nx_fn e).elim, fun m z e => (nf_fn e).elim⟩
  · exact ⟨fun _ => ⟨Tryz.f265, by kernel_rfl, h265⟩, fun k e => (nx_fn e).elim, fun m z e => (nf_fn e).elim⟩
  · exact ⟨fun _ => ⟨Tryz.f266, by kernel_rfl, h266⟩, fun k e => (nx_fn e).elim, fun m z e => (nf_fn e).elim⟩
  · exact ⟨fun _ => ⟨Tryz.f267, by kernel_rfl, h267⟩, fun k e => (nx_fn e).elim, fun m z e => (nf_fn e).elim⟩
  · exact ⟨fun _ => ⟨Tryz.f268, by kernel_rfl, h268⟩, fun k e => (nx_fn e).elim, fun m z e => (nf_fn e).elim⟩
  · exact ⟨fun h => absurd rfl h, fun k e => (nx_no e).elim, fun m z e => (nf_no e).elim⟩
  · exact ⟨fun h => absurd rfl h, fun k e => (nx_no e).elim, fun m z e => (nf_no e).elim⟩
  · exact ⟨fun h => absurd rfl h, fun k e => (nx_no e).elim, fun m z e => (nf_no e).elim⟩
theorem page_1_1 (c : D) : EntOk ⟨.d1, .d1, c⟩ := by
  cases c
  · exact ⟨fun h => absurd rfl h, fun k e => (nx_no e).elim, fun m z e => (nf_no e).elim⟩
  · exact ⟨fun _ => ⟨Tryz.f273, by kernel_rfl, h273⟩, fun k e => (nx_fn e).elim, fun m z e => (nf_fn e).elim⟩
  · exact ⟨fun _ => ⟨Tryz.f274, by kernel_rfl, h274⟩, fun k e => (nx_fn e).elim, fun m z e => (nf_fn e).elim⟩
  · exact ⟨fun _ => ⟨Tryz.f275, by kernel_rfl, h275⟩, fun k e => (nx_fn e).elim, fun m z e => (nf_fn e).elim⟩
  · exact ⟨fun h => absurd rfl h, fun k e => (nx_no e).elim, fun m z e => (nf_no e).elim⟩
  · exact ⟨fun _ => ⟨Tryz.f277, by kernel_rfl, h277⟩, fun k e => (nx_fn e).elim, fun m z e => (nf_fn e).elim⟩
  · exact ⟨fun _ => ⟨Tryz.f278, by kernel_rfl, h278⟩, fun k e => (nx_fn e).elim, fun m z e => (nf_fn e).elim⟩
  · exact ⟨fun _ => ⟨Tryz.f279, by kernel_rfl, h279⟩, fun k e => (nx_fn e).elim, fun m z e => (nf_fn e).elim⟩
  · exact ⟨fun _ => ⟨Tryz.f280, by kernel_rfl, h280⟩, fun k e => (nx_fn e).elim, fun m z e => (nf_fn e).elim⟩
  · exact ⟨fun _ => ⟨Tryz.f281, by kernel_rfl, h281⟩, fun k e => (nx_fn e).elim, fun m z e => (nf_fn e).elim⟩
  · exact ⟨fun _ => ⟨Tryz.f282, by kernel_rfl, h282⟩, fun k e => (nx_fn e).elim, fun m z e => (nf_fn e).elim⟩
  · exact ⟨fun _ => ⟨Tryz.f283, by kernel_rfl, h283⟩, fun k e => (nx_fn e).elim, fun m z e => (nf_fn e).elim⟩
  · exact ⟨fun _ => ⟨Tryz.f284, by kernel_rfl, h284⟩, fun k e => (nx_fn e).elim, fun m z e => (nf_fn e).elim⟩
  · exact ⟨fun h => absurd rfl h, fun k e => (nx_no e).elim, fun m z e => (nf_no e).elim⟩
  · exact ⟨fun h => absurd rfl h, fun k e => (nx_no e).elim, fun m z e => (nf_no e).elim⟩
  · exact ⟨fun h => absurd rfl h, fun k e => (nx_no e).elim, fun m z e => (nf_no e).elim⟩
theorem page_1_2 (c : D) : EntOk ⟨.d1, .d2, c⟩ := by
  cases c
  · exact ⟨fun h => absurd rfl h, fun k e => (nx_no e).elim, fun m z e => (nf_no e).elim⟩
  · exact ⟨fun h => absurd rfl h, fun k e => (nx_no e).elim, fun m z e => (nf_no e).elim⟩
  · exact ⟨fun h => absurd rfl h, fun k e => (nx_no e).elim, fun m z e => (nf_no e).elim⟩
  · exact ⟨fun _ => ⟨Tryz.f291, by kernel_rfl, h291⟩, fun k e => (nx_fn e).elim, fun m z e => (nf_fn e).elim⟩
  · exact ⟨fun _ => ⟨Tryz.f292, by kernel_rfl, h292⟩, fun k e => (nx_fn e).elim, fun m z e => (nf_fn e).elim⟩
  · exact ⟨fun h => absurd rfl h, fun k e => (nx_no e).elim, fun m z e => (nf_no e).elim⟩
  · exact ⟨fun h => absurd rfl h, fun k e => (nx_no e).elim, fun m z e => (nf_no e).elim⟩
  · exact ⟨fun h => absurd rfl h, fun k e => (nx_no e).elim, fun m z e => (nf_no e).elim⟩
  · exact ⟨fun h => absurd rfl h, fun k e => (nx_no e).elim, fun m z e => (nf_no e).elim⟩
  · exact ⟨fun h => absurd rfl h, fun k e => (nx_no e).elim, fun m z e => (nf_no e).elim⟩
  · exact ⟨fun h => absurd rfl h, fun k e => (nx_no e).elim, fun m z e => (nf_no e).elim⟩
  · exact ⟨fun _ => ⟨Tryz.f299, by kernel_rfl, h299⟩, fun k e => (nx_fn e).elim, fun m z e => (nf_fn e).elim⟩
  · exact ⟨fun _ => ⟨Tryz.f300, by kernel_rfl, h300⟩, fun k e => (nx_fn e).elim, fun m z e => (nf_fn e).elim⟩
  · exact ⟨fun h => absurd rfl h, fun k e => (nx_no e).elim, fun m z e => (nf_no e).elim⟩
  · exact ⟨fun h => absurd rfl h, fun k e => (nx_no e).elim, fun m z e => (nf_no e).elim⟩
  · exact ⟨fun h => absurd rfl h, fun k e => (nx_no e).elim, fun m z e => (nf_no e).elim⟩
theorem page_1_3 (c : D) : EntOk ⟨.d1, .d3, c⟩ := by
  cases c
  · exact ⟨fun _ => ⟨Tryz.f304, by kernel_rfl, h304⟩, fun k e => (nx_fn e).elim, fun m z e => (nf_fn e).elim⟩
  · exact ⟨fun h => absurd rfl h, fun k e => (nx_no e).elim, fun m z e => (nf_no e).elim⟩
  · exact ⟨fun _ => ⟨Tryz.f306, by kernel_rfl, h306⟩, fun k e => (nx_fn e).elim, fun m z e => (nf_fn e).elim⟩
  · exact ⟨fun h => absurd rfl h, fun k e => (nx_no e).elim, fun m z e => (nf_no e).elim⟩
  · exact ⟨fun h => absurd rfl h, fun k e => (nx_no e).elim, fun m z e => (nf_no e).elim⟩
  · exact ⟨fun h => absurd rfl h, fun k e => (nx_no e).elim, fun m z e => (nf_no e).elim⟩
  · exact ⟨fun h => absurd rfl h, fun k e => (nx_no e).elim, fun m z e => (nf_no e).elim⟩
  · exact ⟨fun _ => ⟨Tryz.f311, by kernel_rfl, h311⟩, fun k e => (nx_fn e).elim, fun m z e => (nf_fn e).elim⟩
  · exact ⟨fun _ => ⟨Tryz.f312, by kernel_rfl, h312⟩, fun k e => (nx_fn e).elim, fun m z e => (nf_fn e).elim⟩
  · exact ⟨fun _ => ⟨Tryz.f313, by kernel_rfl, h313⟩, fun k e => (nx_fn e).elim, fun m z e => (nf_fn e).elim⟩
  · exact ⟨fun _ => ⟨Tryz.f314, by kernel_rfl, h314⟩, fun k e => (nx_fn e).elim, fun m z e => (nf_fn e).elim⟩
  · exact ⟨fun _ => ⟨Tryz.f315, by kernel_rfl, h315⟩, fun k e => (nx_fn e).elim, fun m z e => (nf_fn e).elim⟩
  · exact ⟨fun h => absurd rfl h, fun k e => (nx_no e).elim, fun m z e => (nf_no e).elim⟩
  · exact ⟨fun h => absurd rfl h, fun k e => (nx_no e).elim, fun m z e => (nf_no e).elim⟩
  · exact ⟨fun _ => ⟨Tryz.f318, by kernel_rfl, h318⟩, fun k e => (nx_fn e).elim, fun m z e => (nf_fn e).elim⟩
  · exact ⟨fun h => absurd rfl h, fun k e => (nx_no e).elim, fun m z e => (nf_no e).elim⟩
theorem page_1_4 (c : D) : EntOk ⟨.d1, .d4, c⟩ := by
  cases c
  · exact ⟨fun h => absurd rfl h, fun k e => (nx_no e).elim, fun m z e => (nf_no e).elim⟩
  · exact ⟨fun h => absurd rfl h, fun k e => (nx_no e).elim, fun m z e => (nf_no e).elim⟩
  · exact ⟨fun _ => ⟨Tryz.f322, by kernel_rfl, h322⟩, fun k e => (nx_fn e).elim, fun m z e => (nf_fn e).elim⟩
  · exact ⟨fun h => absurd rfl h, fun k e => (nx_no e).elim, fun m z e => (nf_no e).elim⟩
  · exact ⟨fun h => absurd rfl h, fun k e => (nx_no e).elim, fun m z e => (nf_no e).elim⟩
  · exact ⟨fun h => absurd rfl h, fun k e => (nx_no e).elim, fun m z e => (nf_no e).elim⟩
  · exact ⟨fun h => absurd rfl h, fun k e => (nx_no e).elim, fun m z e => (nf_no e).elim⟩
  · exact ⟨fun h => absurd rfl h, fun k e => (nx_no e).elim, fun m z e => (nf_no e).elim⟩
  · exact ⟨fun h => absurd rfl h, fun k e => (nx_no e).elim, fun m z e => (nf_no e).elim⟩
  · exact ⟨fun h => absurd rfl h, fun k e => (nx_no e).elim, fun m z e => (nf_no e).elim⟩
  · exact ⟨fun h => absurd rfl h, fun k e => (nx_no e).elim, fun m z e => (nf_no e).elim⟩
  · exact ⟨fun h => absurd rfl h, fun k e => (nx_no e).elim, fun m z e => (nf_no e).elim⟩
  · exact ⟨fun h => absurd rfl h, fun k e => (nx_no e).elim, fun m z e => (nf_no e).elim⟩
  · exact ⟨fun h => absurd rfl h, fun k e => (nx_no e).elim, fun m z e => (nf_no e).elim⟩
  · exact ⟨fun h => absurd rfl h, fun k e => (nx_no e).elim, fun m z e => (nf_no e).elim⟩
  · exact ⟨fun h => absurd rfl h, fun k e => (nx_no e).elim, fun m z e => (nf_no e).elim⟩
theorem noPageE (b c : D) : QF.get c (QF2.get b noQ2) = .no := by cases b <;> cases c <;> rfl
theorem noQE (c : D) : QF.get c noQ = .no := by cases c <;> rfl
theorem row_0 (b c : D) : EntOk ⟨.d0, b, c⟩ := by
  cases b
  · exact page_0_0 c
  · exact page_0_1 c
  · exact page_0_2 c
  · exact page_0_3 c
  · exact page_0_4 c
  · exact page_0_5 c
  · exact page_0_6 c
  · exact page_0_7 c
  · exact page_0_8 c
  · exact page_0_9 c
  · exact page_0_10 c
  · exact page_0_11 c
  · exact page_0_12 c
  · exact page_0_13 c
  · exact page_0_14 c
  · exact page_0_15 c
theorem row_1 (b c : D) : EntOk ⟨.d1, b, c⟩ := by
  cases b
  · exact page_1_0 c
  · exact page_1_1 c
  · exact page_1_2 c
  · exact page_1_3 c
  · exact page_1_4 c
  · exact ⟨fun h => absurd (noQE c) h, fun k e => (nx_no ((noQE c).symm.trans e)).elim, fun m z e => (nf_no ((noQE c).symm.trans e)).elim⟩
  · exact ⟨fun h => absurd (noQE c) h, fun k e => (nx_no ((noQE c).symm.trans e)).elim, fun m z e => (nf_no ((noQE c).symm.trans e)).elim⟩
  · exact ⟨fun h => absurd (noQE c) h, fun k e => (nx_no ((noQE c).symm.trans e)).elim, fun m z e => (nf_no ((noQE c).symm.trans e)).elim⟩
  · exact ⟨fun h => absurd (noQE c) h, fun k e => (nx_no ((noQE c).symm.trans e)).elim, fun m z e => (nf_no ((noQE c).symm.trans e)).elim⟩
  · exact ⟨fun h => absurd (noQE c) h, fun k e => (nx_no ((noQE c).symm.trans e)).elim, fun m z e => (nf_no ((noQE c).symm.trans e)).elim⟩
  · exact ⟨fun h => absurd (noQE c) h, fun k e => (nx_no ((noQE c).symm.trans e)).elim, fun m z e => (nf_no ((noQE c).symm.trans e)).elim⟩
  · exact ⟨fun h => absurd (noQE c) h, fun k e => (nx_no ((noQE c).symm.trans e)).elim, fun m z e => (nf_no ((noQE c).symm.trans e)).elim⟩
  · exact ⟨fun h => absurd (noQE c) h, fun k e => (nx_no ((noQE c).symm.trans e)).elim, fun m z e => (nf_no ((noQE c).symm.trans e)).elim⟩
  · exact ⟨fun h => absurd (noQE c) h, fun k e => (nx_no ((noQE c).symm.trans e)).elim, fun m z e => (nf_no ((noQE c).symm.trans e)).elim⟩
  · exact ⟨fun h => absurd (noQE c) h, fun k e => (nx_no ((noQE c).symm.trans e)).elim, fun m z e => (nf_no ((noQE c).symm.trans e)).elim⟩
  · exact ⟨fun h => absurd (noQE c) h, fun k e => (nx_no ((noQE c).symm.trans e)).elim, fun m z e => (nf_no ((noQE c).symm.trans e)).elim⟩
theorem ent_ok (f : Fx) : EntOk f := by
  obtain ⟨a, b, c⟩ := f
  cases a
  · exact row_0 b c
  · exact row_1 b c
  · exact ⟨fun h => absurd (noPageE b c) h, fun k e => (nx_no ((noPageE b c).symm.trans e)).elim, fun m z e => (nf_no ((noPageE b c).symm.trans e)).elim⟩
  · exact ⟨fun h => absurd (noPageE b c) h, fun k e => (nx_no ((noPageE b c).symm.trans e)).elim, fun m z e => (nf_no ((noPageE b c).symm.trans e)).elim⟩
  · exact ⟨fun h => absurd (noPageE b c) h, fun k e => (nx_no ((noPageE b c).symm.trans e)).elim, fun m z e => (nf_no ((noPageE b c).symm.trans e)).elim⟩
  · exact ⟨fun h => absurd (noPageE b c) h, fun k e => (nx_no ((noPageE b c).symm.trans e)).elim, fun m z e => (nf_no ((noPageE b c).symm.trans e)).elim⟩
  · exact ⟨fun h => absurd (noPageE b c) h, fun k e => (nx_no ((noPageE b c).symm.trans e)).elim, fun m z e => (nf_no ((noPageE b c).symm.trans e)).elim⟩
  · exact ⟨fun h => absurd (noPageE b c) h, fun k e => (nx_no ((noPageE b c).symm.trans e)).elim, fun m z e => (nf_no ((noPageE b c).symm.trans e)).elim⟩
  · exact ⟨fun h => absurd (noPageE b c) h, fun k e => (nx_no ((noPageE b c).symm.trans e)).elim, fun m z e => (nf_no ((noPageE b c).symm.trans e)).elim⟩
  · exact ⟨fun h => absurd (noPageE b c) h, fun k e => (nx_no ((noPageE b c).symm.trans e)).elim, fun m z e => (nf_no ((noPageE b c).symm.trans e)).elim⟩
  · exact ⟨fun h => absurd (noPageE b c) h, fun k e => (nx_no ((noPageE b c).symm.trans e)).elim, fun m z e => (nf_no ((noPageE b c).symm.trans e)).elim⟩
  · exact ⟨fun h => absurd (noPageE b c) h, fun k e => (nx_no ((noPageE b c).symm.trans e)).elim, fun m z e => (nf_no ((noPageE b c).symm.trans e)).elim⟩
  · exact ⟨fun h => absurd (noPageE b c) h, fun k e => (nx_no ((noPageE b c).symm.trans e)).elim, fun m z e => (nf_no ((noPageE b c).symm.trans e)).elim⟩
  · exact ⟨fun h => absurd (noPageE b c) h, fun k e => (nx_no ((noPageE b c).symm.trans e)).elim, fun m z e => (nf_no ((noPageE b c).symm.trans e)).elim⟩
  · exact ⟨fun h => absurd (noPageE b c) h, fun k e => (nx_no ((noPageE b c).symm.trans e)).elim, fun m z e => (nf_no ((noPageE b c).symm.trans e)).elim⟩
  · exact ⟨fun h => absurd (noPageE b c) h, fun k e => (nx_no ((noPageE b c).symm.trans e)).elim, fun m z e => (nf_no ((noPageE b c).symm.trans e)).elim⟩
theorem table : Table Tryz.prog tab 5 := ⟨fun n ops l h => drawn_ok (by kernel_rfl) h, fun f => (ent_ok f).1, fun f => (ent_ok f).2.1, fun f => (ent_ok f).2.2⟩
end Go.Proofs.YtoipldpekiikjaaGreatDoor.Clo
